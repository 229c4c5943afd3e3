/- Buddies in memory: New, Left, Pages, Whole. No condition. -/
import Derived.Test.YtjkknjohmekeiaaBuddyD
import Derived.Test.YtjkknjohmekeiaaFrameG
import Derived.Test.YtjkknjohmekeiaaFrameI
namespace Go.Proofs.Ytjkknjohmekeiaa
open Go.RowKit

set_option maxRecDepth 100000 in
set_option maxHeartbeats 2000000 in
theorem equal114_spec (w : World) (a b : Value) (xs ys : List T3) (F G : Nat → Prop) (ha : RdT F w a xs) (hb : RdT G w b ys) :
    Calls Try.prog 114 #[a, b] w fun e w' => e = .returned (.bool (decide (xs = ys))) ∧ Ext No w w' := by
  obtain ⟨aa, ca, rfl, hla, hca⟩ := ha.val
  obtain ⟨ab, cb, rfl, _, _⟩ := hb.val
  by_cases hl : xs.length = ys.length
  · have hl' := Lib.hid hl
    have hne : (((xs.length : Nat) : Int) != (ys.length : Nat)) = false := by rw [hl]; simp
    have heq : ((xs.length : Nat) : Int) = (ys.length : Nat) := by rw [hl]
    rw [← hl] at hb ⊢
    clear hne heq
    go_enter Try.func114, Try.ntmps114
    go_wp2_with fail
    go_loopg [13] xs.length (fun g i wr => ∃ k : Nat, k + g = xs.length ∧ i = .int .i64 k ∧ (∀ j, j < k → nth xs j = nth ys j) ∧ ∃ n, wr = w.drewN n)
    case atStart => exact ⟨0, by omega, rfl, by omega, 0, rfl⟩
    case round =>
      obtain ⟨k, hk, rfl, hall, m, rfl⟩ := hrel
      have hk' := Lib.hid hk; have hall' := Lib.hid hall
      have hkn : k ≤ xs.length := by omega
      clear hk hall
      by_cases hlt : k < xs.length
      · obtain ⟨b1, o1, rfl, _, _, x0, x1, x2⟩ := ha.at hlt
        obtain ⟨b2, o2, rfl, _, _, y0, y1, y2⟩ := hb.at (k := k) (by omega)
        by_cases he : nth xs k = nth ys k
        · have e1 : ((nth xs k).a == (nth ys k).a) = true := by rw [he]; simp
          have e2 : ((nth xs k).b == (nth ys k).b) = true := by rw [he]; simp
          have e3 : ((nth xs k).c == (nth ys k).c) = true := by rw [he]; simp
          have he' := Lib.hid he; clear he
          go_wp2
          go_quiet (fail)
          go_wp2
          go_roundg (xs.length - (k + 1))
          case measure => have := hk'.out; omega
          case rel =>
            refine ⟨k + 1, by omega, by go_num, fun j hj => ?_, _, rfl⟩
            by_cases hjk : j < k
            · exact hall'.out j hjk
            · obtain rfl : j = k := by omega
              exact he'.out
        · have hr : Hid (decide (xs = ys) = false) := decide_eq_false (fun e => he (by rw [e]))
          rcases T3.ne_cases he with e1 | ⟨e1, e2⟩ | ⟨e1, e2, e3⟩
          all_goals
            clear he
            go_wp2
            go_quiet (fail)
            go_wp2
            go_ret
            exact ⟨by rw [hr.out]; rfl, ((Ext.refl No w).drewN _).drewN _⟩
      · have hr : Hid (decide (xs = ys) = true) := by
          apply decide_eq_true
          apply List.ext_getElem hl'.out
          intro j h1 h2
          have := hall'.out j (by omega)
          rw [nth_eq h1, nth_eq h2] at this; exact this
        go_wp2_with fail
        go_ret
        exact ⟨by rw [hr.out]; rfl, (Ext.refl No w).drewN _⟩
  · have hr : Hid (decide (xs = ys) = false) := decide_eq_false (fun e => hl (by rw [e]))
    have hne : (((xs.length : Nat) : Int) == (ys.length : Nat)) = false := by rw [beq_eq_false_iff_ne]; omega
    go_enter Try.func114, Try.ntmps114
    go_wp2_with fail
    go_ret
    exact ⟨by rw [hr.out]; rfl, Ext.refl _ _⟩

theorem mk_page : MkTy 96 98 3 24 (.int .i64 0) := .mk' (z := .agg #[.int .i64 0, .int .i64 0, .int .i64 0]) (by kernel_rfl) Try.underlying96 rfl (by decide)
/-- Pages that are nothing. -/
def zeros (n : Nat) : List T3 := List.replicate n ⟨0, 0, 0⟩
theorem zeros_len (n : Nat) : (zeros n).length = n := by simp [zeros]
theorem zeros_cells : ∀ n, t3sCells (zeros n) = List.replicate (n * 3) (.int .i64 0)
  | 0 => rfl
  | n + 1 => by
    have ih := zeros_cells n
    unfold zeros at ih ⊢
    rw [List.replicate_succ, show (n + 1) * 3 = n * 3 + 1 + 1 + 1 by omega, List.replicate_succ, List.replicate_succ, List.replicate_succ, ← ih]
    rfl
/-- Whole pages. -/
def full (n : Nat) : List T3 := wholeW (zeros n) 0

theorem full_def (n : Nat) : wholeW (zeros n) 0 = full n := rfl
theorem br_made (w : World) (n : Nat) (hn : n ≤ 1024) :
    BR ((w.alloc (.cells (List.replicate (n * 3) (.int .i64 0)).toArray 98)).alloc (.cells #[.slice (some ⟨w.heap.size, 0, none⟩) n n] 126)) (w.heap.size + 1) w.heap.size (.slice (some ⟨w.heap.size, 0, none⟩) n n) (zeros n) := by
  have hB : Blk (w.alloc (.cells (List.replicate (n * 3) (.int .i64 0)).toArray 98)) w.heap.size (List.replicate (n * 3) (.int .i64 0)) 98 := Blk.new _ _ _
  have hB2 := hB.alloc (.cells #[.slice (some ⟨w.heap.size, 0, none⟩) n n] 126)
  refine ⟨Blk.new' (by simp), ⟨by rw [t3sCells_len, zeros_len], .inr ⟨w.heap.size, n, (List.replicate (n * 3) (.int .i64 0)).toArray, by rw [zeros_len], Nat.le_refl _, ?_, ?_, ?_, by simp, ?_⟩⟩, ?_, by rw [zeros_len]; exact hn⟩
  · unfold Blk at hB2; simpa using hB2
  · rw [zeros_len]; exact Nat.le_refl _
  · unfold maxLen; omega
  · rw [zeros_len, zeros_cells]; simp
  · intro h; simp [OwnOf, Value.ownBlock] at h
set_option maxRecDepth 100000 in
set_option maxHeartbeats 2000000 in
theorem new73_spec (w : World) (n : Nat) (h1 : 1 ≤ n) (h2 : n ≤ 1024) :
    Calls Try.prog 73 #[.int .i64 n] w fun e w' => ∃ p v base, e = .returned (.tuple #[.pointer (some ⟨p, 0, none⟩), .int .i64 0]) ∧ BR w' p base v (full n) ∧ w.heap.size ≤ p ∧ (∀ x, OwnOf v x → w.heap.size ≤ x) ∧ Ext No w w' := by
  have hmk := mk_run mk_page n (by omega) (by omega)
  go_enter Try.func73, Try.ntmps73
  go_wp2_with fail
  refine (whole113_spec _ (w.heap.size + 1) w.heap.size _ _ (br_made w n h2)).mono ?_
  rintro e w' ⟨⟨u, rfl⟩, hB, hx⟩
  have hxa : Ext No w ((w.alloc (.cells (List.replicate (n * 3) (.int .i64 0)).toArray 98)).alloc (.cells #[.slice (some ⟨w.heap.size, 0, none⟩) n n] 126)) := ((Ext.refl _ _).alloc _).alloc _
  have ho : ∀ x, OwnOf (.slice (some ⟨w.heap.size, 0, none⟩) n n) x → w.heap.size ≤ x := fun x hx => by
    simp [OwnOf, Value.ownBlock] at hx; omega
  go_wp2_with fail
  go_ret2
  exact ⟨_, _, _, rfl, hB, by omega, ho, hxa.transNew hx ho⟩
theorem new73_out (w : World) (n : Int) (h : n < 1 ∨ 1024 < n) :
    Calls Try.prog 73 #[.int .i64 n] w fun e w' => e = .returned (.tuple #[.pointer none, .int .i64 2]) ∧ w = w' := by
  by_cases h1 : n < 1
  · go_enter Try.func73, Try.ntmps73
    go_wp2_with fail
    go_ret2
    exact ⟨rfl, rfl⟩
  · have h2 : 1024 < n := by omega
    go_enter Try.func73, Try.ntmps73
    go_wp2_with fail
    go_ret2
    exact ⟨rfl, rfl⟩

section
variable (w : World) (bb base : Nat) (v : Value) (l : List T3)
theorem left67_spec (h : BR w bb base v l) (h0 : 0 < l.length) :
    Calls Try.prog 67 #[.pointer (some ⟨bb, 0, none⟩)] w fun e w' => e = .returned (.int .i64 (freeF l)) ∧ Ext No w w' := by
  have c0 := h.b.cell' (i := 0) rfl
  go_enter Try.func67, Try.ntmps67
  go_wp2_with fail
  refine (none112_no w bb base v l h h0).mono ?_
  rintro e w1 ⟨rfl, rfl⟩
  go_wp2_with fail
  refine (free64_spec w v l _ h.rd).mono ?_
  rintro e w2 ⟨rfl, hx⟩
  go_wp2_with fail
  go_ret
  exact ⟨rfl, hx⟩
theorem pages71_spec (h : BR w bb base v l) (h0 : 0 < l.length) :
    Calls Try.prog 71 #[.pointer (some ⟨bb, 0, none⟩)] w fun e w' => ∃ r, e = .returned r ∧ w'.ownsRow w.heap.size 98 3 r l.length (t3sCells l) ∧ Ext No w w' := by
  have c0 := h.b.cell' (i := 0) rfl
  have hn := h.n
  go_enter Try.func71, Try.ntmps71
  go_wp2_with fail
  refine (none112_no w bb base v l h h0).mono ?_
  rintro e w1 ⟨rfl, rfl⟩
  go_wp2_with fail
  refine (clone110_spec w v l _ h.rd (by omega)).mono ?_
  rintro e w2 ⟨r, rfl, hr, hx⟩
  go_wp2_with fail
  go_ret
  exact ⟨_, rfl, hr, hx⟩
set_option maxRecDepth 100000 in
set_option maxHeartbeats 2000000 in
theorem whole68_spec (h : BR w bb base v l) (h0 : 0 < l.length) :
    Calls Try.prog 68 #[.pointer (some ⟨bb, 0, none⟩)] w fun e w' => e = .returned (.bool (decide (l = full l.length))) ∧ Ext No w w' := by
  obtain ⟨a, cap, rfl, hlc, hcap⟩ := h.val
  have c0 := h.b.cell' (i := 0) rfl
  have hn := h.n
  have hbl := h.b.lt
  have hmk := mk_run mk_page l.length (by omega) (by omega)
  go_enter Try.func68, Try.ntmps68
  go_wp2_with fail
  refine (none112_no w bb base _ l h h0).mono ?_
  rintro e w1 ⟨rfl, rfl⟩
  go_wp2_with fail
  refine (whole113_spec _ (w.heap.size + 1) w.heap.size _ _ (br_made w l.length hn)).mono ?_
  rintro e w' ⟨⟨u, rfl⟩, hB, hx⟩
  have hxa : Ext No w ((w.alloc (.cells (List.replicate (l.length * 3) (.int .i64 0)).toArray 98)).alloc (.cells #[.slice (some ⟨w.heap.size, 0, none⟩) l.length l.length] 126)) := ((Ext.refl _ _).alloc _).alloc _
  have ho : ∀ x, OwnOf (.slice (some ⟨w.heap.size, 0, none⟩) l.length l.length) x → w.heap.size ≤ x := fun x hx => by
    simp [OwnOf, Value.ownBlock] at hx; omega
  have hX := hxa.transNew hx ho
  rw [full_def] at hB
  have d0 := hB.b.cell' (i := 0) rfl
  have hA := h.extNo hX
  have a0 := hA.b.cell' (i := 0) rfl
  clear c0 hmk
  go_wp2_with fail
  have hxd : Ext No w' w'.drew := (Ext.refl No w').drew
  refine anyZ_begin 10 (fun w' => w'.cell? ⟨bb, 0, none⟩ = some (.slice a l.length cap) ∧ w'.cell? ⟨w.heap.size + 1, 0, none⟩ = some (.slice (some ⟨w.heap.size, 0, none⟩) l.length l.length)) (by kernel_rfl) ?_
  have hC : (fun w' : World => w'.cell? ⟨bb, 0, none⟩ = some (.slice a l.length cap) ∧ w'.cell? ⟨w.heap.size + 1, 0, none⟩ = some (.slice (some ⟨w.heap.size, 0, none⟩) l.length l.length)) w'.drew := ⟨a0, d0⟩
  refine anyZ_take 0 (v := ?_) rfl (by kernel_rfl) (by kernel_rfl) (by kernel_rfl) (by kernel_rfl) (fun _ _ _ h => h) hC (Or.inl ⟨by rfl, ?_⟩) ?_
  rotate_left
  · (intro wq hq; (try dsimp only at hq); go_simp; with_reducible rfl)
  simp only [Act.put, List.setIfInBounds_toArray, List.set_cons_zero, List.set_cons_succ]
  refine anyZ_take 1 (v := ?_) rfl (by kernel_rfl) (by kernel_rfl) (by kernel_rfl) (by kernel_rfl) (fun _ _ _ h => h) hC (Or.inl ⟨by rfl, ?_⟩) ?_
  rotate_left
  · (intro wq hq; (try dsimp only at hq); go_simp; with_reducible rfl)
  simp only [Act.put, List.setIfInBounds_toArray, List.set_cons_zero, List.set_cons_succ]
  refine anyZ_take 2 (v := ?_) rfl (by kernel_rfl) (by kernel_rfl) (by kernel_rfl) (by kernel_rfl) (fun _ _ _ h => h) hC (Or.inl ⟨by rfl, ?_⟩) ?_
  rotate_left
  · (intro wq hq; (try dsimp only at hq); go_simp; with_reducible rfl)
  simp only [Act.put, List.setIfInBounds_toArray, List.set_cons_zero, List.set_cons_succ]
  refine anyZ_take 3 (v := ?_) rfl (by kernel_rfl) (by kernel_rfl) (by kernel_rfl) (by kernel_rfl) (fun _ _ _ h => h) hC (Or.inl ⟨by rfl, ?_⟩) ?_
  rotate_left
  · (intro wq hq; (try dsimp only at hq); go_simp; with_reducible rfl)
  simp only [Act.put, List.setIfInBounds_toArray, List.set_cons_zero, List.set_cons_succ]
  refine anyZ_take 4 (v := ?_) rfl (by kernel_rfl) (by kernel_rfl) (by kernel_rfl) (by kernel_rfl) (fun _ _ _ h => h) hC (Or.inl ⟨by rfl, ?_⟩) ?_
  rotate_left
  · (intro wq hq; (try dsimp only at hq); go_simp; with_reducible rfl)
  simp only [Act.put, List.setIfInBounds_toArray, List.set_cons_zero, List.set_cons_succ]
  refine anyZ_take 5 (v := ?_) rfl (by kernel_rfl) (by kernel_rfl) (by kernel_rfl) (by kernel_rfl) (fun _ _ _ h => h) hC (Or.inl ⟨by rfl, ?_⟩) ?_
  rotate_left
  · (intro wq hq; (try dsimp only at hq); go_simp; with_reducible rfl)
  simp only [Act.put, List.setIfInBounds_toArray, List.set_cons_zero, List.set_cons_succ]
  refine anyZ_take 6 (v := ?_) rfl (by kernel_rfl) (by kernel_rfl) (by kernel_rfl) (by kernel_rfl) (fun _ _ _ h => h) hC (Or.inl ⟨by rfl, ?_⟩) ?_
  rotate_left
  · (intro wq hq; (try dsimp only at hq); go_simp; with_reducible rfl)
  simp only [Act.put, List.setIfInBounds_toArray, List.set_cons_zero, List.set_cons_succ]
  refine anyZ_take 7 (v := ?_) rfl (by kernel_rfl) (by kernel_rfl) (by kernel_rfl) (by kernel_rfl) (fun _ _ _ h => h) hC (Or.inl ⟨by rfl, ?_⟩) ?_
  rotate_left
  · (intro wq hq; (try dsimp only at hq); go_simp; with_reducible rfl)
  simp only [Act.put, List.setIfInBounds_toArray, List.set_cons_zero, List.set_cons_succ]
  refine anyZ_step 8 rfl (by kernel_rfl) (fun K hK => ?_)
  go_simp
  refine (equal114_spec w'.drew _ _ l _ _ _ (hA.extNo hxd).rd (hB.extNo hxd).rd).mono ?_
  rintro e w2 ⟨rfl, hx2⟩
  have hC2 : (fun w' : World => w'.cell? ⟨bb, 0, none⟩ = some (.slice a l.length cap) ∧ w'.cell? ⟨w.heap.size + 1, 0, none⟩ = some (.slice (some ⟨w.heap.size, 0, none⟩) l.length l.length)) w2 := ⟨hx2.cell (w := w'.drew) a0 id, hx2.cell (w := w'.drew) d0 id⟩
  refine hK _ _ hC2 ?_
  clear hK K
  try simp only [Act.put, List.setIfInBounds_toArray, List.set_cons_zero, List.set_cons_succ]
  refine anyZ_take 9 (v := ?_) rfl (by kernel_rfl) (by kernel_rfl) (by kernel_rfl) (by kernel_rfl) (fun _ _ _ h => h) hC2 (Or.inl ⟨by rfl, ?_⟩) ?_
  rotate_left
  · (intro wq hq; (try dsimp only at hq); go_simp; with_reducible rfl)
  simp only [Act.put, List.setIfInBounds_toArray, List.set_cons_zero, List.set_cons_succ]
  refine anyZ_done (by kernel_rfl) ?_ _
  go_wp2_with fail
  go_ret
  exact ⟨rfl, (hX.transNo hxd).transNo hx2⟩
end
end Go.Proofs.Ytjkknjohmekeiaa
