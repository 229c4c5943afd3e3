/- Buddies in memory: Free; Alloc of what may not be asked. No condition. -/
import Derived.Test.YtjkknjohmekeiaaBuddyG
import Derived.Test.YtjkknjohmekeiaaBuddyE
namespace Go.Proofs.Ytjkknjohmekeiaa
open Go.RowKit

set_option maxRecDepth 100000 in
set_option maxHeartbeats 2000000 in
theorem alloc72_bad (w : World) (bb base : Nat) (v : Value) (l : List T3) (h : BR w bb base v l) (h0 : 0 < l.length) (order cache : Int) (hbad : ¬ ((0 ≤ order ∧ order ≤ 10) ∧ 0 ≤ cache ∧ cache ≤ 8)) :
    Calls Try.prog 72 #[.pointer (some ⟨bb, 0, none⟩), .int .i64 order, .int .i64 cache] w fun e w' => e = .returned (.tuple #[.int .i64 0, .int .i64 2]) ∧ w = w' := by
  have hno := none112_no w bb base _ l h h0
  by_cases h1 : order < 0
  · go_enter Try.func72, Try.ntmps72
    go_wp2_with fail
    refine hno.mono ?_
    rintro e w1 ⟨rfl, rfl⟩
    go_wp2_with fail
    go_ret2
    exact ⟨rfl, rfl⟩
  · by_cases h2 : 10 < order
    · go_enter Try.func72, Try.ntmps72
      go_wp2_with fail
      refine hno.mono ?_
      rintro e w1 ⟨rfl, rfl⟩
      go_wp2_with fail
      go_ret2
      exact ⟨rfl, rfl⟩
    · by_cases h3 : cache < 0
      · go_enter Try.func72, Try.ntmps72
        go_wp2_with fail
        refine hno.mono ?_
        rintro e w1 ⟨rfl, rfl⟩
        go_wp2_with fail
        go_ret2
        exact ⟨rfl, rfl⟩
      · have h4 : 8 < cache := by omega
        go_enter Try.func72, Try.ntmps72
        go_wp2_with fail
        refine hno.mono ?_
        rintro e w1 ⟨rfl, rfl⟩
        go_wp2_with fail
        go_ret2
        exact ⟨rfl, rfl⟩

/-- May a page be given back? -/
def outAt (l : List T3) (page : Int) : Bool := decide (0 ≤ page) && (decide (page < l.length) && decide ((nth l page.toNat).a = 2))
set_option maxRecDepth 100000 in
set_option maxHeartbeats 2000000 in
theorem free69_bad (w : World) (bb base : Nat) (v : Value) (l : List T3) (h : BR w bb base v l) (h0 : 0 < l.length) (page : Int) (hbad : outAt l page = false) :
    Calls Try.prog 69 #[.pointer (some ⟨bb, 0, none⟩), .int .i64 page] w fun e w' => e = .returned (.int .i64 60) ∧ w = w' := by
  obtain ⟨a, cap, rfl, hlc, hcap⟩ := h.val
  have hno := none112_no w bb base _ l h h0
  have c0 := h.b.cell' (i := 0) rfl
  by_cases h1 : page < 0
  · clear hbad
    go_enter Try.func69, Try.ntmps69
    go_wp2_with fail
    refine hno.mono ?_
    rintro e w1 ⟨rfl, rfl⟩
    go_wp2_with fail
    go_ret
    exact ⟨rfl, rfl⟩
  · by_cases h2 : (l.length : Int) ≤ page
    · clear hbad
      go_enter Try.func69, Try.ntmps69
      go_wp2_with fail
      refine hno.mono ?_
      rintro e w1 ⟨rfl, rfl⟩
      go_wp2_with fail
      go_ret
      exact ⟨rfl, rfl⟩
    · obtain ⟨i, rfl⟩ : ∃ i : Nat, page = i := ⟨page.toNat, by omega⟩
      have hi : i < l.length := by omega
      have hk : ((nth l i).a != 2) = true := by
        unfold outAt at hbad
        rw [decide_eq_true (by omega), decide_eq_true (by omega)] at hbad
        simp at hbad
        simpa using hbad
      obtain ⟨b, off, rfl, _, _, x0, x1, x2⟩ := h.rd.at hi
      clear hbad
      go_enter Try.func69, Try.ntmps69
      go_wp2_with fail
      refine hno.mono ?_
      rintro e w1 ⟨rfl, rfl⟩
      go_wp2_with fail
      go_ret
      exact ⟨rfl, rfl⟩

theorem oth_bd {i k : Nat} (h : i % pw k = 0) : oth i k ≤ i + pw k := by
  by_cases h1 : i % pw (k + 1) = 0
  · rw [oth_lo h1]; exact Nat.le_refl _
  · obtain ⟨_, _, h3⟩ := oth_hi h h1
    rw [h3]; omega
/-- What grows stays a block that may be. -/
theorem merge_al {l : List T3} : ∀ (f i o : Nat), 10 - o ≤ f → o ≤ 10 → Va l → i % pw o = 0 → i + pw o ≤ l.length →
    (mergeL l i o).o ≤ 10 ∧ (mergeL l i o).i % pw (mergeL l i o).o = 0 ∧ (mergeL l i o).i + pw (mergeL l i o).o ≤ l.length
  | 0, i, o, hf, ho, hv, h1, h2 => by rw [merge_top l (by omega)]; exact ⟨ho, h1, h2⟩
  | f + 1, i, o, hf, ho, hv, h1, h2 => by
    by_cases h10 : o < 10
    · cases hb : freeB l (oth i o) o
      · rw [merge_no h10 hb]; exact ⟨ho, h1, h2⟩
      · rw [merge_yes h10 hb]
        have hs := pw_succ o
        obtain ⟨_, _, g1, g2⟩ := free_ok hv hb
        by_cases hal : i % pw (o + 1) = 0
        · rw [oth_lo hal] at g2 ⊢
          rw [Nat.min_eq_left (by omega)]
          exact merge_al f i (o + 1) (by omega) (by omega) hv hal (by omega)
        · obtain ⟨k1, k2, k3⟩ := oth_hi h1 hal
          rw [k3] at g2 ⊢
          rw [Nat.min_eq_right (by omega)]
          exact merge_al f (i - pw o) (o + 1) (by omega) (by omega) hv k2 (by omega)
    · rw [merge_top l (by omega)]; exact ⟨ho, h1, h2⟩

set_option maxRecDepth 100000 in
set_option maxHeartbeats 6400000 in
theorem free69_spec (w : World) (bb base : Nat) (v : Value) (l : List T3) (h : BR w bb base v l) (h0 : 0 < l.length) (hv : Va l) (i : Nat) (hi : i < l.length) (hout : (nth l i).a = 2) :
    Calls Try.prog 69 #[.pointer (some ⟨bb, 0, none⟩), .int .i64 i] w fun e w' => e = .returned (.int .i64 0) ∧ BR w' bb base v (freeT l i) ∧ Ext (OwnOf v) w w' := by
  obtain ⟨a, cap, rfl, hlc, hcap⟩ := h.val
  have hn := h.n
  have hbl := h.b.lt
  have hvlt : ∀ x, OwnOf (.slice a l.length cap) x → x < w.heap.size := fun x hx => (h.p.lt x hx).2
  have hno := none112_no w bb base _ l h h0
  have c0 := h.b.cell' (i := 0) rfl
  have hr := hd_of_kind hv hi (by rw [hout]; decide)
  obtain ⟨g1, g2, g3, _⟩ := hv i hr hi
  obtain ⟨hb0, hb1⟩ := headB_range g1
  obtain ⟨k, hk⟩ : ∃ k : Nat, (nth l i).b = k := ⟨(nth l i).b.toNat, by omega⟩
  have hszk : sz (nth l i) = pw k := by unfold sz pw; rw [hk]; rfl
  rw [hszk] at g2 g3
  have hk10 : k ≤ 10 := by omega
  have hT : Hid (freeT l i = setL l (mergeL l i k).i ⟨0, (mergeL l i k).o, 0⟩) := by show _ = _; unfold freeT; rw [hk]; rfl
  have hmal := merge_al (10 - k) i k (Nat.le_refl _) hk10 hv g2 g3
  obtain ⟨b, off, rfl, hbl0, _, x0, x1, x2⟩ := h.rd.at hi
  have hk2 : ((nth l i).a != 2) = false := by rw [hout]; rfl
  rw [hk] at x1
  obtain ⟨n, hnn⟩ : ∃ n, l.length = n := ⟨_, rfl⟩
  have hnn' := Lib.hid hnn
  rw [hnn] at hlc hn h hvlt hi g3 c0 ⊢
  clear hnn hk hout hb0 hb1 hszk
  have hmal' := Lib.hid hmal
  clear hmal g1
  have hd1 : decide ((i : Int) < 0) = false := decide_eq_false (by omega)
  have hd2 : decide ((n : Int) ≤ (i : Int)) = false := decide_eq_false (by omega)
  have hd3 : decide (n ≤ i) = false := decide_eq_false (by omega)
  go_enter Try.func69, Try.ntmps69
  go_wp2_with fail
  refine hno.mono ?_
  rintro e w1 ⟨rfl, rfl⟩
  obtain ⟨X, hX1⟩ : ∃ X, w.heap.size = X := ⟨_, rfl⟩
  have hXw : w.heap.size ≤ X := by omega
  obtain ⟨W, hW⟩ : ∃ W, w.alloc (.cells #[.int .i64 i, .int .i64 k] 162) = W := ⟨_, rfl⟩
  have hxa : Ext No w W := by rw [← hW]; exact (Ext.refl _ _).alloc _
  have hXb : Blk W X [.int .i64 i, .int .i64 k] 162 := by rw [← hW]; exact Blk.new' hX1.symm
  have hB := h.extNo hxa
  clear hno h
  go_wp2_with fail
  clear hX1 hW x0 x1 x2 c0
  go_loopg [] (10 - k) (fun g wr => ∃ (j o : Nat), 10 - o ≤ g ∧ o ≤ 10 ∧ j % pw o = 0 ∧ j + pw o ≤ n ∧ Blk wr X [.int .i64 j, .int .i64 o] 162 ∧ BR wr bb base (.slice (some ⟨b, off, none⟩) n cap) l ∧ Ext No w wr ∧ mergeL l i k = mergeL l j o)
  case atStart => exact ⟨i, k, Nat.le_refl _, hk10, g2, g3, hXb, hB, hxa, rfl⟩
  case round =>
    clear hXb hB hxa
    obtain ⟨j, o, hg, ho, hj1, hj2, hXb, hB, hx, hm⟩ := hrel
    obtain ⟨wz, hwz⟩ : ∃ wz, wr = wz := ⟨_, rfl⟩
    rw [hwz] at hXb hB hx ⊢
    clear hwz
    have hg' := Lib.hid hg
    have hm' := Lib.hid hm
    have hj1' := Lib.hid hj1
    clear hg hm
    have v0 := hB.b.cell' (i := 0) rfl
    have hbl2 := hB.b.lt
    have hXl := hXb.lt
    have y0 := hXb.cell' (i := 0) rfl
    have y1 := hXb.cell' (i := 1) rfl
    by_cases h10 : o < 10
    · have hos : oth j o < 4611686018427387904 := by have := oth_bd hj1; have := pw_le ho; omega
      clear hj1
      go_wp2_with fail
      refine (other116_spec _ j o (by omega) (by omega) hos).mono ?_
      rintro e w3 ⟨rfl, hx3⟩
      have hB3 := hB.extNo hx3
      have hX3 := hXb.extNo hx3
      have hx3' := hx.transNo hx3
      clear hB hXb hx v0 y0 y1
      go_wp2_with fail
      refine (free115_spec _ bb base _ l hB3 (oth j o) o hos).mono ?_
      rintro e w4 ⟨rfl, hx4⟩
      have hB4 := hB3.extNo hx4
      have hX4 := hX3.extNo hx4
      have hx4' := hx3'.transNo hx4
      clear hB3 hX3 hx3'
      have y0 := hX4.cell' (i := 0) rfl
      have y1 := hX4.cell' (i := 1) rfl
      have hX4l := hX4.lt
      cases hb : freeB l (oth j o) o
      · have hmm : Hid (mergeL l i k = ⟨j, o⟩) := by show _ = _; rw [hm'.out, merge_no h10 hb]
        clear hb
        go_wp2_with fail
        refine (lay117_spec w4 bb base _ l hB4 j o ho (by rw [hnn'.out]; exact hj2) ⟨0, 0, 0⟩).mono ?_
        rintro e w5 ⟨⟨u5, rfl⟩, hB5, hx5⟩
        clear y0 y1
        go_wp2_with fail
        go_ret
        rw [hT.out, hmm.out]
        exact ⟨rfl, hB5, hx4'.of_no.transSame hx5⟩
      · have hmm : Hid (mergeL l i k = mergeL l (min j (oth j o)) (o + 1)) := by show _ = _; rw [hm'.out, merge_yes h10 hb]
        have hfo := free_ok hv hb
        have hal : Hid ((min j (oth j o)) % pw (o + 1) = 0 ∧ min j (oth j o) + pw (o + 1) ≤ n) := by
          show _ ∧ _
          have hs := pw_succ o
          obtain ⟨_, _, q1, q2⟩ := hfo
          rw [hnn'.out] at q2
          by_cases hal : j % pw (o + 1) = 0
          · rw [oth_lo hal] at q2 ⊢
            rw [Nat.min_eq_left (by omega)]
            exact ⟨hal, by omega⟩
          · obtain ⟨k1, k2, k3⟩ := oth_hi hj1'.out hal
            rw [k3] at q2 ⊢
            rw [Nat.min_eq_right (by omega)]
            exact ⟨k2, by omega⟩
        have hmin : (if oth j o < j then (oth j o : Int) else (j : Int)) = ((min j (oth j o) : Nat) : Int) := by split <;> omega
        clear hb hfo
        obtain ⟨z, hz⟩ : ∃ z, oth j o = z := ⟨_, rfl⟩
        rw [hz] at hmin hmm hal hos
        obtain ⟨mn, hmn⟩ : ∃ mn, min j z = mn := ⟨_, rfl⟩
        rw [hmn] at hmin hmm hal
        have hz' := Lib.hid hz
        clear hz hmn
        have hfd : ∀ w : World, (Instr.field 162 (.agg #[.int .i64 z, .int .i64 o]) 0).run Try.prog w = .ok (.int .i64 z) w := fun _ => by kernel_rfl
        have ho1 : IntKind.i64.wrap ((o : Int) + 1) = (o : Int) + 1 := by rw [IntKind.wrap_i64]; omega
        have hxd : Ext No w4 w4.drew := (Ext.refl No w4).drew
        go_wp2_with fail
        refine anyZ_begin 10 (fun w' => w'.cell? ⟨X, 0, none⟩ = some (.int .i64 j) ∧ w'.cell? ⟨X, 1, none⟩ = some (.int .i64 o)) (by kernel_rfl) ?_
        have hC : (fun w' : World => w'.cell? ⟨X, 0, none⟩ = some (.int .i64 j) ∧ w'.cell? ⟨X, 1, none⟩ = some (.int .i64 o)) w4.drew := ⟨y0, y1⟩
        refine anyZ_take 0 (v := ?_) rfl (by kernel_rfl) (by kernel_rfl) (by kernel_rfl) (by kernel_rfl) (fun _ _ _ h => h) hC (Or.inl ⟨by rfl, ?_⟩) ?_
        rotate_left
        · (intro wq hq; (try dsimp only at hq); go_simp; with_reducible rfl)
        simp only [Act.put, List.setIfInBounds_toArray, List.set_cons_zero, List.set_cons_succ]
        refine anyZ_take 1 (v := ?_) rfl (by kernel_rfl) (by kernel_rfl) (by kernel_rfl) (by kernel_rfl) (fun _ _ _ h => h) hC (Or.inl ⟨by rfl, ?_⟩) ?_
        rotate_left
        · (intro wq hq; (try dsimp only at hq); go_simp; with_reducible rfl)
        simp only [Act.put, List.setIfInBounds_toArray, List.set_cons_zero, List.set_cons_succ]
        refine anyZ_take 2 (v := ?_) rfl (by kernel_rfl) (by kernel_rfl) (by kernel_rfl) (by kernel_rfl) (fun _ _ _ h => h) hC (Or.inl ⟨by rfl, ?_⟩) ?_
        rotate_left
        · (intro wq hq; (try dsimp only at hq); go_simp; with_reducible rfl)
        simp only [Act.put, List.setIfInBounds_toArray, List.set_cons_zero, List.set_cons_succ]
        refine anyZ_take 6 (v := ?_) rfl (by kernel_rfl) (by kernel_rfl) (by kernel_rfl) (by kernel_rfl) (fun _ _ _ h => h) hC (Or.inl ⟨by rfl, ?_⟩) ?_
        rotate_left
        · (intro wq hq; (try dsimp only at hq); go_simp; with_reducible rfl)
        simp only [Act.put, List.setIfInBounds_toArray, List.set_cons_zero, List.set_cons_succ]
        refine anyZ_take 7 (v := ?_) rfl (by kernel_rfl) (by kernel_rfl) (by kernel_rfl) (by kernel_rfl) (fun _ _ _ h => h) hC (Or.inl ⟨by rfl, ?_⟩) ?_
        rotate_left
        · (intro wq hq; (try dsimp only at hq); go_simp; with_reducible rfl)
        simp only [Act.put, List.setIfInBounds_toArray, List.set_cons_zero, List.set_cons_succ]
        refine anyZ_take 8 (v := ?_) rfl (by kernel_rfl) (by kernel_rfl) (by kernel_rfl) (by kernel_rfl) (fun _ _ _ h => h) hC (Or.inl ⟨by rfl, ?_⟩) ?_
        rotate_left
        · (intro wq hq; (try dsimp only at hq); go_simp; with_reducible rfl)
        simp only [Act.put, List.setIfInBounds_toArray, List.set_cons_zero, List.set_cons_succ]
        refine anyZ_step 3 rfl (by kernel_rfl) (fun K hK => ?_)
        go_simp
        refine (other116_spec _ j o ho (by omega) (by rw [hz'.out]; exact hos)).mono ?_
        rintro e w5 ⟨rfl, hx5⟩
        rw [hz'.out]
        have hX5 := (hX4.extNo hxd).extNo hx5
        have hC5 : (fun w' : World => w'.cell? ⟨X, 0, none⟩ = some (.int .i64 j) ∧ w'.cell? ⟨X, 1, none⟩ = some (.int .i64 o)) w5 := ⟨hx5.cell (w := w4.drew) y0 id, hx5.cell (w := w4.drew) y1 id⟩
        refine hK _ _ hC5 ?_
        clear hK K
        try simp only [Act.put, List.setIfInBounds_toArray, List.set_cons_zero, List.set_cons_succ]
        refine anyZ_take 4 (v := ?_) rfl (by kernel_rfl) (by kernel_rfl) (by kernel_rfl) (by kernel_rfl) (fun _ _ _ h => h) hC5 (Or.inl ⟨by rfl, ?_⟩) ?_
        rotate_left
        · (intro wq hq; (try dsimp only at hq); go_simp; with_reducible rfl)
        simp only [Act.put, List.setIfInBounds_toArray, List.set_cons_zero, List.set_cons_succ]
        refine anyZ_take 5 (v := ?_) rfl (by kernel_rfl) (by kernel_rfl) (by kernel_rfl) (by kernel_rfl) (fun _ _ _ h => h) hC5 (Or.inl ⟨by rfl, ?_⟩) ?_
        rotate_left
        · (intro wq hq; (try dsimp only at hq); go_simp; with_reducible rfl)
        simp only [Act.put, List.setIfInBounds_toArray, List.set_cons_zero, List.set_cons_succ]
        refine anyZ_take 9 (v := ?_) rfl (by kernel_rfl) (by kernel_rfl) (by kernel_rfl) (by kernel_rfl) (fun _ _ _ h => h) hC5 (Or.inl ⟨by rfl, ?_⟩) ?_
        rotate_left
        · (intro wq hq; (try dsimp only at hq); go_simp; with_reducible rfl)
        simp only [Act.put, List.setIfInBounds_toArray, List.set_cons_zero, List.set_cons_succ]
        have f0 := hX5.frozen 0
        have z0 := hX5.cell' (i := 0) rfl
        have q1 := (hX5.set 0 (.int .i64 mn)).cell' (i := 1) rfl
        have q2 := (hX5.set 0 (.int .i64 mn)).frozen 1
        refine anyZ_last rfl (by kernel_rfl) (fun K hK => ?_)
        go_simp
        refine hK _ _ ?_
        clear hK K
        try simp only [Act.put, List.setIfInBounds_toArray, List.set_cons_zero, List.set_cons_succ]
        refine anyZ_done (by kernel_rfl) ?_ _
        have hset : Ext (One X) w5 ((w5.setCell ⟨X, 0, none⟩ (.int .i64 mn)).setCell ⟨X, 1, none⟩ (.int .i64 (o + 1 : Nat))) := (Ext.set1 _ _ _ _).transSame (Ext.set1 _ _ _ _)
        have hX6 : Blk ((w5.setCell ⟨X, 0, none⟩ (.int .i64 mn)).setCell ⟨X, 1, none⟩ (.int .i64 (o + 1 : Nat))) X [.int .i64 mn, .int .i64 (o + 1 : Nat)] 162 := (hX5.set 0 _).set 1 _
        have hx6 := ((hx4'.transNo hxd).transNo hx5).trans hset (fun x hx' (e : x = X) => by omega)
        have hB6 := ((hB4.extNo hxd).extNo hx5).ext hset (fun e : bb = X => by omega) (fun x hx' (e : x = X) => by have := hvlt x hx'; omega)
        have hX6' := Lib.hid hX6
        rw [show ((o + 1 : Nat) : Int) = (o : Int) + 1 by omega] at hB6 hx6
        clear hset hX5 hX6 hB4 y0 y1 q1 q2 f0 z0
        go_wp2_with fail
        go_roundg (10 - (o + 1))
        case measure => have := hg'.out; omega
        case rel => exact ⟨mn, o + 1, Nat.le_refl _, by omega, hal.out.1, hal.out.2, hX6'.out, hB6, hx6, hmm.out⟩
    · have hmm : Hid (mergeL l i k = ⟨j, o⟩) := by show _ = _; rw [hm'.out, merge_top l (by omega)]
      clear hj1
      go_wp2_with fail
      refine (lay117_spec wz bb base _ l hB j o ho (by rw [hnn'.out]; exact hj2) ⟨0, 0, 0⟩).mono ?_
      rintro e w5 ⟨⟨u5, rfl⟩, hB5, hx5⟩
      clear y0 y1 v0
      go_wp2_with fail
      go_ret
      rw [hT.out, hmm.out]
      exact ⟨rfl, hB5, hx.of_no.transSame hx5⟩
end Go.Proofs.Ytjkknjohmekeiaa
