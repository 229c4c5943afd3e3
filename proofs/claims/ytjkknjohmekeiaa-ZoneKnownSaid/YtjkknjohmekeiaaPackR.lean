/- Texts of ours, one behind the other (ZoneT, ZoneU, ZoneV, ZoneW): each says in its own first lines what it proves. No condition. -/
import Derived.Test.YtjkknjohmekeiaaPackQ
/- The document's zone in memory: has, back, near, out, Whole, Near, Left. No condition. -/
namespace Go.Proofs.Ytjkknjohmekeiaa
open Go.RowKit

def rfoot (z p : Nat) (v : Value) (F : Nat → Prop) : Nat → Prop := fun x => x = z ∨ x = p ∨ OwnOf v x ∨ F x
structure RApart (z p : Nat) (v : Value) (F : Nat → Prop) : Prop where
  zv : ¬ OwnOf v z
  zf : ¬ F z
  pf : ¬ F p
  vf : ∀ x, OwnOf v x → ¬ F x
/-- The document's zone at block z. -/
structure RC (w0 w : World) (z p q : Nat) (v : Value) (F : Nat → Prop) (l : List T3) (ll : List (List Int)) : Prop where
  b : BT w0 w p v l 122
  e : NT w0 w q F ll 6 148
  c : Blk w z [.pointer (some ⟨p, 0, none⟩), .pointer (some ⟨q, 0, none⟩)] 172
  zn : w0.heap.size ≤ z
  ap : RApart z p v F
section
variable {w0 w w' : World} {z p q : Nat} {v : Value} {F : Nat → Prop} {l : List T3} {ll : List (List Int)}
theorem RC.lt (h : RC w0 w z p q v F l ll) (x : Nat) (hx : rfoot z p v F x) : x < w.heap.size := by
  rcases hx with rfl | rfl | hx | hx
  · exact h.c.lt
  · exact h.b.lt.1
  · exact h.b.lt.2 x hx
  · exact h.e.s.lt x hx
theorem RC.new (h : RC w0 w z p q v F l ll) (x : Nat) (hx : rfoot z p v F x) : w0.heap.size ≤ x := by
  rcases hx with rfl | rfl | hx | hx
  · exact h.zn
  · exact h.b.pn
  · exact h.b.vn x hx
  · exact h.e.f x hx
theorem RC.ext {S : Nat → Prop} (h : RC w0 w z p q v F l ll) (hx : Ext S w w') (hS : ∀ x, rfoot z p v F x → ¬ S x) (hN : ∀ x, S x → w0.heap.size ≤ x) : RC w0 w' z p q v F l ll :=
  ⟨h.b.ext hx (hS p (.inr (.inl rfl))) (fun x h1 => hS x (.inr (.inr (.inl h1)))) hN, h.e.ext hx (fun x h1 => hS x (.inr (.inr (.inr h1)))) hN, h.c.ext hx (hS z (.inl rfl)), h.zn, h.ap⟩
theorem RC.extNo (h : RC w0 w z p q v F l ll) (hx : Ext No w w') : RC w0 w' z p q v F l ll := h.ext hx (fun _ _ => id) (fun _ h => h.elim)
theorem RC.vmove (h : RC w0 w z p q v F l ll) {L : List T3} (hb : BT w0 w' p v L 122) (hx : Ext (OwnOf v) w w') : RC w0 w' z p q v F L ll ∧ Mv w (rfoot z p v F) w' (rfoot z p v F) :=
  ⟨⟨hb, h.e.ext hx (fun x h1 h2 => h.ap.vf x h2 h1) h.b.vn, h.c.ext hx h.ap.zv, h.zn, h.ap⟩, hx.mono (fun x _ h1 => .inr (.inr (.inl h1))), fun x h1 => .inl h1⟩
theorem RC.fmove (h : RC w0 w z p q v F l ll) {F' : Nat → Prop} {L : List (List Int)} (hn : NT w0 w' q F' L 6 148) (hx : Ext F w w') (hg : Grows w F F') :
    RC w0 w' z p q v F' l L ∧ Mv w (rfoot z p v F) w' (rfoot z p v F') := by
  have hlt := h.lt
  have key : ∀ x, rfoot z p v F x → ¬ F x → ¬ F' x := fun x h1 h2 h3 => by
    rcases hg x h3 with e | e
    · exact h2 e
    · have := hlt x h1; omega
  refine ⟨⟨h.b.ext hx h.ap.pf h.ap.vf h.e.f, hn, h.c.ext hx h.ap.zf, h.zn, ?_⟩, hx.mono (fun x _ h1 => .inr (.inr (.inr h1))), fun x h1 => ?_⟩
  · exact ⟨h.ap.zv, key z (.inl rfl) h.ap.zf, key p (.inr (.inl rfl)) h.ap.pf, fun x h1 => key x (.inr (.inr (.inl h1))) (h.ap.vf x h1)⟩
  · rcases h1 with h1 | h1 | h1 | h1
    · exact .inl (.inl h1)
    · exact .inl (.inr (.inl h1))
    · exact .inl (.inr (.inr (.inl h1)))
    · rcases hg x h1 with e | e
      · exact .inl (.inr (.inr (.inr e)))
      · exact .inr e
theorem RC.n0 (h : RC w0 w z p q v F l ll) : ∃ lb, w.cell? ⟨q, 0, none⟩ = some (.slice (some ⟨lb, 0, none⟩) ll.length ll.length) := by
  obtain ⟨_, lb, base, vs, h1, _, _⟩ := h.e.s
  exact ⟨lb, h1.n.cell' (i := 0) rfl⟩
/-- The list of a processor, in memory. -/
theorem RC.n1 (h : RC w0 w z p q v F l ll) : ∃ lb, w.cell? ⟨q, 0, none⟩ = some (.slice (some ⟨lb, 0, none⟩) ll.length ll.length) ∧ ∀ c, c < ll.length → ∃ a cap, w.cell? ⟨lb, c, none⟩ = some (.slice a (nth ll c).length cap) := by
  obtain ⟨_, lb, base, vs, h1, _, _⟩ := h.e.s
  refine ⟨lb, h1.n.cell' (i := 0) rfl, fun c hc => ?_⟩
  obtain ⟨a, cap, e, _⟩ := ownsRow_val (h1.rows c hc)
  have c0 := h1.l.cell' (i := c) (v := nth vs c) (nth_some (by rw [h1.len]; exact hc))
  rw [e] at c0
  exact ⟨a, cap, c0⟩
theorem RC.v0 (h : RC w0 w z p q v F l ll) : ∃ a cap, v = .slice a l.length cap ∧ l.length ≤ cap ∧ cap ≤ 9223372036854775807 ∧ w.cell? ⟨p, 0, none⟩ = some (.slice a l.length cap) := by
  obtain ⟨base, hr⟩ := h.b.r
  obtain ⟨a, cap, rfl, h1, h2⟩ := hr.val
  exact ⟨a, cap, rfl, h1, h2, hr.b.cell' (i := 0) rfl⟩

theorem rhas143_spec (h : RC w0 w z p q v F l ll) (c : Int) :
    Calls Try.prog 143 #[.pointer (some ⟨z, 0, none⟩), .int .i64 c] w fun e w' => e = .returned (.bool (inR ll c)) ∧ w = w' := by
  have z1 := h.c.cell' (i := 1) rfl
  obtain ⟨lb, n0⟩ := h.n0
  clear h
  by_cases h1 : c < 0
  · have hr : Hid (inR ll c = false) := by show _ = _; unfold inR; rw [decide_eq_false (by omega)]; rfl
    have hd : decide (0 ≤ c) = false := decide_eq_false (by omega)
    go_enter Try.func143, Try.ntmps143
    go_wp2_with fail
    go_ret
    exact ⟨by rw [hr.out]; rfl, rfl⟩
  · have hd : decide (0 ≤ c) = true := decide_eq_true (by omega)
    by_cases h2 : c < (ll.length : Int)
    · have hr : Hid (inR ll c = true) := by show _ = _; unfold inR; rw [decide_eq_true (by omega), decide_eq_true h2]; rfl
      have hd2 : decide (c < (ll.length : Int)) = true := decide_eq_true h2
      go_enter Try.func143, Try.ntmps143
      go_wp2_with fail
      go_ret
      exact ⟨by rw [hr.out]; rfl, rfl⟩
    · have hr : Hid (inR ll c = false) := by show _ = _; unfold inR; rw [decide_eq_false h2, Bool.and_false]
      have hd2 : decide (c < (ll.length : Int)) = false := decide_eq_false h2
      go_enter Try.func143, Try.ntmps143
      go_wp2_with fail
      go_ret
      exact ⟨by rw [hr.out]; rfl, rfl⟩

set_option maxRecDepth 100000 in
set_option maxHeartbeats 1600000 in
theorem rback145_spec (w0 w : World) (z p : Nat) (cq : Value) (hz : Blk w z [.pointer (some ⟨p, 0, none⟩), cq] 172) (va : Value) (xs : List Int) (G : Nat → Prop) (hv : RdI G w va xs) {v : Value} {l : List T3} (h : BT w0 w p v l 122) (hzv : ¬ OwnOf v z) (hG : ∀ x, G x → ¬ OwnOf v x) :
    Calls Try.prog 145 #[.pointer (some ⟨z, 0, none⟩), va] w fun e w' => (∃ u, e = .returned u) ∧ BT w0 w' p v (backL l xs) 122 ∧ Ext (OwnOf v) w w' := by
  obtain ⟨a, cp, rfl, _, _⟩ := Rd.val hv
  go_enter Try.func145, Try.ntmps145
  go_wp2_with fail
  go_loopg [4] xs.length (fun g s wr => ∃ k : Nat, k + g = xs.length ∧ s = .int .i64 k ∧ BT w0 wr p v (backL l (xs.take k)) 122 ∧ Ext (OwnOf v) w wr)
  case atStart => exact ⟨0, by omega, rfl, h, Ext.refl _ _⟩
  case round =>
    clear h
    obtain ⟨k, hk, rfl, hB, hx⟩ := hrel
    obtain ⟨wz, hwz⟩ : ∃ wz, wr = wz := ⟨_, rfl⟩
    rw [hwz] at hB hx ⊢
    clear hwz
    have hk' := Lib.hid hk
    have hkn : k ≤ xs.length := by omega
    clear hk
    by_cases hlt : k < xs.length
    · obtain ⟨b, off, rfl, _, _, x0⟩ := Rd.at1 (hv.ext hx hG) hlt
      rw [List.getElem?_map, nth_some hlt] at x0
      simp only [Option.map_some, int] at x0
      have z0 := (hz.ext hx hzv).cell' (i := 0) rfl
      have hst : Hid (backL l (xs.take (k + 1)) = fstep (backL l (xs.take k)) (nth xs k)) := by show _ = _; rw [take_nth hlt, backL_snoc]
      have hd : decide ((k : Int) < xs.length) = true := decide_eq_true (by omega)
      have hxd : Ext No wz wz.drew := (Ext.refl No wz).drew
      have hspec := rt_freeA (hB.extNo hxd) (nth xs k)
      have hx' : Ext (OwnOf v) w wz.drew := hx.transNo hxd
      clear hB hx hxd
      go_wp2_with fail
      refine anyZ_begin 9 (fun w' => w'.cell? ⟨z, 0, none⟩ = some (.pointer (some ⟨p, 0, none⟩)) ∧ w'.cell? ⟨b, off + k, none⟩ = some (.int .i64 (nth xs k))) (by kernel_rfl) ?_
      have hC : (fun w' : World => w'.cell? ⟨z, 0, none⟩ = some (.pointer (some ⟨p, 0, none⟩)) ∧ w'.cell? ⟨b, off + k, none⟩ = some (.int .i64 (nth xs k))) wz.drew := ⟨z0, x0⟩
      refine anyZ_take 0 (v := ?_) rfl (by kernel_rfl) (by kernel_rfl) (by kernel_rfl) (by kernel_rfl) (fun _ _ _ h => h) hC (Or.inl ⟨by rfl, ?_⟩) ?_
      rotate_left
      · (intro wq hq; (try dsimp only at hq); go_simp; with_reducible rfl)
      simp only [Act.put, List.setIfInBounds_toArray, List.set_cons_zero, List.set_cons_succ]
      refine anyZ_take 1 (v := ?_) rfl (by kernel_rfl) (by kernel_rfl) (by kernel_rfl) (by kernel_rfl) (fun _ _ _ h => h) hC (Or.inl ⟨by rfl, ?_⟩) ?_
      rotate_left
      · (intro wq hq; (try dsimp only at hq); go_simp; with_reducible rfl)
      simp only [Act.put, List.setIfInBounds_toArray, List.set_cons_zero, List.set_cons_succ]
      refine anyZ_take 2 (v := ?_) rfl (by kernel_rfl) (by kernel_rfl) (by kernel_rfl) (by kernel_rfl) (fun _ _ _ h => h) hC (Or.inl ⟨by rfl, ?_⟩) ?_
      rotate_left
      · (intro wq hq; (try dsimp only at hq); go_simp; with_reducible rfl)
      simp only [Act.put, List.setIfInBounds_toArray, List.set_cons_zero, List.set_cons_succ]
      refine anyZ_take 3 (v := ?_) rfl (by kernel_rfl) (by kernel_rfl) (by kernel_rfl) (by kernel_rfl) (fun _ _ _ h => h) hC (Or.inl ⟨by rfl, ?_⟩) ?_
      rotate_left
      · (intro wq hq; (try dsimp only at hq); go_simp; with_reducible rfl)
      simp only [Act.put, List.setIfInBounds_toArray, List.set_cons_zero, List.set_cons_succ]
      refine anyZ_take 4 (v := ?_) rfl (by kernel_rfl) (by kernel_rfl) (by kernel_rfl) (by kernel_rfl) (fun _ _ _ h => h) hC (Or.inl ⟨by rfl, ?_⟩) ?_
      rotate_left
      · (intro wq hq; (try dsimp only at hq); go_simp; with_reducible rfl)
      simp only [Act.put, List.setIfInBounds_toArray, List.set_cons_zero, List.set_cons_succ]
      refine anyZ_take 5 (v := ?_) rfl (by kernel_rfl) (by kernel_rfl) (by kernel_rfl) (by kernel_rfl) (fun _ _ _ h => h) hC (Or.inl ⟨by rfl, ?_⟩) ?_
      rotate_left
      · (intro wq hq; (try dsimp only at hq); go_simp; with_reducible rfl)
      simp only [Act.put, List.setIfInBounds_toArray, List.set_cons_zero, List.set_cons_succ]
      refine anyZ_take 6 (v := ?_) rfl (by kernel_rfl) (by kernel_rfl) (by kernel_rfl) (by kernel_rfl) (fun _ _ _ h => h) hC (Or.inl ⟨by rfl, ?_⟩) ?_
      rotate_left
      · (intro wq hq; (try dsimp only at hq); go_simp; with_reducible rfl)
      simp only [Act.put, List.setIfInBounds_toArray, List.set_cons_zero, List.set_cons_succ]
      refine anyZ_take 7 (v := ?_) rfl (by kernel_rfl) (by kernel_rfl) (by kernel_rfl) (by kernel_rfl) (fun _ _ _ h => h) hC (Or.inl ⟨by rfl, ?_⟩) ?_
      rotate_left
      · (intro wq hq; (try dsimp only at hq); go_simp; with_reducible rfl)
      simp only [Act.put, List.setIfInBounds_toArray, List.set_cons_zero, List.set_cons_succ]
      refine anyZ_step 8 rfl (by kernel_rfl) (fun K hK => ?_)
      go_simp
      refine hspec.mono ?_
      rintro e w2 ⟨rfl, hB2, hx2⟩
      have hx2' := hx'.transSame hx2
      have hC2 : (fun w' : World => w'.cell? ⟨z, 0, none⟩ = some (.pointer (some ⟨p, 0, none⟩)) ∧ w'.cell? ⟨b, off + k, none⟩ = some (.int .i64 (nth xs k))) w2 := by
        refine ⟨(hz.ext hx2' hzv).cell' (i := 0) rfl, ?_⟩
        obtain ⟨b9, off9, e9, _, _, y0⟩ := Rd.at1 (hv.ext hx2' hG) hlt
        rw [List.getElem?_map, nth_some hlt] at y0
        simp only [Option.map_some, int] at y0
        cases e9
        exact y0
      refine hK _ _ hC2 ?_
      clear hK K
      try simp only [Act.put, List.setIfInBounds_toArray, List.set_cons_zero, List.set_cons_succ]
      refine anyZ_done (by kernel_rfl) ?_ _
      clear hC hC2 x0 z0 hx' hx2 hspec
      go_wp2_with fail
      go_roundg (xs.length - (k + 1))
      case measure => have := hk'.out; omega
      case rel => exact ⟨k + 1, by omega, by go_num, by rw [hst.out]; exact hB2, hx2'⟩
    · have hd : decide ((k : Int) < xs.length) = false := decide_eq_false (by omega)
      obtain rfl : k = xs.length := by omega
      rw [List.take_length] at hB
      go_wp2_with fail
      refine bodyPost_end (results_none rfl _ _ _) rfl ⟨⟨_, rfl⟩, hB, hx⟩

set_option maxRecDepth 100000 in
set_option maxHeartbeats 1600000 in
theorem rnear144_spec (h : RC w0 w z p q v F l ll) :
    Calls Try.prog 144 #[.pointer (some ⟨z, 0, none⟩)] w fun e w' => e = .returned (.int .i64 ll.flatten.length) ∧ w = w' := by
  have z1 := h.c.cell' (i := 1) rfl
  obtain ⟨lb, n0, hrow⟩ := h.n1
  have hn8 := h.e.ok.n8
  have hbd' := Lib.hid (flat_bd h.e.ok)
  obtain ⟨nn, hnn⟩ : ∃ nn, ll.length = nn := ⟨_, rfl⟩
  have hnn' := Lib.hid hnn
  have hrow' := Lib.hid hrow
  rw [hnn] at n0 hn8
  clear h hnn hrow
  go_enter Try.func144, Try.ntmps144
  go_wp2_with fail
  go_loopg [3, 4] nn (fun g s i wr => ∃ c : Nat, c + g = nn ∧ s = .int .i64 ((ll.take c).flatten.length : Nat) ∧ i = .int .i64 c ∧ wr = w)
  case atStart => exact ⟨0, by omega, by simp, rfl, rfl⟩
  case round =>
    obtain ⟨c, hg, rfl, rfl, rfl⟩ := hrel
    have hg' := Lib.hid hg
    have hcn : c ≤ nn := by omega
    clear hg
    by_cases hlt : c < nn
    · have hlt' : c < ll.length := by rw [hnn'.out]; exact hlt
      have hd : decide ((c : Int) < nn) = true := decide_eq_true (by omega)
      have e3 := Lib.hid (flat_next hlt')
      have hb1 := hbd'.out (c + 1) (by omega)
      rw [e3.out, List.length_append] at hb1
      obtain ⟨a, cap, x0⟩ := hrow'.out c hlt'
      obtain ⟨T, hT⟩ : ∃ T, (ll.take c).flatten.length = T := ⟨_, rfl⟩
      obtain ⟨A, hA⟩ : ∃ A, (nth ll c).length = A := ⟨_, rfl⟩
      rw [hA] at hb1 x0
      rw [hT] at hb1 ⊢
      have hw : IntKind.i64.wrap ((T : Int) + (A : Int)) = ((T + A : Nat) : Int) := by rw [IntKind.wrap_i64]; omega
      have hT' := Lib.hid hT; have hA' := Lib.hid hA
      clear hT hA hb1
      go_wp2_with fail
      clear hw
      go_roundg (nn - (c + 1))
      case measure => have := hg'.out; omega
      case rel => exact ⟨c + 1, by omega, by rw [e3.out, List.length_append, hT'.out, hA'.out]; try go_num, by go_num, rfl⟩
    · have hd : decide ((c : Int) < nn) = false := decide_eq_false (by omega)
      obtain rfl : c = nn := by omega
      have e9 : Hid ((ll.take c).flatten = ll.flatten) := by show _ = _; rw [← hnn'.out, List.take_length]
      go_wp2_with fail
      go_ret
      rw [e9.out]
      exact ⟨rfl, rfl⟩
theorem rn_has (h : RC w0 w z p q v F l ll) (x : Int) :
    Calls Try.prog 100 #[.pointer (some ⟨q, 0, none⟩), .int .i64 x] w fun e w' => e = .returned (.bool (hasIn ll x)) ∧ Ext No w w' := by
  refine (rs_has w q F ll 6 h.e.s x).mono ?_
  rintro e w' hh
  first
    | exact hh
    | exact ⟨hh.1, hh.2 ▸ Ext.refl _ _⟩
set_option maxRecDepth 100000 in
set_option maxHeartbeats 1600000 in
theorem rout146_spec (h : RC w0 w z p q v F l ll) (page : Int) :
    Calls Try.prog 146 #[.pointer (some ⟨z, 0, none⟩), .int .i64 page] w fun e w' => e = .returned (.bool (zout l ll page)) ∧ Ext No w w' := by
  have z0 := h.c.cell' (i := 0) rfl
  have z1 := h.c.cell' (i := 1) rfl
  obtain ⟨base, hr⟩ := h.b.r
  obtain ⟨a, cap, rfl, hlc, hcap, v0⟩ := h.v0
  by_cases h1 : page < 0
  · have hr : Hid (zout l ll page = false) := by show _ = _; unfold zout outAt; rw [decide_eq_false (show ¬ 0 ≤ page by omega)]; rfl
    have hd : decide (0 ≤ page) = false := decide_eq_false (by omega)
    clear h
    go_enter Try.func146, Try.ntmps146
    go_wp2_with fail
    go_ret
    exact ⟨by rw [hr.out]; rfl, Ext.refl _ _⟩
  · have hd : decide (0 ≤ page) = true := decide_eq_true (by omega)
    obtain ⟨i, rfl⟩ : ∃ i : Nat, page = i := ⟨page.toNat, by omega⟩
    by_cases h2 : i < l.length
    · have hd2 : decide ((i : Int) < (l.length : Int)) = true := decide_eq_true (by omega)
      have hd3 : decide (i < l.length) = true := decide_eq_true h2
      obtain ⟨b, off, rfl, _, _, x0, _, _⟩ := hr.rd.at h2
      have hii : (i : Int) < l.length := by omega
      by_cases h3 : (nth l i).a = 2
      · have hq : ((nth l i).a == 2) = true := by rw [h3]; rfl
        have hz : Hid (zout l ll i = !hasIn ll i) := by show _ = _; unfold zout; rw [outAt_iff.2 ⟨i, rfl, h2, h3⟩]; rfl
        have hspec := rn_has h (i : Int)
        clear h hr h3
        go_enter Try.func146, Try.ntmps146
        go_wp2_with fail
        refine hspec.mono ?_
        rintro e w1 ⟨rfl, hx⟩
        obtain ⟨B, hB⟩ : ∃ B, hasIn ll (i : Int) = B := ⟨_, rfl⟩
        rw [hB]
        have hz2 : Hid (zout l ll i = !B) := by show _ = _; rw [hz.out, hB]
        clear hspec hB
        go_wp2_with fail
        go_ret
        exact ⟨by rw [hz2.out]; try rfl, hx⟩
      · have hq : ((nth l i).a == 2) = false := by rw [beq_eq_false_iff_ne]; exact h3
        have hz : Hid (zout l ll i = false) := by
          show _ = _
          unfold zout outAt
          rw [Int.toNat_natCast, decide_eq_false h3]; simp
        clear h hr h3
        go_enter Try.func146, Try.ntmps146
        go_wp2_with fail
        go_ret
        exact ⟨by rw [hz.out]; rfl, Ext.refl _ _⟩
    · have hd2 : decide ((i : Int) < (l.length : Int)) = false := decide_eq_false (by omega)
      have hd3 : decide (i < l.length) = false := decide_eq_false h2
      have hz : Hid (zout l ll i = false) := by
        show _ = _
        unfold zout outAt
        rw [decide_eq_false (show ¬ (i : Int) < (l.length : Int) by omega)]; simp
      clear h hr
      go_enter Try.func146, Try.ntmps146
      go_wp2_with fail
      go_ret
      exact ⟨by rw [hz.out]; rfl, Ext.refl _ _⟩
theorem rwhole131_spec (h : RC w0 w z p q v F l ll) :
    Calls Try.prog 131 #[.pointer (some ⟨z, 0, none⟩)] w fun e w' => e = .returned (.bool (decide (l = full l.length))) ∧ Ext No w w' := by
  have z0 := h.c.cell' (i := 0) rfl
  obtain ⟨base, hr⟩ := h.b.r
  have hw := whole124_spec w p base v l hr
  obtain ⟨B, hB⟩ : ∃ B, decide (l = full l.length) = B := ⟨_, rfl⟩
  rw [hB] at hw ⊢
  clear h hr hB
  go_enter Try.func131, Try.ntmps131
  go_wp2_with fail
  refine hw.mono ?_
  rintro e w1 ⟨rfl, hx⟩
  go_wp2_with fail
  go_ret
  exact ⟨rfl, hx⟩
theorem rnear132_spec (h : RC w0 w z p q v F l ll) (c : Int) :
    Calls Try.prog 132 #[.pointer (some ⟨z, 0, none⟩), .int .i64 c] w fun e w' => e = .returned (.int .i64 (listIn ll c).length) ∧ w = w' := by
  have hh := rhas143_spec h c
  have z1 := h.c.cell' (i := 1) rfl
  obtain ⟨lb, n0, hrow⟩ := h.n1
  cases hi : inR ll c
  · have hl : (listIn ll c).length = 0 := by rw [(listIn_out hi).1]; rfl
    rw [hl]
    rw [hi] at hh
    clear h hl hi
    go_enter Try.func132, Try.ntmps132
    go_wp2_with fail
    refine hh.mono ?_
    rintro e w1 ⟨rfl, rfl⟩
    go_wp2_with fail
    go_ret
    exact ⟨rfl, rfl⟩
  · obtain ⟨e1, hk, ek⟩ := listIn_in hi
    rw [hi] at hh
    obtain ⟨k, rfl⟩ : ∃ k : Nat, c = k := ⟨c.toNat, by omega⟩
    rw [Int.toNat_natCast] at hk e1
    rw [e1]
    obtain ⟨a, cap, x0⟩ := hrow k hk
    have hd1 : (0 : Int) ≤ k := by omega
    have hd2 : (k : Int) < ll.length := by omega
    obtain ⟨A, hA⟩ : ∃ A, (nth ll k).length = A := ⟨_, rfl⟩
    rw [hA] at x0 ⊢
    clear h e1 hi hrow ek hA
    go_enter Try.func132, Try.ntmps132
    go_wp2_with fail
    refine hh.mono ?_
    rintro e w1 ⟨rfl, rfl⟩
    go_wp2_with fail
    go_ret
    exact ⟨rfl, rfl⟩
theorem rleft130_spec (h : RC w0 w z p q v F l ll) :
    Calls Try.prog 130 #[.pointer (some ⟨z, 0, none⟩)] w fun e w' => e = .returned (.int .i64 (frS l + ll.flatten.length)) ∧ Ext No w w' := by
  have z0 := h.c.cell' (i := 0) rfl
  obtain ⟨base, hr⟩ := h.b.r
  have hl := left123_spec w p base v l hr h.b.i.tab
  obtain ⟨b0, b1⟩ := frS_bd h.b.i
  have b2 := h.b.i.le
  have b3 := flat_bd h.e.ok ll.length (Nat.le_refl _)
  have b4 := h.e.ok.n8
  rw [List.take_length] at b3
  obtain ⟨S, hS⟩ : ∃ S, frS l = S := ⟨_, rfl⟩
  rw [hS] at hl b0 b1 ⊢
  have hw : IntKind.i64.wrap (S + ((ll.flatten.length : Nat) : Int)) = S + ((ll.flatten.length : Nat) : Int) := by rw [IntKind.wrap_i64]; omega
  have hw' := Lib.hid hw
  clear b0 b1 b2 b3 b4 hw hS hr
  go_enter Try.func130, Try.ntmps130
  go_wp2_with fail
  refine hl.mono ?_
  rintro e w1 ⟨rfl, hx⟩
  have h1 := h.extNo hx
  go_wp2_with fail
  refine (rnear144_spec h1).mono ?_
  rintro e w2 ⟨rfl, rfl⟩
  obtain ⟨T, hT⟩ : ∃ T, ll.flatten.length = T := ⟨_, rfl⟩
  rw [hT] at hw' ⊢
  have hT' := Lib.hid hT
  have hw := hw'.out
  clear hT
  go_wp2_with fail
  go_ret
  rw [hT'.out]
  exact ⟨rfl, hx⟩
end
end Go.Proofs.Ytjkknjohmekeiaa
/- The document's zone in memory: Head, Tag. No condition. -/
namespace Go.Proofs.Ytjkknjohmekeiaa
open Go.RowKit

def rC (l : List T3) (ll : List (List Int)) (page : Int) : Int := if tB l ll page then (nth l (headF l page).toNat).c else 0
set_option maxRecDepth 100000 in
theorem rhead147_spec (w : World) (v : Value) (l : List T3) (G : Nat → Prop) (hv : RdT G w v l) (ht : tabOk l = true) (i hh : Nat) (hil : i < l.length) (hd : Hd l i hh) :
    Calls Try.prog 147 #[v, .int .i64 i] w fun e w' => e = .returned (.tuple #[.int .i64 hh, .int .i64 0]) ∧ Ext No w w' := by
  obtain ⟨_, _, hva⟩ := tab_iff.1 ht
  obtain ⟨a, cap, rfl, _, _⟩ := hv.val
  have d1 : decide ((i : Int) < 0) = false := decide_eq_false (by omega)
  have d2 : decide ((l.length : Int) ≤ i) = false := decide_eq_false (by omega)
  have d3 : decide (l.length ≤ i) = false := decide_eq_false (by omega)
  go_enter Try.func147, Try.ntmps147
  go_wp2_with fail
  refine (check149_spec w _ l G hv ht).mono ?_
  rintro e w1 ⟨rfl, hx⟩
  have hv1 := hv.extNo hx
  go_wp2_with fail
  refine (begin150_spec w1 _ l G hv1 hva i hil hh hd).mono ?_
  rintro e w2 ⟨rfl, rfl⟩
  go_wp2_with fail
  go_ret2
  exact ⟨rfl, hx⟩
section
variable {w0 w w' : World} {z p q : Nat} {v : Value} {F : Nat → Prop} {l : List T3} {ll : List (List Int)}
set_option maxRecDepth 100000 in
set_option maxHeartbeats 1600000 in
theorem rtag133_out (h : RC w0 w z p q v F l ll) (page : Int) (hp : page < 0 ∨ (0 ≤ page ∧ (l.length : Int) ≤ page)) :
    Calls Try.prog 133 #[.pointer (some ⟨z, 0, none⟩), .int .i64 page] w fun e w' => e = .returned (.tuple #[.agg #[.int .i64 0, .int .i64 0, .int .i64 0], .bool false]) ∧ Ext No w w' := by
  obtain ⟨A, hA⟩ : ∃ A, w.heap.size = A := ⟨_, rfl⟩
  obtain ⟨W, hW⟩ : ∃ W, w.alloc (.cells #[.int .i64 0, .int .i64 0, .int .i64 0] 174) = W := ⟨_, rfl⟩
  have hX : Ext No w W := by rw [← hW]; exact (Ext.refl _ _).alloc _
  have hB : Blk W A [.int .i64 0, .int .i64 0, .int .i64 0] 174 := by rw [← hW]; exact Blk.new' hA.symm
  have hW' := Lib.hid hW
  have hA' := Lib.hid hA
  clear hW hA
  have h1 := h.extNo hX
  have z0 := h1.c.cell' (i := 0) rfl
  obtain ⟨a, cap, rfl, hlc, hcap, v0⟩ := h1.v0
  have b0 := hB.cell' (i := 0) rfl
  have b1 := hB.cell' (i := 1) rfl
  have b2 := hB.cell' (i := 2) rfl
  have f0 := hB.frozen 0
  have f1 := hB.frozen 1
  have f2 := hB.frozen 2
  have hB2 := ((hB.set 0 (.int .i64 0)).set 1 (.int .i64 0)).set 2 (.int .i64 0)
  have r0 := hB2.cell' (i := 0) rfl
  have r1 := hB2.cell' (i := 1) rfl
  have r2 := hB2.cell' (i := 2) rfl
  have hX2 : Ext No w (((W.setCell ⟨A, 0, none⟩ (.int .i64 0)).setCell ⟨A, 1, none⟩ (.int .i64 0)).setCell ⟨A, 2, none⟩ (.int .i64 0)) := ((hX.setCell _ _ (.inl (by rw [hA'.out]; exact Nat.le_refl _))).setCell _ _ (.inl (by rw [hA'.out]; exact Nat.le_refl _))).setCell _ _ (.inl (by rw [hA'.out]; exact Nat.le_refl _))
  have w0' := hW'.out
  clear h h1 hB hB2
  rcases hp with hp | ⟨hp0, hp⟩
  · go_enter Try.func133, Try.ntmps133
    go_upto_region 1 with (fail)
    rw [hA'.out]
    clear w0'
    go_wp2_with fail
    refine bodyPost_ret (v := .tuple #[.agg #[.int .i64 0, .int .i64 0, .int .i64 0], .bool false]) (by simp [results, Try.results133, go_sem, r0, r1, r2]) rfl ⟨rfl, hX2⟩
  · have hd : decide ((l.length : Int) ≤ page) = true := decide_eq_true hp
    go_enter Try.func133, Try.ntmps133
    go_upto_region 1 with (fail)
    rw [hA'.out]
    clear w0'
    go_wp2_with fail
    refine bodyPost_ret (v := .tuple #[.agg #[.int .i64 0, .int .i64 0, .int .i64 0], .bool false]) (by simp [results, Try.results133, go_sem, r0, r1, r2]) rfl ⟨rfl, hX2⟩
set_option maxRecDepth 100000 in
set_option maxHeartbeats 3200000 in
theorem rtag133_no (h : RC w0 w z p q v F l ll) (i hh : Nat) (hil : i < l.length) (hd : Hd l i hh) (hno : zout l ll hh = false) :
    Calls Try.prog 133 #[.pointer (some ⟨z, 0, none⟩), .int .i64 i] w fun e w' => e = .returned (.tuple #[.agg #[.int .i64 0, .int .i64 0, .int .i64 0], .bool false]) ∧ Ext No w w' := by
  obtain ⟨A, hA⟩ : ∃ A, w.heap.size = A := ⟨_, rfl⟩
  obtain ⟨W, hW⟩ : ∃ W, w.alloc (.cells #[.int .i64 0, .int .i64 0, .int .i64 0] 174) = W := ⟨_, rfl⟩
  have hX : Ext No w W := by rw [← hW]; exact (Ext.refl _ _).alloc _
  have hB : Blk W A [.int .i64 0, .int .i64 0, .int .i64 0] 174 := by rw [← hW]; exact Blk.new' hA.symm
  have hW' := Lib.hid hW
  have hA' := Lib.hid hA
  have hi := Lib.hid (hd.hlt hil)
  have hlt := h.lt
  rw [hA] at hlt
  clear hW hA
  have h1 := h.extNo hX
  have ht := h1.b.i.tab
  have z0 := h1.c.cell' (i := 0) rfl
  obtain ⟨a, cap, rfl, hlc, hcap, v0⟩ := h1.v0
  obtain ⟨base, hr1⟩ := h1.b.r
  have d1 : decide ((i : Int) < 0) = false := decide_eq_false (by omega)
  have d2 : decide ((l.length : Int) ≤ i) = false := decide_eq_false (by omega)
  have d3 : decide (l.length ≤ i) = false := decide_eq_false (by omega)
  have hspec := rhead147_spec W _ l _ hr1.rd ht i hh hil hd
  clear ht h hX
  have w0' := hW'.out
  go_enter Try.func133, Try.ntmps133
  go_upto_region 1 with (fail)
  rw [hA'.out]
  clear w0'
  go_wp2_with fail
  refine hspec.mono ?_
  rintro e w3 ⟨rfl, hx3⟩
  have h3 := h1.extNo hx3
  have hB3 := hB.extNo hx3
  have hX3 : Ext No w w3 := (by rw [← hW'.out] at hx3; exact ((Ext.refl No w).alloc _).transNo hx3)
  have hout := rout146_spec h3 (hh : Int)
  clear h1 hB z0 v0 hr1 hspec hx3

  rw [hno] at hout
  clear hno
  go_wp2_with fail
  refine hout.mono ?_
  rintro e w4 ⟨rfl, hx4⟩
  have hB4 := hB3.extNo hx4
  have hX4 := hX3.transNo hx4
  have c0 := hB4.cell' (i := 0) rfl
  have c1 := hB4.cell' (i := 1) rfl
  have c2 := hB4.cell' (i := 2) rfl
  have g0 := hB4.frozen 0
  have g1 := hB4.frozen 1
  have g2 := hB4.frozen 2
  have hB5 := ((hB4.set 0 (.int .i64 0)).set 1 (.int .i64 0)).set 2 (.int .i64 0)
  have r0 := hB5.cell' (i := 0) rfl
  have r1 := hB5.cell' (i := 1) rfl
  have r2 := hB5.cell' (i := 2) rfl
  have hX5 : Ext No w (((w4.setCell ⟨A, 0, none⟩ (.int .i64 0)).setCell ⟨A, 1, none⟩ (.int .i64 0)).setCell ⟨A, 2, none⟩ (.int .i64 0)) := ((hX4.setCell _ _ (.inl (by rw [hA'.out]; exact Nat.le_refl _))).setCell _ _ (.inl (by rw [hA'.out]; exact Nat.le_refl _))).setCell _ _ (.inl (by rw [hA'.out]; exact Nat.le_refl _))
  clear hB5 hB4 h3 hB3 hX3 hX4 hx4 hout
  go_wp2_with fail
  refine bodyPost_ret (v := .tuple #[.agg #[.int .i64 0, .int .i64 0, .int .i64 0], .bool false]) (by simp [results, Try.results133, go_sem, r0, r1, r2]) rfl ⟨rfl, hX5⟩
set_option maxRecDepth 100000 in
set_option maxHeartbeats 3200000 in
theorem rtag133_yes (h : RC w0 w z p q v F l ll) (i hh : Nat) (hil : i < l.length) (hd : Hd l i hh) (hyes : zout l ll hh = true) :
    Calls Try.prog 133 #[.pointer (some ⟨z, 0, none⟩), .int .i64 i] w fun e w' => e = .returned (.tuple #[.agg #[.int .i64 hh, .int .i64 (nth l hh).b, .int .i64 (nth l hh).c], .bool true]) ∧ Ext No w w' := by
  obtain ⟨A, hA⟩ : ∃ A, w.heap.size = A := ⟨_, rfl⟩
  obtain ⟨W, hW⟩ : ∃ W, w.alloc (.cells #[.int .i64 0, .int .i64 0, .int .i64 0] 174) = W := ⟨_, rfl⟩
  have hX : Ext No w W := by rw [← hW]; exact (Ext.refl _ _).alloc _
  have hB : Blk W A [.int .i64 0, .int .i64 0, .int .i64 0] 174 := by rw [← hW]; exact Blk.new' hA.symm
  have hW' := Lib.hid hW
  have hA' := Lib.hid hA
  have hi := Lib.hid (hd.hlt hil)
  have hlt := h.lt
  rw [hA] at hlt
  clear hW hA
  have h1 := h.extNo hX
  have ht := h1.b.i.tab
  have z0 := h1.c.cell' (i := 0) rfl
  obtain ⟨a, cap, rfl, hlc, hcap, v0⟩ := h1.v0
  obtain ⟨base, hr1⟩ := h1.b.r
  have d1 : decide ((i : Int) < 0) = false := decide_eq_false (by omega)
  have d2 : decide ((l.length : Int) ≤ i) = false := decide_eq_false (by omega)
  have d3 : decide (l.length ≤ i) = false := decide_eq_false (by omega)
  have hspec := rhead147_spec W _ l _ hr1.rd ht i hh hil hd
  clear ht h hX
  have w0' := hW'.out
  go_enter Try.func133, Try.ntmps133
  go_upto_region 1 with (fail)
  rw [hA'.out]
  clear w0'
  go_wp2_with fail
  refine hspec.mono ?_
  rintro e w3 ⟨rfl, hx3⟩
  have h3 := h1.extNo hx3
  have hB3 := hB.extNo hx3
  have hX3 : Ext No w w3 := (by rw [← hW'.out] at hx3; exact ((Ext.refl No w).alloc _).transNo hx3)
  have hout := rout146_spec h3 (hh : Int)
  clear h1 hB z0 v0 hr1 hspec hx3

  rw [hyes] at hout
  clear hyes
  go_wp2_with fail
  refine hout.mono ?_
  rintro e w4 ⟨rfl, hx4⟩
  have h4 := h3.extNo hx4
  have hB4 := hB3.extNo hx4
  have hX4 := hX3.transNo hx4
  have z0 := h4.c.cell' (i := 0) rfl
  obtain ⟨a4, cap4, e4, hlc4, hcap4, v0⟩ := h4.v0
  cases e4
  obtain ⟨base4, hr4⟩ := h4.b.r
  obtain ⟨br, or, rfl, hbo, hbr, y0, y1, y2⟩ := hr4.rd.at (k := hh) hi.out
  have hhi : (hh : Int) < l.length := by have := hi.out; omega
  have hne : br ≠ A := fun e => by have := hlt br (.inr (.inr (.inl (by first | exact hbr | exact hbo)))); omega
  have hzA : z ≠ A := fun e => by have := hlt z (.inl rfl); omega
  have hpA : p ≠ A := fun e => by have := hlt p (.inr (.inl rfl)); omega
  have c0 := hB4.cell' (i := 0) rfl
  have c1 := hB4.cell' (i := 1) rfl
  have c2 := hB4.cell' (i := 2) rfl
  have g0 := hB4.frozen 0
  have g1 := hB4.frozen 1
  have g2 := hB4.frozen 2
  clear h3 hB3 hX3 hx4 hout hr4 h4
  go_wp2_with fail
  refine anyZ_begin 24 (fun w' => w'.cell? ⟨br, or + hh * 3 + 1, none⟩ = some (.int .i64 (nth l hh).b) ∧ w'.cell? ⟨br, or + hh * 3 + 2, none⟩ = some (.int .i64 (nth l hh).c) ∧ w'.cell? ⟨z, 0, none⟩ = some (.pointer (some ⟨p, 0, none⟩)) ∧ w'.cell? ⟨p, 0, none⟩ = some (.slice (some ⟨br, or, none⟩) l.length cap)) (by kernel_rfl) ?_
  have hC : (fun w' : World => w'.cell? ⟨br, or + hh * 3 + 1, none⟩ = some (.int .i64 (nth l hh).b) ∧ w'.cell? ⟨br, or + hh * 3 + 2, none⟩ = some (.int .i64 (nth l hh).c) ∧ w'.cell? ⟨z, 0, none⟩ = some (.pointer (some ⟨p, 0, none⟩)) ∧ w'.cell? ⟨p, 0, none⟩ = some (.slice (some ⟨br, or, none⟩) l.length cap)) w4.drew := ⟨y1, y2, z0, v0⟩
  refine anyZ_take 0 (v := ?_) rfl (by kernel_rfl) (by kernel_rfl) (by kernel_rfl) (by kernel_rfl) (fun _ _ _ h => h) hC (Or.inl ⟨by rfl, ?_⟩) ?_
  rotate_left
  · (intro wq hq; (try dsimp only at hq); go_simp; with_reducible rfl)
  simp only [Act.put, List.setIfInBounds_toArray, List.set_cons_zero, List.set_cons_succ]
  refine anyZ_take 1 (v := ?_) rfl (by kernel_rfl) (by kernel_rfl) (by kernel_rfl) (by kernel_rfl) (fun _ _ _ h => h) hC (Or.inl ⟨by rfl, ?_⟩) ?_
  rotate_left
  · (intro wq hq; (try dsimp only at hq); go_simp; with_reducible rfl)
  simp only [Act.put, List.setIfInBounds_toArray, List.set_cons_zero, List.set_cons_succ]
  refine anyZ_take 2 (v := ?_) rfl (by kernel_rfl) (by kernel_rfl) (by kernel_rfl) (by kernel_rfl) (fun _ _ _ h => h) hC (Or.inl ⟨by rfl, ?_⟩) ?_
  rotate_left
  · (intro wq hq; (try dsimp only at hq); go_simp; with_reducible rfl)
  simp only [Act.put, List.setIfInBounds_toArray, List.set_cons_zero, List.set_cons_succ]
  refine anyZ_take 3 (v := ?_) rfl (by kernel_rfl) (by kernel_rfl) (by kernel_rfl) (by kernel_rfl) (fun _ _ _ h => h) hC (Or.inl ⟨by rfl, ?_⟩) ?_
  rotate_left
  · (intro wq hq; (try dsimp only at hq); go_simp; with_reducible rfl)
  simp only [Act.put, List.setIfInBounds_toArray, List.set_cons_zero, List.set_cons_succ]
  refine anyZ_take 4 (v := ?_) rfl (by kernel_rfl) (by kernel_rfl) (by kernel_rfl) (by kernel_rfl) (fun _ _ _ h => h) hC (Or.inl ⟨by rfl, ?_⟩) ?_
  rotate_left
  · (intro wq hq; (try dsimp only at hq); go_simp; with_reducible rfl)
  simp only [Act.put, List.setIfInBounds_toArray, List.set_cons_zero, List.set_cons_succ]
  refine anyZ_take 5 (v := ?_) rfl (by kernel_rfl) (by kernel_rfl) (by kernel_rfl) (by kernel_rfl) (fun _ _ _ h => h) hC (Or.inl ⟨by rfl, ?_⟩) ?_
  rotate_left
  · (intro wq hq; (try dsimp only at hq); go_simp; with_reducible rfl)
  simp only [Act.put, List.setIfInBounds_toArray, List.set_cons_zero, List.set_cons_succ]
  refine anyZ_take 6 (v := ?_) rfl (by kernel_rfl) (by kernel_rfl) (by kernel_rfl) (by kernel_rfl) (fun _ _ _ h => h) hC (Or.inl ⟨by rfl, ?_⟩) ?_
  rotate_left
  · (intro wq hq; (try dsimp only at hq); go_simp; with_reducible rfl)
  simp only [Act.put, List.setIfInBounds_toArray, List.set_cons_zero, List.set_cons_succ]
  refine anyZ_take 7 (v := ?_) rfl (by kernel_rfl) (by kernel_rfl) (by kernel_rfl) (by kernel_rfl) (fun _ _ _ h => h) hC (Or.inl ⟨by rfl, ?_⟩) ?_
  rotate_left
  · (intro wq hq; (try dsimp only at hq); go_simp; with_reducible rfl)
  simp only [Act.put, List.setIfInBounds_toArray, List.set_cons_zero, List.set_cons_succ]
  refine anyZ_take 8 (v := ?_) rfl (by kernel_rfl) (by kernel_rfl) (by kernel_rfl) (by kernel_rfl) (fun _ _ _ h => h) hC (Or.inl ⟨by rfl, ?_⟩) ?_
  rotate_left
  · (intro wq hq; (try dsimp only at hq); go_simp; with_reducible rfl)
  simp only [Act.put, List.setIfInBounds_toArray, List.set_cons_zero, List.set_cons_succ]
  refine anyZ_take 9 (v := ?_) rfl (by kernel_rfl) (by kernel_rfl) (by kernel_rfl) (by kernel_rfl) (fun _ _ _ h => h) hC (Or.inl ⟨by rfl, ?_⟩) ?_
  rotate_left
  · (intro wq hq; (try dsimp only at hq); go_simp; with_reducible rfl)
  simp only [Act.put, List.setIfInBounds_toArray, List.set_cons_zero, List.set_cons_succ]
  refine anyZ_take 10 (v := ?_) rfl (by kernel_rfl) (by kernel_rfl) (by kernel_rfl) (by kernel_rfl) (fun _ _ _ h => h) hC (Or.inl ⟨by rfl, ?_⟩) ?_
  rotate_left
  · (intro wq hq; (try dsimp only at hq); go_simp; with_reducible rfl)
  simp only [Act.put, List.setIfInBounds_toArray, List.set_cons_zero, List.set_cons_succ]
  refine anyZ_take 11 (v := ?_) rfl (by kernel_rfl) (by kernel_rfl) (by kernel_rfl) (by kernel_rfl) (fun _ _ _ h => h) hC (Or.inl ⟨by rfl, ?_⟩) ?_
  rotate_left
  · (intro wq hq; (try dsimp only at hq); go_simp; with_reducible rfl)
  simp only [Act.put, List.setIfInBounds_toArray, List.set_cons_zero, List.set_cons_succ]
  refine anyZ_take 12 (v := ?_) rfl (by kernel_rfl) (by kernel_rfl) (by kernel_rfl) (by kernel_rfl) (fun _ _ _ h => h) hC (Or.inl ⟨by rfl, ?_⟩) ?_
  rotate_left
  · (intro wq hq; (try dsimp only at hq); go_simp; with_reducible rfl)
  simp only [Act.put, List.setIfInBounds_toArray, List.set_cons_zero, List.set_cons_succ]
  refine anyZ_take 13 (v := ?_) rfl (by kernel_rfl) (by kernel_rfl) (by kernel_rfl) (by kernel_rfl) (fun _ _ _ h => h) hC (Or.inl ⟨by rfl, ?_⟩) ?_
  rotate_left
  · (intro wq hq; (try dsimp only at hq); go_simp; with_reducible rfl)
  simp only [Act.put, List.setIfInBounds_toArray, List.set_cons_zero, List.set_cons_succ]
  refine anyZ_take 14 (v := ?_) rfl (by kernel_rfl) (by kernel_rfl) (by kernel_rfl) (by kernel_rfl) (fun _ _ _ h => h) hC (Or.inl ⟨by rfl, ?_⟩) ?_
  rotate_left
  · (intro wq hq; (try dsimp only at hq); go_simp; with_reducible rfl)
  simp only [Act.put, List.setIfInBounds_toArray, List.set_cons_zero, List.set_cons_succ]
  refine anyZ_take 15 (v := ?_) rfl (by kernel_rfl) (by kernel_rfl) (by kernel_rfl) (by kernel_rfl) (fun _ _ _ h => h) hC (Or.inl ⟨by rfl, ?_⟩) ?_
  rotate_left
  · (intro wq hq; (try dsimp only at hq); go_simp; with_reducible rfl)
  simp only [Act.put, List.setIfInBounds_toArray, List.set_cons_zero, List.set_cons_succ]
  refine anyZ_take 16 (v := ?_) rfl (by kernel_rfl) (by kernel_rfl) (by kernel_rfl) (by kernel_rfl) (fun _ _ _ h => h) hC (Or.inl ⟨by rfl, ?_⟩) ?_
  rotate_left
  · (intro wq hq; (try dsimp only at hq); go_simp; with_reducible rfl)
  simp only [Act.put, List.setIfInBounds_toArray, List.set_cons_zero, List.set_cons_succ]
  refine anyZ_take 17 (v := ?_) rfl (by kernel_rfl) (by kernel_rfl) (by kernel_rfl) (by kernel_rfl) (fun _ _ _ h => h) hC (Or.inl ⟨by rfl, ?_⟩) ?_
  rotate_left
  · (intro wq hq; (try dsimp only at hq); go_simp; with_reducible rfl)
  simp only [Act.put, List.setIfInBounds_toArray, List.set_cons_zero, List.set_cons_succ]
  refine anyZ_take 18 (v := ?_) rfl (by kernel_rfl) (by kernel_rfl) (by kernel_rfl) (by kernel_rfl) (fun _ _ _ h => h) hC (Or.inl ⟨by rfl, ?_⟩) ?_
  rotate_left
  · (intro wq hq; (try dsimp only at hq); go_simp; with_reducible rfl)
  simp only [Act.put, List.setIfInBounds_toArray, List.set_cons_zero, List.set_cons_succ]
  refine anyZ_take 19 (v := ?_) rfl (by kernel_rfl) (by kernel_rfl) (by kernel_rfl) (by kernel_rfl) (fun _ _ _ h => h) hC (Or.inl ⟨by rfl, ?_⟩) ?_
  rotate_left
  · (intro wq hq; (try dsimp only at hq); go_simp; with_reducible rfl)
  simp only [Act.put, List.setIfInBounds_toArray, List.set_cons_zero, List.set_cons_succ]
  refine anyZ_take 20 (v := ?_) rfl (by kernel_rfl) (by kernel_rfl) (by kernel_rfl) (by kernel_rfl) (fun _ _ _ h => h) hC (Or.inl ⟨by rfl, ?_⟩) ?_
  rotate_left
  · (intro wq hq; (try dsimp only at hq); go_simp; with_reducible rfl)
  simp only [Act.put, List.setIfInBounds_toArray, List.set_cons_zero, List.set_cons_succ]
  refine anyZ_take 21 (v := ?_) rfl (by kernel_rfl) (by kernel_rfl) (by kernel_rfl) (by kernel_rfl) (fun _ _ _ h => h) hC (Or.inl ⟨by rfl, ?_⟩) ?_
  rotate_left
  · (intro wq hq; (try dsimp only at hq); go_simp; with_reducible rfl)
  simp only [Act.put, List.setIfInBounds_toArray, List.set_cons_zero, List.set_cons_succ]
  refine anyZ_take 22 (v := ?_) rfl (by kernel_rfl) (by kernel_rfl) (by kernel_rfl) (by kernel_rfl) (fun _ _ _ h => h) hC (Or.inl ⟨by rfl, ?_⟩) ?_
  rotate_left
  · (intro wq hq; (try dsimp only at hq); go_simp; with_reducible rfl)
  simp only [Act.put, List.setIfInBounds_toArray, List.set_cons_zero, List.set_cons_succ]
  refine anyZ_take 23 (v := ?_) rfl (by kernel_rfl) (by kernel_rfl) (by kernel_rfl) (by kernel_rfl) (fun _ _ _ h => h) hC (Or.inl ⟨by rfl, ?_⟩) ?_
  rotate_left
  · (intro wq hq; (try dsimp only at hq); go_simp; with_reducible rfl)
  simp only [Act.put, List.setIfInBounds_toArray, List.set_cons_zero, List.set_cons_succ]
  clear hC
  refine anyZ_last rfl (by kernel_rfl) (fun K hK => ?_)
  go_simp
  refine hK _ _ ?_
  clear hK K
  try simp only [Act.put, List.setIfInBounds_toArray, List.set_cons_zero, List.set_cons_succ]
  have hst : Ext (One A) w4 ((w4.setCell ⟨A, 0, none⟩ (.int .i64 hh)).setCell ⟨A, 1, none⟩ (.int .i64 (nth l hh).b) |>.setCell ⟨A, 2, none⟩ (.int .i64 (nth l hh).c)).drew := (Ext.set3 _ _ _ _ _ _ _ _).drew
  have hB5 : Blk ((w4.setCell ⟨A, 0, none⟩ (.int .i64 hh)).setCell ⟨A, 1, none⟩ (.int .i64 (nth l hh).b) |>.setCell ⟨A, 2, none⟩ (.int .i64 (nth l hh).c)).drew A [.int .i64 hh, .int .i64 (nth l hh).b, .int .i64 (nth l hh).c] 174 := (((hB4.set 0 _).set 1 _).set 2 _).drew
  have hC5 : (fun w' : World => w'.cell? ⟨br, or + hh * 3 + 1, none⟩ = some (.int .i64 (nth l hh).b) ∧ w'.cell? ⟨br, or + hh * 3 + 2, none⟩ = some (.int .i64 (nth l hh).c) ∧ w'.cell? ⟨z, 0, none⟩ = some (.pointer (some ⟨p, 0, none⟩)) ∧ w'.cell? ⟨p, 0, none⟩ = some (.slice (some ⟨br, or, none⟩) l.length cap)) ((w4.setCell ⟨A, 0, none⟩ (.int .i64 hh)).setCell ⟨A, 1, none⟩ (.int .i64 (nth l hh).b) |>.setCell ⟨A, 2, none⟩ (.int .i64 (nth l hh).c)).drew := ⟨hst.cell y1 hne, hst.cell y2 hne, hst.cell z0 hzA, hst.cell v0 hpA⟩
  refine anyZ_step 25 rfl (by kernel_rfl) (fun K hK => ?_)
  go_simp
  refine hK _ _ hC5 ?_
  clear hK K
  try simp only [Act.put, List.setIfInBounds_toArray, List.set_cons_zero, List.set_cons_succ]
  refine anyZ_done (by kernel_rfl) ?_ _
  clear hC5 y0 y1 y2 z0 v0 c0 c1 c2 g0 g1 g2
  obtain ⟨V, hV⟩ : ∃ V, ((w4.setCell ⟨A, 0, none⟩ (.int .i64 hh)).setCell ⟨A, 1, none⟩ (.int .i64 (nth l hh).b) |>.setCell ⟨A, 2, none⟩ (.int .i64 (nth l hh).c)).drew = V := ⟨_, rfl⟩
  rw [hV] at hst hB5 ⊢
  clear hV
  have hX5 : Ext No w V := hX4.transNew hst (fun x (e : x = A) => by rw [hA'.out]; omega)
  have t0 := hB5.cell' (i := 0) rfl
  have t1 := hB5.cell' (i := 1) rfl
  have t2 := hB5.cell' (i := 2) rfl
  go_wp2_with fail
  refine bodyPost_ret (v := .tuple #[.agg #[.int .i64 hh, .int .i64 (nth l hh).b, .int .i64 (nth l hh).c], .bool true]) (by simp [results, Try.results133, go_sem, t0, t1, t2]) rfl ⟨rfl, hX5⟩
theorem rtag133_spec (h : RC w0 w z p q v F l ll) (page : Int) :
    Calls Try.prog 133 #[.pointer (some ⟨z, 0, none⟩), .int .i64 page] w fun e w' => e = .returned (.tuple #[.agg #[.int .i64 (tH l ll page), .int .i64 (tO l ll page), .int .i64 (rC l ll page)], .bool (tB l ll page)]) ∧ Ext No w w' := by
  by_cases hp : 0 ≤ page ∧ page < l.length
  · obtain ⟨i, rfl⟩ : ∃ i : Nat, page = i := ⟨page.toNat, by omega⟩
    have hil : i < l.length := by omega
    obtain ⟨hh, hd⟩ := hd_ex h.b.i.va hil
    have hf := headF_eq h.b.i.va hil hd
    have hb : tB l ll i = zout l ll hh := by
      unfold tB zout outAt
      have h1 := hd.hlt hil
      rw [in_nat hil, hf, Int.toNat_natCast, decide_eq_true (show (0 : Int) ≤ hh by omega), decide_eq_true (show (hh : Int) < l.length by omega)]
      simp
    unfold tH tO rC
    rw [hb]
    cases hz : zout l ll hh
    · exact rtag133_no h i hh hil hd hz
    · rw [if_pos rfl, if_pos rfl, if_pos rfl, hf, Int.toNat_natCast]
      exact rtag133_yes h i hh hil hd hz
  · have hb : tB l ll page = false := by
      unfold tB inT
      by_cases h0 : 0 ≤ page
      · rw [decide_eq_false (show ¬ page < l.length by omega)]; simp
      · rw [decide_eq_false h0]; simp
    unfold tH tO rC
    rw [hb]
    exact rtag133_out h page (by omega)
end
end Go.Proofs.Ytjkknjohmekeiaa
/- The document's zone in memory: Drain, Free, New. No condition. -/
namespace Go.Proofs.Ytjkknjohmekeiaa
open Go.RowKit

theorem t3s_setc {l : List T3} {k : Nat} (hk : k < l.length) (c : Int) : (t3sCells l).set (k * 3 + 2) (.int .i64 c) = t3sCells (l.set k ⟨(nth l k).a, (nth l k).b, c⟩) := by
  induction l generalizing k with
  | nil => simp at hk
  | cons y l ih =>
    have e : ∀ (y : T3) (l : List T3), t3sCells (y :: l) = .int .i64 y.a :: .int .i64 y.b :: .int .i64 y.c :: t3sCells l := fun y l => rfl
    cases k with
    | zero => simp [e, nth]
    | succ k =>
      have h := ih (k := k) (by simpa using hk)
      have e2 : nth (y :: l) (k + 1) = nth l k := by rw [nth_eq hk, nth_eq (by simpa using hk)]; rfl
      rw [List.set_cons_succ, e, e, e2, ← h]
      rw [show (k + 1) * 3 + 2 = k * 3 + 2 + 1 + 1 + 1 by omega]
      simp only [List.set_cons_succ]
theorem own3_c {w : World} {base e : Nat} {v : Value} {l : List T3} (h : w.ownsRow base e 3 v l.length (t3sCells l)) {k : Nat} (hk : k < l.length) :
    ∃ b cap, v = .slice (some ⟨b, 0, none⟩) l.length cap ∧ l.length ≤ cap ∧ cap ≤ 9223372036854775807 ∧ OwnOf v b ∧ b < w.heap.size ∧ base ≤ b ∧
      w.cell? ⟨b, k * 3 + 1, none⟩ = some (.int .i64 (nth l k).b) ∧ w.cell? ⟨b, k * 3 + 2, none⟩ = some (.int .i64 (nth l k).c) ∧ w.frozen? ⟨b, k * 3 + 2, none⟩ = false ∧
      ∀ c : Int, (w.setCell ⟨b, k * 3 + 2, none⟩ (.int .i64 c)).ownsRow base e 3 v l.length (t3sCells (l.set k ⟨(nth l k).a, (nth l k).b, c⟩)) := by
  obtain ⟨hl, ⟨rfl, h0⟩ | ⟨g, cap, cur, rfl, hb, hg, hn, hm, hs, ht⟩⟩ := id h
  · omega
  · have hB : Blk w g cur.toList e := by unfold Blk; rw [hg]
    have hcur : cur.toList.take (l.length * 3) = t3sCells l := ht
    have hat : ∀ i, i < 3 → cur.toList[k * 3 + i]? = (t3Cells (nth l k))[i]? := by
      intro i hi
      have h1 := t3sCells_at hk hi
      rw [← hcur, List.getElem?_take, if_pos (by omega)] at h1
      exact h1
    refine ⟨g, cap, rfl, hn, by simpa [maxLen] using hm, rfl, hB.lt, hb, ?_, ?_, hB.frozen _, fun c => ?_⟩
    · have := hat 1 (by omega); exact hB.cell' (by simpa [t3Cells] using this)
    · have := hat 2 (by omega); exact hB.cell' (by simpa [t3Cells] using this)
    · have hB3 := hB.set (k * 3 + 2) (.int .i64 c)
      refine ⟨by rw [t3sCells_len, List.length_set], .inr ⟨g, cap, _, rfl, hb, hB3, hn, hm, by simp; exact hs, ?_⟩⟩
      rw [← t3s_setc hk, ← hcur]
      simp only [List.take_set]

/-- What a call on the document's zone leaves and answers. -/
structure RA where
  l : List T3
  ll : List (List Int)
  x : Int
  e : Int
def ralloc (l : List T3) (ll : List (List Int)) (c o k : Int) : RA :=
  if inR ll c = false then ⟨l, ll, 0, 9⟩
  else if okA o k = false then ⟨l, ll, 0, 2⟩
  else if o = 0 ∧ takeB ll c = true then ⟨setC l (takeX ll c).toNat k, dropL ll c, takeX ll c, 0⟩
  else match leastL l o.toNat with
    | some b => ⟨allocL l o.toNat k.toNat, ll, b.i, 0⟩
    | none => ⟨allocL (backL l ll.flatten) o.toNat k.toNat, List.replicate ll.length [], allocX (backL l ll.flatten) o.toNat, allocE (backL l ll.flatten) o.toNat⟩
def rfree (l : List T3) (ll : List (List Int)) (c page : Int) : RA :=
  if inR ll c = false then ⟨l, ll, 0, 9⟩
  else if zout l ll page = false then ⟨l, ll, 0, 60⟩
  else if 0 < (nth l page.toNat).b then ⟨freeT l page.toNat, ll, 0, 0⟩
  else ⟨backL (setC l page.toNat 0) (putA ll 6 c page), putL ll 6 c page, 0, 0⟩
def rdrain (l : List T3) (ll : List (List Int)) (c : Int) : RA :=
  if inR ll c = false then ⟨l, ll, 0, 9⟩ else ⟨backL l (listIn ll c), drainL ll c, 0, 0⟩
section
variable {w0 w w' : World} {z p q : Nat} {v : Value} {F : Nat → Prop} {l : List T3} {ll : List (List Int)}
theorem RC.has (h : RC w0 w z p q v F l ll) {c : Int} {B : Bool} (hB : inR ll c = B) :
    Calls Try.prog 143 #[.pointer (some ⟨z, 0, none⟩), .int .i64 c] w fun e w' => e = .returned (.bool B) ∧ w = w' := by subst hB; exact rhas143_spec h c
/-- The cache of a single page that is out, stored anew. -/
theorem RC.setc (h : RC w0 w z p q v F l ll) {i : Nat} (hs : Sg l i) : ∃ b cap, v = .slice (some ⟨b, 0, none⟩) l.length cap ∧ l.length ≤ cap ∧ cap ≤ 9223372036854775807 ∧ w.cell? ⟨p, 0, none⟩ = some (.slice (some ⟨b, 0, none⟩) l.length cap) ∧
    w.cell? ⟨b, i * 3 + 1, none⟩ = some (.int .i64 0) ∧ (∃ u, w.cell? ⟨b, i * 3 + 2, none⟩ = some (.int .i64 u)) ∧ w.frozen? ⟨b, i * 3 + 2, none⟩ = false ∧
    ∀ c : Int, 0 ≤ c → c ≤ 8 → RC w0 (w.setCell ⟨b, i * 3 + 2, none⟩ (.int .i64 c)) z p q v F (setC l i c) ll ∧ Mv w (rfoot z p v F) (w.setCell ⟨b, i * 3 + 2, none⟩ (.int .i64 c)) (rfoot z p v F) := by
  obtain ⟨hi, ha, hb⟩ := hs.is
  obtain ⟨base, hr⟩ := h.b.r
  obtain ⟨g, cap, rfl, h1, h2, hown, hlt, hbase, c1, c2, fz, hst⟩ := own3_c hr.p hi
  rw [hb] at c1
  refine ⟨g, cap, rfl, h1, h2, hr.b.cell' (i := 0) rfl, c1, ⟨_, c2⟩, fz, fun c h0 h8 => ?_⟩
  have hx : Ext (OwnOf (.slice (some ⟨g, 0, none⟩) l.length cap)) w (w.setCell ⟨g, i * 3 + 2, none⟩ (.int .i64 c)) := (Ext.set1 w g (i * 3 + 2) _).mono (fun x _ (e : x = g) => by rw [e]; exact hown)
  have hrow := hst c
  rw [ha, hb] at hrow
  refine h.vmove ⟨h.b.x.transNew hx h.b.vn, ⟨base, hr.b.ext hx hr.ne, ?_, hr.ne, by rw [setC_len]; exact hr.n⟩, setC_bi h.b.i hs h0 h8, h.b.pn, h.b.vn⟩ hx
  rw [setC_len]; exact hrow

theorem rt_put2 {q : Nat} {G : Nat → Prop} {cap : Int} (h : NT w0 w q G ll cap 148) (c page : Int) {E : Int} {L : List (List Int)} {A : List Int} (hE : putE ll c page = E) (hL : putL ll cap c page = L) (hA : putA ll cap c page = A) :
    Calls Try.prog 97 #[.pointer (some ⟨q, 0, none⟩), .int .i64 c, .int .i64 page] w fun e w' => ∃ r G', e = .returned (.tuple #[r, .int .i64 E]) ∧
      NT w0 w' q G' L cap 148 ∧ Ans w' r A (fun b => OutF w0 G' b ∧ (G b ∨ w.heap.size ≤ b)) ∧ Ext G w w' ∧ Grows w G G' := by
  subst hE hL hA
  refine (rs_put w q G ll cap h.s c page).mono ?_
  rintro e w' ⟨r, he, hp⟩
  obtain ⟨F', g1, g2, g3, g4⟩ := h.post hp
  exact ⟨r, F', he, g1, g4.mono (fun b hb => ⟨⟨hb.1, by have := h.x.size; have := hb.2; omega⟩, .inr hb.2⟩), g2, g3⟩
theorem rt_drain2 {q : Nat} {G : Nat → Prop} {cap : Int} (h : NT w0 w q G ll cap 148) (c : Int) {A : List Int} {L : List (List Int)} (hA : listIn ll c = A) (hL : drainL ll c = L) :
    Calls Try.prog 99 #[.pointer (some ⟨q, 0, none⟩), .int .i64 c] w fun e w' => ∃ r G', e = .returned r ∧
      NT w0 w' q G' L cap 148 ∧ Ans w' r A (fun b => OutF w0 G' b ∧ (G b ∨ w.heap.size ≤ b)) ∧ Ext G w w' ∧ Grows w G G' := by
  subst hA hL
  refine (rs_drain w q G ll cap h.s c).mono ?_
  rintro e w' ⟨r, he, hp⟩
  obtain ⟨F', g1, g2, g3, g4⟩ := h.post hp
  exact ⟨r, F', he, g1, g4.mono (fun b hb => ⟨⟨hb.1, h.f b hb.2⟩, .inl hb.2⟩), g2, g3⟩
theorem rdrain127_spec (h : RC w0 w z p q v F l ll) (c : Int) :
    Calls Try.prog 127 #[.pointer (some ⟨z, 0, none⟩), .int .i64 c] w fun e w' => e = .returned (.int .i64 (rdrain l ll c).e) ∧ ∃ F', RC w0 w' z p q v F' (rdrain l ll c).l (rdrain l ll c).ll ∧ Mv w (rfoot z p v F) w' (rfoot z p v F') := by
  cases hc : inR ll c
  · have e1 : rdrain l ll c = ⟨l, ll, 0, 9⟩ := by unfold rdrain; rw [if_pos hc]
    rw [e1]
    have hh := h.has hc
    go_enter Try.func127, Try.ntmps127
    go_wp2_with fail
    refine hh.mono ?_
    rintro e w1 ⟨rfl, rfl⟩
    go_wp2_with fail
    go_ret
    exact ⟨rfl, F, h, Mv.refl _ _⟩
  · have e1 : rdrain l ll c = ⟨backL l (listIn ll c), drainL ll c, 0, 0⟩ := by unfold rdrain; rw [if_neg (by rw [hc]; decide)]
    rw [e1]
    have hh := h.has hc
    have z1 := h.c.cell' (i := 1) rfl
    obtain ⟨L, hL⟩ : ∃ L, drainL ll c = L := ⟨_, rfl⟩
    obtain ⟨A, hA⟩ : ∃ A, listIn ll c = A := ⟨_, rfl⟩
    rw [hL, hA]
    clear e1
    go_enter Try.func127, Try.ntmps127
    go_wp2_with fail
    refine hh.mono ?_
    rintro e w1 ⟨rfl, rfl⟩
    go_wp2_with fail
    refine (rt_drain2 h.e c hA hL).mono ?_
    rintro e w2 ⟨r, F2, rfl, hN2, ha2, hx2, hg2⟩
    have hG : ∀ x, (OutF w0 F2 x ∧ (F x ∨ w.heap.size ≤ x)) → ¬ OwnOf v x := fun x hx ho => by
      rcases hx.2 with hh | hh
      · exact h.ap.vf x ho hh
      · have := h.b.lt.2 x ho; omega
    obtain ⟨h2, hM2⟩ := h.fmove hN2 hx2 hg2
    have hend := rback145_spec w0 w2 z p _ h2.c _ A _ ha2.rd h2.b h2.ap.zv hG
    obtain ⟨ar, cr, rfl, _, _⟩ := ha2.val
    clear hN2 ha2 hx2 hg2 hG hh z1
    go_wp2_with fail
    refine hend.mono ?_
    rintro e w3 ⟨⟨u, rfl⟩, hB3, hx3⟩
    obtain ⟨h3, hM3⟩ := h2.vmove hB3 hx3
    clear hend hB3 hx3
    go_wp2_with fail
    go_ret
    exact ⟨rfl, F2, h3, hM2.trans hM3⟩
set_option maxRecDepth 100000 in
set_option maxHeartbeats 3200000 in
theorem rfree129_spec (h : RC w0 w z p q v F l ll) (c page : Int) :
    Calls Try.prog 129 #[.pointer (some ⟨z, 0, none⟩), .int .i64 c, .int .i64 page] w fun e w' => e = .returned (.int .i64 (rfree l ll c page).e) ∧ ∃ F', RC w0 w' z p q v F' (rfree l ll c page).l (rfree l ll c page).ll ∧ Mv w (rfoot z p v F) w' (rfoot z p v F') := by
  cases hc : inR ll c
  · have e1 : rfree l ll c page = ⟨l, ll, 0, 9⟩ := by unfold rfree; rw [if_pos hc]
    rw [e1]
    have hh := h.has hc
    go_enter Try.func129, Try.ntmps129
    go_wp2_with fail
    refine hh.mono ?_
    rintro e w1 ⟨rfl, rfl⟩
    go_wp2_with fail
    go_ret
    exact ⟨rfl, F, h, Mv.refl _ _⟩
  · have hcn : ¬ inR ll c = false := by rw [hc]; decide
    have hh := h.has hc
    have hout := rout146_spec h page
    cases hz : zout l ll page
    · have e1 : rfree l ll c page = ⟨l, ll, 0, 60⟩ := by unfold rfree; rw [if_neg hcn, if_pos hz]
      rw [e1]
      rw [hz] at hout
      clear e1 hcn
      go_enter Try.func129, Try.ntmps129
      go_wp2_with fail
      refine hh.mono ?_
      rintro e w1 ⟨rfl, rfl⟩
      go_wp2_with fail
      refine hout.mono ?_
      rintro e w2 ⟨rfl, hx⟩
      go_wp2_with fail
      go_ret
      exact ⟨rfl, F, h.extNo hx, Mv.no hx _⟩
    · have hzn : ¬ zout l ll page = false := by rw [hz]; decide
      rw [hz] at hout
      obtain ⟨i, rfl, hi, ha, hn, _⟩ := zout_yes h.b.i hz
      have hle := h.b.i.le
      by_cases hb : 0 < (nth l i).b
      · have e1 : rfree l ll c i = ⟨freeT l i, ll, 0, 0⟩ := by unfold rfree; rw [if_neg hcn, if_neg hzn, Int.toNat_natCast, if_pos hb]
        rw [e1]
        clear e1 hcn hzn hz
        go_enter Try.func129, Try.ntmps129
        go_wp2_with fail
        refine hh.mono ?_
        rintro e w1 ⟨rfl, rfl⟩
        go_wp2_with fail
        refine hout.mono ?_
        rintro e w2 ⟨rfl, hx⟩
        have h2 := h.extNo hx
        have hspec := rt_freeA h2.b (i : Int)
        rw [fstep_out hi ha, show fE l (i : Int) = 0 by unfold fE; rw [outAt_iff.2 ⟨i, rfl, hi, ha⟩]; rfl] at hspec
        have z0 := h2.c.cell' (i := 0) rfl
        obtain ⟨a, cap, rfl, hlc, hcap, v0⟩ := h2.v0
        obtain ⟨base, hr⟩ := h2.b.r
        obtain ⟨bb, off, rfl, _, _, x0, x1, x2⟩ := hr.rd.at hi
        have hib : (i : Int) < l.length := by omega
        have hq : decide ((nth l i).b > 0) = true := decide_eq_true hb
        have hq' : decide (0 < (nth l i).b) = true := decide_eq_true hb
        clear hh hout hr x0 x2
        go_wp2_with fail
        refine hspec.mono ?_
        rintro e w3 ⟨rfl, hB3, hx3⟩
        obtain ⟨h3, hM3⟩ := h2.vmove hB3 hx3
        clear hspec hB3 hx3 x1 z0 v0
        go_wp2_with fail
        go_ret
        exact ⟨rfl, F, h3, (Mv.no hx _).trans hM3⟩
      · have e1 : rfree l ll c i = ⟨backL (setC l i 0) (putA ll 6 c i), putL ll 6 c i, 0, 0⟩ := by unfold rfree; rw [if_neg hcn, if_neg hzn, Int.toNat_natCast, if_neg hb]
        rw [e1]
        obtain ⟨k, c0, hk, he⟩ := out_is h.b.i.va hi ha
        have hb0 : (nth l i).b = 0 := by rw [he] at hb ⊢; have : ¬ (0 : Int) < (k : Nat) := hb; show ((k : Nat) : Int) = 0; omega
        have hs : Sg l i := ⟨i, rfl, hi, ha, hb0⟩
        have hpE : putE ll c i = 0 := putE_zero.2 ⟨hc, by omega, by omega, hn⟩
        obtain ⟨L, hL⟩ : ∃ L, putL ll 6 c i = L := ⟨_, rfl⟩
        obtain ⟨A, hA⟩ : ∃ A, putA ll 6 c i = A := ⟨_, rfl⟩
        rw [hL, hA]
        have hib : (i : Int) < l.length := by omega
        clear e1 hcn hzn hz he hb hb0
        go_enter Try.func129, Try.ntmps129
        go_wp2_with fail
        refine hh.mono ?_
        rintro e w1 ⟨rfl, rfl⟩
        go_wp2_with fail
        refine hout.mono ?_
        rintro e w2 ⟨rfl, hx⟩
        have h2 := h.extNo hx
        have z0 := h2.c.cell' (i := 0) rfl
        obtain ⟨g, cap, rfl, hlc, hcap, v0, x1, ⟨u, x2⟩, fz, hset⟩ := h2.setc hs
        obtain ⟨h3, hM3⟩ := hset 0 (by decide) (by decide)
        have z1 := h3.c.cell' (i := 1) rfl
        have z0' := h3.c.cell' (i := 0) rfl
        have hM3' := (Mv.no hx (rfoot z p (.slice (some ⟨g, 0, none⟩) l.length cap) F)).trans hM3
        clear hh hout hset hM3 hx
        go_wp2_with fail
        refine (rt_put2 h3.e c i hpE hL hA).mono ?_
        rintro e w4 ⟨r, F4, rfl, hN4, ha4, hx4, hg4⟩
        have hG : ∀ x, (OutF w0 F4 x ∧ (F x ∨ (w2.setCell ⟨g, i * 3 + 2, none⟩ (.int .i64 0)).heap.size ≤ x)) → ¬ OwnOf (.slice (some ⟨g, 0, none⟩) l.length cap) x := fun x hx ho => by
          rcases hx.2 with hh | hh
          · exact h3.ap.vf x ho hh
          · have := h3.b.lt.2 x ho; omega
        obtain ⟨h4, hM4⟩ := h3.fmove hN4 hx4 hg4
        have hend := rback145_spec w0 w4 z p _ h4.c _ A _ ha4.rd h4.b h4.ap.zv hG
        obtain ⟨ar, cr, rfl, _, _⟩ := ha4.val
        have hM5 := hM3'.trans hM4
        clear hN4 ha4 hx4 hg4 hG hM3' hM4 z0 z1 z0' v0 x1 x2 fz h3
        go_wp2_with fail
        refine hend.mono ?_
        rintro e w5 ⟨⟨u5, rfl⟩, hB5, hx5⟩
        obtain ⟨h5, hM6⟩ := h4.vmove hB5 hx5
        clear hend hB5 hx5
        go_wp2_with fail
        go_ret
        exact ⟨rfl, F4, h5, hM5.trans hM6⟩
end
end Go.Proofs.Ytjkknjohmekeiaa
/- The document's zone in memory: Alloc. No condition. -/
namespace Go.Proofs.Ytjkknjohmekeiaa
open Go.RowKit

theorem rep_nil : ∀ {ll : List (List Int)}, ll.flatten = [] → List.replicate ll.length [] = ll
  | [], _ => rfl
  | x :: r, h => by
    rw [List.flatten_cons, List.append_eq_nil_iff] at h
    rw [List.length_cons, List.replicate_succ, rep_nil h.2, h.1]
section
variable {w0 w w' : World} {z p q : Nat} {v : Value} {F : Nat → Prop} {l : List T3} {ll : List (List Int)}
set_option maxRecDepth 100000 in
set_option maxHeartbeats 1600000 in
theorem ralloc_arg (h : RC w0 w z p q v F l ll) (c o k : Int) (hc : inR ll c = true) (hbad : ¬ ((0 ≤ o ∧ o ≤ 10) ∧ 0 ≤ k ∧ k ≤ 8)) :
    Calls Try.prog 126 #[.pointer (some ⟨z, 0, none⟩), .int .i64 c, .int .i64 o, .int .i64 k] w fun e w' => e = .returned (.tuple #[.int .i64 0, .int .i64 2]) ∧ w = w' := by
  have ha := h.has hc
  clear hc h
  have hex : o < 0 ∨ (0 ≤ o ∧ 10 < o) ∨ ((0 ≤ o ∧ o ≤ 10) ∧ k < 0) ∨ ((0 ≤ o ∧ o ≤ 10) ∧ 0 ≤ k ∧ 8 < k) := by omega
  clear hbad
  rcases hex with h1 | ⟨h1, h2⟩ | ⟨⟨h1, h2⟩, h3⟩ | ⟨⟨h1, h2⟩, h3, h4⟩
  all_goals
    go_enter Try.func126, Try.ntmps126
    go_wp2_with fail
    refine ha.mono ?_
    rintro e w1 ⟨rfl, rfl⟩
    go_wp2_with fail
    go_ret2
    exact ⟨rfl, rfl⟩
theorem ralloc_range (h : RC w0 w z p q v F l ll) (c o k : Int) (hc : inR ll c = false) :
    Calls Try.prog 126 #[.pointer (some ⟨z, 0, none⟩), .int .i64 c, .int .i64 o, .int .i64 k] w fun e w' => e = .returned (.tuple #[.int .i64 0, .int .i64 9]) ∧ w = w' := by
  have ha := h.has hc
  go_enter Try.func126, Try.ntmps126
  go_wp2_with fail
  refine ha.mono ?_
  rintro e w1 ⟨rfl, rfl⟩
  go_wp2_with fail
  go_ret2
  exact ⟨rfl, rfl⟩
set_option maxRecDepth 100000 in
set_option maxHeartbeats 3200000 in
theorem ralloc_near (h : RC w0 w z p q v F l ll) (c : Int) (k : Nat) (hk : k ≤ 8) (hc : inR ll c = true) (hb : takeB ll c = true) (hs : Sg l (takeX ll c)) :
    Calls Try.prog 126 #[.pointer (some ⟨z, 0, none⟩), .int .i64 c, .int .i64 0, .int .i64 k] w fun e w' => e = .returned (.tuple #[.int .i64 (takeX ll c), .int .i64 0]) ∧
      ∃ F', RC w0 w' z p q v F' (setC l (takeX ll c).toNat k) (dropL ll c) ∧ Mv w (rfoot z p v F) w' (rfoot z p v F') := by
  have ha := h.has hc
  obtain ⟨X, hX⟩ : ∃ X, takeX ll c = X := ⟨_, rfl⟩
  obtain ⟨L, hL⟩ : ∃ L, dropL ll c = L := ⟨_, rfl⟩
  have ht := rt_take h.e c hX hb hL
  rw [hX] at hs ⊢
  rw [hL]
  clear hX hb hL hc
  obtain ⟨i, rfl, hi, _, _⟩ := id hs
  rw [Int.toNat_natCast]
  have hib : (i : Int) < l.length := by omega
  have z1 := h.c.cell' (i := 1) rfl
  have hdk : decide ((8 : Int) < k) = false := decide_eq_false (by omega)
  go_enter Try.func126, Try.ntmps126
  go_wp2_with fail
  refine ha.mono ?_
  rintro e w1 ⟨rfl, rfl⟩
  go_wp2_with fail
  refine ht.mono ?_
  rintro e w2 ⟨F2, rfl, hN2, hx2, hg2⟩
  obtain ⟨h2, hM2⟩ := h.fmove hN2 hx2 hg2
  have z0 := h2.c.cell' (i := 0) rfl
  obtain ⟨g, cap, rfl, hlc, hcap, v0, x1, ⟨u, x2⟩, fz, hset⟩ := h2.setc hs
  obtain ⟨h3, hM3⟩ := hset k (by omega) (by omega)
  clear hN2 hx2 hg2 z1 ha ht hset
  go_wp2_with fail
  go_ret2
  exact ⟨rfl, F2, h3, hM2.trans hM3⟩
set_option maxRecDepth 100000 in
set_option maxHeartbeats 6400000 in
theorem ralloc_some (h : RC w0 w z p q v F l ll) (c : Int) (o k : Nat) (ho : o ≤ 10) (hk : k ≤ 8) (hc : inR ll c = true) (hf : ¬ (o = 0 ∧ takeB ll c = true)) {b : Bk} (hb : leastL l o = some b) :
    Calls Try.prog 126 #[.pointer (some ⟨z, 0, none⟩), .int .i64 c, .int .i64 o, .int .i64 k] w fun e w' => e = .returned (.tuple #[.int .i64 b.i, .int .i64 0]) ∧ ∃ F', RC w0 w' z p q v F' (allocL l o k) ll ∧ Mv w (rfoot z p v F) w' (rfoot z p v F') := by
  have ha := h.has hc
  have hn8 := h.e.ok.n8
  have hdo : decide ((10 : Int) < o) = false := decide_eq_false (by omega)
  have hdk : decide ((8 : Int) < k) = false := decide_eq_false (by omega)
  have hd0 : decide ((o : Int) < 0) = false := decide_eq_false (by omega)
  have hd1 : decide ((k : Int) < 0) = false := decide_eq_false (by omega)
  have hokA : okA o k = true := decide_eq_true (by omega)
  have eX : ∀ l1, aX l1 o k = allocX l1 o := fun l1 => by unfold aX; rw [hokA]; rfl
  have eE : ∀ l1, aE l1 o k = allocE l1 o := fun l1 => by unfold aE; rw [hokA]; rfl
  have eL : ∀ l1, aL l1 o k = allocL l1 o k := fun l1 => by unfold aL; rw [hokA]; rfl
  have hX : allocX l o = b.i := by unfold allocX; rw [hb]
  have hE : allocE l o = 0 := by unfold allocE; rw [hb]
  obtain ⟨x, hx0⟩ : ∃ x : Nat, b.i = x := ⟨_, rfl⟩
  rw [hx0] at hX ⊢
  clear hb hokA
  by_cases h0 : o = 0
  · subst h0
    have htb : takeB ll c = false := by cases hh : takeB ll c; rfl; exact absurd ⟨rfl, hh⟩ hf
    have ht := rt_take h.e c rfl htb (take_none htb)
    have z1 := h.c.cell' (i := 1) rfl
    clear hf htb hc
    go_enter Try.func126, Try.ntmps126
    go_wp2_with fail
    refine ha.mono ?_
    rintro e w1 ⟨rfl, rfl⟩
    go_wp2_with fail
    refine ht.mono ?_
    rintro e w2 ⟨F2, rfl, hN2, hx2, hg2⟩
    obtain ⟨h2, hM2⟩ := h.fmove hN2 hx2 hg2
    have z0 := h2.c.cell' (i := 0) rfl
    clear hN2 hx2 hg2 z1 ha ht
    have hspec := rt_allocA h2.b (0 : Nat) k
    rw [eX, eE, eL, hX, hE] at hspec
    go_wp2_with fail
    refine hspec.mono ?_
    rintro e w3 ⟨rfl, hB3, hx3⟩
    obtain ⟨h3, hM3⟩ := h2.vmove hB3 hx3
    have hM4 := hM2.trans hM3
    clear hspec hB3 hx3 z0 hX hE eX eE eL
    go_wp2_with fail
    go_ret2
    exact ⟨rfl, F2, h3, hM4⟩

  · have hq0 : ((o : Int) == 0) = false := by rw [beq_eq_false_iff_ne]; omega
    have hq1 : ¬ (o : Int) = 0 := by omega
    have z0 := h.c.cell' (i := 0) rfl
    clear hf hc
    go_enter Try.func126, Try.ntmps126
    go_wp2_with fail
    refine ha.mono ?_
    rintro e w1 ⟨rfl, rfl⟩
    have hM2 := Mv.refl w (rfoot z p v F)
    have hspec := rt_allocA h.b (o : Nat) k
    rw [eX, eE, eL, hX, hE] at hspec
    go_wp2_with fail
    refine hspec.mono ?_
    rintro e w3 ⟨rfl, hB3, hx3⟩
    obtain ⟨h3, hM3⟩ := h.vmove hB3 hx3
    have hM4 := hM2.trans hM3
    clear hspec hB3 hx3 z0 hX hE eX eE eL
    go_wp2_with fail
    go_ret2
    exact ⟨rfl, F, h3, hM4⟩

set_option maxRecDepth 100000 in
set_option maxHeartbeats 6400000 in
theorem ralloc_none (h : RC w0 w z p q v F l ll) (c : Int) (o k : Nat) (ho : o ≤ 10) (hk : k ≤ 8) (hc : inR ll c = true) (hf : ¬ (o = 0 ∧ takeB ll c = true)) (hb : leastL l o = none) :
    Calls Try.prog 126 #[.pointer (some ⟨z, 0, none⟩), .int .i64 c, .int .i64 o, .int .i64 k] w fun e w' => e = .returned (.tuple #[.int .i64 (allocX (backL l ll.flatten) o), .int .i64 (allocE (backL l ll.flatten) o)]) ∧ ∃ F', RC w0 w' z p q v F' (allocL (backL l ll.flatten) o k) (List.replicate ll.length []) ∧ Mv w (rfoot z p v F) w' (rfoot z p v F') := by
  have ha := h.has hc
  have hn8 := h.e.ok.n8
  have hdo : decide ((10 : Int) < o) = false := decide_eq_false (by omega)
  have hdk : decide ((8 : Int) < k) = false := decide_eq_false (by omega)
  have hd0 : decide ((o : Int) < 0) = false := decide_eq_false (by omega)
  have hd1 : decide ((k : Int) < 0) = false := decide_eq_false (by omega)
  have hokA : okA o k = true := decide_eq_true (by omega)
  have eX : ∀ l1, aX l1 o k = allocX l1 o := fun l1 => by unfold aX; rw [hokA]; rfl
  have eE : ∀ l1, aE l1 o k = allocE l1 o := fun l1 => by unfold aE; rw [hokA]; rfl
  have eL : ∀ l1, aL l1 o k = allocL l1 o k := fun l1 => by unfold aL; rw [hokA]; rfl
  have hX : allocX l o = 0 := by unfold allocX; rw [hb]
  have hE : allocE l o = 7 := by unfold allocE; rw [hb]
  have hL : allocL l o k = l := BI.none k hb
  clear hb hokA
  by_cases h0 : o = 0
  · subst h0
    have htb : takeB ll c = false := by cases hh : takeB ll c; rfl; exact absurd ⟨rfl, hh⟩ hf
    have ht := rt_take h.e c rfl htb (take_none htb)
    have z1 := h.c.cell' (i := 1) rfl
    clear hf htb hc
    go_enter Try.func126, Try.ntmps126
    go_wp2_with fail
    refine ha.mono ?_
    rintro e w1 ⟨rfl, rfl⟩
    go_wp2_with fail
    refine ht.mono ?_
    rintro e w2 ⟨F2, rfl, hN2, hx2, hg2⟩
    obtain ⟨h2, hM2⟩ := h.fmove hN2 hx2 hg2
    have z0 := h2.c.cell' (i := 0) rfl
    clear hN2 hx2 hg2 z1 ha ht
    have hspec := rt_allocA h2.b (0 : Nat) k
    rw [eX, eE, eL, hX, hE, hL] at hspec
    go_wp2_with fail
    refine hspec.mono ?_
    rintro e w3 ⟨rfl, hB3, hx3⟩
    obtain ⟨h3, hM3⟩ := h2.vmove hB3 hx3
    have hM4 := hM2.trans hM3
    have hX' := Lib.hid hX; have hE' := Lib.hid hE; have hL' := Lib.hid hL
    have eX' := Lib.hid eX; have eE' := Lib.hid eE; have eL' := Lib.hid eL
    clear hspec hB3 hx3 z0 hX hE hL eX eE eL
    go_wp2_with fail
    refine (rnear144_spec h3).mono ?_
    rintro e w4 ⟨rfl, rfl⟩
    obtain ⟨T, hT⟩ : ∃ T, ll.flatten.length = T := ⟨_, rfl⟩
    rw [hT]
    have hT' := Lib.hid hT
    clear hT
    by_cases hfl : 0 < T
    · have hdf : decide ((T : Int) > 0) = true := decide_eq_true (by omega)
      have hdf' : decide (0 < T) = true := decide_eq_true hfl
      obtain ⟨nn, hnn⟩ : ∃ nn, ll.length = nn := ⟨_, rfl⟩
      have hnn' := Lib.hid hnn
      rw [hnn] at hn8
      clear hnn
      go_wp2_with fail
      go_loopg [14] nn (fun g i wr => ∃ (c : Nat) (F' : Nat → Prop), c + g = nn ∧ i = .int .i64 c ∧ RC w0 wr z p q v F' (backL l (ll.take c).flatten) (drK ll c) ∧ Mv w (rfoot z p v F) wr (rfoot z p v F'))
      case atStart => exact ⟨0, F2, by omega, rfl, h3, hM4⟩
      case round =>
        clear h3 hM4 hM3 hM2
        obtain ⟨c9, F9, hg, rfl, h9, hM9⟩ := hrel
        obtain ⟨wz, hwz⟩ : ∃ wz, wr = wz := ⟨_, rfl⟩
        rw [hwz] at h9 hM9 ⊢
        clear hwz
        have hg' := Lib.hid hg
        have hcn : c9 ≤ nn := by omega
        clear hg
        obtain ⟨lb, n0⟩ := h9.n0
        rw [drK_len (by rw [hnn'.out]; exact hcn), hnn'.out] at n0
        have z1 := h9.c.cell' (i := 1) rfl
        by_cases hlt : c9 < nn
        · have hlt' : c9 < ll.length := by rw [hnn'.out]; exact hlt
          have hd : decide ((c9 : Int) < nn) = true := decide_eq_true (by omega)
          have e1 := Lib.hid (drK_list hlt')
          have e2 := Lib.hid (drK_next hlt')
          have e3 := Lib.hid (flat_next hlt')
          go_wp2_with fail
          refine (rt_drain2 h9.e (c9 : Int) e1.out e2.out).mono ?_
          rintro e w5 ⟨r, F5, rfl, hN5, ha5, hx5, hg5⟩
          have hG : ∀ x, (OutF w0 F5 x ∧ (F9 x ∨ wz.heap.size ≤ x)) → ¬ OwnOf v x := fun x hx ho => by
            rcases hx.2 with hh | hh
            · exact h9.ap.vf x ho hh
            · have := h9.b.lt.2 x ho; omega
          obtain ⟨h5, hM5⟩ := h9.fmove hN5 hx5 hg5
          have hback := rback145_spec w0 w5 z p _ h5.c _ _ _ ha5.rd h5.b h5.ap.zv hG
          have hM6 := hM9.trans hM5
          obtain ⟨A, hA⟩ : ∃ A, nth ll c9 = A := ⟨_, rfl⟩
          rw [hA] at hback e3 ha5
          obtain ⟨ar, cr, rfl, _, _⟩ := ha5.val
          clear hN5 ha5 hx5 hg5 hG z1 n0 hM5 hM9 hA
          go_wp2_with fail
          refine hback.mono ?_
          rintro e w6 ⟨⟨u, rfl⟩, hB6, hx6⟩
          obtain ⟨h6, hM7⟩ := h5.vmove hB6 hx6
          have hM8 := hM6.trans hM7
          rw [← backL_app, ← e3.out] at h6
          clear hback hB6 hx6 hM7 hM6 h5 h9
          go_wp2_with fail
          go_roundg (nn - (c9 + 1))
          case measure => have := hg'.out; omega
          case rel => exact ⟨c9 + 1, F5, by omega, by go_num, h6, hM8⟩
        · have hd : decide ((c9 : Int) < nn) = false := decide_eq_false (by omega)
          obtain rfl : c9 = nn := by omega
          rw [← hnn'.out, List.take_length, drK_all] at h9
          have z0 := h9.c.cell' (i := 0) rfl
          have hspec2 := rt_allocA h9.b (0 : Nat) k
          rw [eX'.out, eE'.out, eL'.out] at hspec2
          obtain ⟨X1, hX1⟩ : ∃ X1, allocX (backL l ll.flatten) (0 : Nat) = X1 := ⟨_, rfl⟩
          obtain ⟨E1, hE1⟩ : ∃ E1, allocE (backL l ll.flatten) (0 : Nat) = E1 := ⟨_, rfl⟩
          rw [hX1, hE1] at hspec2
          have hX1' := Lib.hid hX1; have hE1' := Lib.hid hE1
          clear hX1 hE1
          go_wp2_with fail
          refine hspec2.mono ?_
          rintro e w5 ⟨rfl, hB5, hx5⟩
          obtain ⟨h5, hM5⟩ := h9.vmove hB5 hx5
          have hM6 := hM9.trans hM5
          clear hspec2 hB5 hx5 hM5 z0 z1 n0 hM9 h9
          go_wp2_with fail
          go_ret2
          rw [hX1'.out, hE1'.out]
          exact ⟨rfl, F9, h5, hM6⟩
    · have hdf : decide ((T : Int) > 0) = false := decide_eq_false (by omega)
      have hdf' : decide (0 < T) = false := decide_eq_false hfl
      have hnil : ll.flatten = [] := List.eq_nil_of_length_eq_zero (by rw [hT'.out]; omega)
      have hrn := rep_nil hnil
      have e1 : Hid (backL l ll.flatten = l) := by show _ = _; rw [hnil]; rfl
      have hrn' := Lib.hid hrn
      clear hnil hfl hrn
      go_wp2_with fail
      go_ret2
      rw [e1.out, hX'.out, hE'.out, hL'.out, hrn'.out]
      exact ⟨rfl, F2, h3, hM4⟩

  · have hq0 : ((o : Int) == 0) = false := by rw [beq_eq_false_iff_ne]; omega
    have hq1 : ¬ (o : Int) = 0 := by omega
    have z0 := h.c.cell' (i := 0) rfl
    clear hf hc
    go_enter Try.func126, Try.ntmps126
    go_wp2_with fail
    refine ha.mono ?_
    rintro e w1 ⟨rfl, rfl⟩
    have hM2 := Mv.refl w (rfoot z p v F)
    have hspec := rt_allocA h.b (o : Nat) k
    rw [eX, eE, eL, hX, hE, hL] at hspec
    go_wp2_with fail
    refine hspec.mono ?_
    rintro e w3 ⟨rfl, hB3, hx3⟩
    obtain ⟨h3, hM3⟩ := h.vmove hB3 hx3
    have hM4 := hM2.trans hM3
    have hX' := Lib.hid hX; have hE' := Lib.hid hE; have hL' := Lib.hid hL
    have eX' := Lib.hid eX; have eE' := Lib.hid eE; have eL' := Lib.hid eL
    clear hspec hB3 hx3 z0 hX hE hL eX eE eL
    go_wp2_with fail
    refine (rnear144_spec h3).mono ?_
    rintro e w4 ⟨rfl, rfl⟩
    obtain ⟨T, hT⟩ : ∃ T, ll.flatten.length = T := ⟨_, rfl⟩
    rw [hT]
    have hT' := Lib.hid hT
    clear hT
    by_cases hfl : 0 < T
    · have hdf : decide ((T : Int) > 0) = true := decide_eq_true (by omega)
      have hdf' : decide (0 < T) = true := decide_eq_true hfl
      obtain ⟨nn, hnn⟩ : ∃ nn, ll.length = nn := ⟨_, rfl⟩
      have hnn' := Lib.hid hnn
      rw [hnn] at hn8
      clear hnn
      go_wp2_with fail
      go_loopg [14] nn (fun g i wr => ∃ (c : Nat) (F' : Nat → Prop), c + g = nn ∧ i = .int .i64 c ∧ RC w0 wr z p q v F' (backL l (ll.take c).flatten) (drK ll c) ∧ Mv w (rfoot z p v F) wr (rfoot z p v F'))
      case atStart => exact ⟨0, F, by omega, rfl, h3, hM4⟩
      case round =>
        clear h3 hM4 hM3 hM2
        obtain ⟨c9, F9, hg, rfl, h9, hM9⟩ := hrel
        obtain ⟨wz, hwz⟩ : ∃ wz, wr = wz := ⟨_, rfl⟩
        rw [hwz] at h9 hM9 ⊢
        clear hwz
        have hg' := Lib.hid hg
        have hcn : c9 ≤ nn := by omega
        clear hg
        obtain ⟨lb, n0⟩ := h9.n0
        rw [drK_len (by rw [hnn'.out]; exact hcn), hnn'.out] at n0
        have z1 := h9.c.cell' (i := 1) rfl
        by_cases hlt : c9 < nn
        · have hlt' : c9 < ll.length := by rw [hnn'.out]; exact hlt
          have hd : decide ((c9 : Int) < nn) = true := decide_eq_true (by omega)
          have e1 := Lib.hid (drK_list hlt')
          have e2 := Lib.hid (drK_next hlt')
          have e3 := Lib.hid (flat_next hlt')
          go_wp2_with fail
          refine (rt_drain2 h9.e (c9 : Int) e1.out e2.out).mono ?_
          rintro e w5 ⟨r, F5, rfl, hN5, ha5, hx5, hg5⟩
          have hG : ∀ x, (OutF w0 F5 x ∧ (F9 x ∨ wz.heap.size ≤ x)) → ¬ OwnOf v x := fun x hx ho => by
            rcases hx.2 with hh | hh
            · exact h9.ap.vf x ho hh
            · have := h9.b.lt.2 x ho; omega
          obtain ⟨h5, hM5⟩ := h9.fmove hN5 hx5 hg5
          have hback := rback145_spec w0 w5 z p _ h5.c _ _ _ ha5.rd h5.b h5.ap.zv hG
          have hM6 := hM9.trans hM5
          obtain ⟨A, hA⟩ : ∃ A, nth ll c9 = A := ⟨_, rfl⟩
          rw [hA] at hback e3 ha5
          obtain ⟨ar, cr, rfl, _, _⟩ := ha5.val
          clear hN5 ha5 hx5 hg5 hG z1 n0 hM5 hM9 hA
          go_wp2_with fail
          refine hback.mono ?_
          rintro e w6 ⟨⟨u, rfl⟩, hB6, hx6⟩
          obtain ⟨h6, hM7⟩ := h5.vmove hB6 hx6
          have hM8 := hM6.trans hM7
          rw [← backL_app, ← e3.out] at h6
          clear hback hB6 hx6 hM7 hM6 h5 h9
          go_wp2_with fail
          go_roundg (nn - (c9 + 1))
          case measure => have := hg'.out; omega
          case rel => exact ⟨c9 + 1, F5, by omega, by go_num, h6, hM8⟩
        · have hd : decide ((c9 : Int) < nn) = false := decide_eq_false (by omega)
          obtain rfl : c9 = nn := by omega
          rw [← hnn'.out, List.take_length, drK_all] at h9
          have z0 := h9.c.cell' (i := 0) rfl
          have hspec2 := rt_allocA h9.b (o : Nat) k
          rw [eX'.out, eE'.out, eL'.out] at hspec2
          obtain ⟨X1, hX1⟩ : ∃ X1, allocX (backL l ll.flatten) (o : Nat) = X1 := ⟨_, rfl⟩
          obtain ⟨E1, hE1⟩ : ∃ E1, allocE (backL l ll.flatten) (o : Nat) = E1 := ⟨_, rfl⟩
          rw [hX1, hE1] at hspec2
          have hX1' := Lib.hid hX1; have hE1' := Lib.hid hE1
          clear hX1 hE1
          go_wp2_with fail
          refine hspec2.mono ?_
          rintro e w5 ⟨rfl, hB5, hx5⟩
          obtain ⟨h5, hM5⟩ := h9.vmove hB5 hx5
          have hM6 := hM9.trans hM5
          clear hspec2 hB5 hx5 hM5 z0 z1 n0 hM9 h9
          go_wp2_with fail
          go_ret2
          rw [hX1'.out, hE1'.out]
          exact ⟨rfl, F9, h5, hM6⟩
    · have hdf : decide ((T : Int) > 0) = false := decide_eq_false (by omega)
      have hdf' : decide (0 < T) = false := decide_eq_false hfl
      have hnil : ll.flatten = [] := List.eq_nil_of_length_eq_zero (by rw [hT'.out]; omega)
      have hrn := rep_nil hnil
      have e1 : Hid (backL l ll.flatten = l) := by show _ = _; rw [hnil]; rfl
      have hrn' := Lib.hid hrn
      clear hnil hfl hrn
      go_wp2_with fail
      go_ret2
      rw [e1.out, hX'.out, hE'.out, hL'.out, hrn'.out]
      exact ⟨rfl, F, h3, hM4⟩

end
end Go.Proofs.Ytjkknjohmekeiaa
