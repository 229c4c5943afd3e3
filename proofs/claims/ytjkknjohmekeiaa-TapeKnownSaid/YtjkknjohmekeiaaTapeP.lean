/- The laws TapeBack and TapeWhole: the walks. No condition but that bytes read fit into memory. -/
import Derived.Test.YtjkknjohmekeiaaTapeN
import Derived.Test.YtjkknjohmekeiaaRound
namespace Go.Proofs.Ytjkknjohmekeiaa
open Go.RowKit

theorem RdB.any {F : Nat → Prop} {w : World} {v : Value} {l : List Nat} (h : RdB F w v l) : RdB (Iv 0 w.heap.size) w v l := h.mono (fun _ _ h => ⟨Nat.zero_le _, h⟩)

set_option maxRecDepth 100000 in
set_option maxHeartbeats 1600000 in
theorem tapeBack_core (w : World) (v : Value) (l : List Nat) (hb : RdB (Iv 0 w.heap.size) w v l) :
    Calls Try.prog 5 #[v] w fun e w' => e = .returned (.bool true) ∧ Ext No w w' := by
  have hok := okB_script hb.2
  go_enter Try.func5, Try.ntmps5
  go_wp2_with fail
  refine (works29_spec _).mono ?_
  rintro e w1 ⟨rfl, hx1⟩
  go_wp2_with fail
  refine (script_rd _ v l (hb.extNo hx1).any).mono ?_
  rintro e w2 ⟨r, rfl, hr, hx2⟩
  have hX2 := hx1.transNo hx2
  obtain ⟨s, hs⟩ : ∃ s, script l = s := ⟨_, rfl⟩
  rw [hs] at hr hok
  clear hs hx1 hx2 hb
  have hrr := hr
  obtain ⟨ac2, kc2, ap2, kp2, rfl, _, _⟩ := hr.openR
  have hxa : Ext No w2 (w2.alloc (.cells #[.int .i64 s.cpus, .int .i64 s.pages, .slice ac2 s.calls.length kc2, .slice ap2 s.picks.length kp2] 27)) := (Ext.refl _ _).alloc _
  have hB1 : Blk (w2.alloc (.cells #[.int .i64 s.cpus, .int .i64 s.pages, .slice ac2 s.calls.length kc2, .slice ap2 s.picks.length kp2] 27)) w2.heap.size [.int .i64 s.cpus, .int .i64 s.pages, .slice ac2 s.calls.length kc2, .slice ap2 s.picks.length kp2] 27 := Blk.new _ _ _
  go_wp2_with fail
  refine (bytes_spec _ _ s _ (hrr.ext hxa (fun _ _ => id)) (fun x hx => by simp only [Iv] at hx; simp only [World.size_alloc]; omega)).mono ?_
  rintro e w3 ⟨⟨vo, rfl, hown⟩, hx3⟩
  have hx23 := hxa.transNo hx3
  have hB3 := hB1.extNo hx3
  have hr3 := hrr.ext hx23 (fun _ _ => id)
  have hX3 := hX2.transNo hx23
  rw [if_pos hok] at hown
  have hR := rdB_own hown (bytesOf_lt s)
  have hge : 3 + s.cpus ≤ ((bytesOf s).length : Int) := len_bytes hok
  have hback := Lib.hid (script_bytes hok)
  have hcp : 1 ≤ s.cpus ∧ s.cpus ≤ 8 := by have := (okB_facts hok).1; omega
  have hokH := Lib.hid hok
  obtain ⟨av, cv, rfl, _⟩ := ownsRow_val hown
  have e0 : errOf (okB s) = 0 := by rw [hok]; rfl
  rw [e0]
  have e0H := Lib.hid e0
  clear e0 hok hX2 hxa hB1 hx3 hx23 hown hrr hr
  obtain ⟨L, hL⟩ : ∃ L, bytesOf s = L := ⟨_, rfl⟩
  rw [hL] at hge hR ⊢
  have hback2 : Hid (script L = s) := by rw [← hL]; exact hback
  clear hL hback
  have c0 := hB3.cell' (i := 0) rfl
  have c1 := hB3.cell' (i := 1) rfl
  have c2 := hB3.cell' (i := 2) rfl
  have c3 := hB3.cell' (i := 3) rfl
  go_wp2_with fail
  obtain ⟨b1, hb1⟩ : ∃ b, w2.heap.size = b := ⟨_, rfl⟩
  rw [hb1] at hB3 c0 c1 c2 c3 ⊢
  have hCC : ∀ w' : World, Ext No w3 w' → (fun w' : World => w'.cell? ⟨b1, 0, none⟩ = some (.int .i64 s.cpus) ∧ w'.cell? ⟨b1, 1, none⟩ = some (.int .i64 s.pages) ∧ w'.cell? ⟨b1, 2, none⟩ = some (.slice ac2 s.calls.length kc2) ∧ w'.cell? ⟨b1, 3, none⟩ = some (.slice ap2 s.picks.length kp2)) w' := fun w' hx => ⟨hx.cell c0 id, hx.cell c1 id, hx.cell c2 id, hx.cell c3 id⟩
  refine anyZ_begin 21 (fun w' => w'.cell? ⟨b1, 0, none⟩ = some (.int .i64 s.cpus) ∧ w'.cell? ⟨b1, 1, none⟩ = some (.int .i64 s.pages) ∧ w'.cell? ⟨b1, 2, none⟩ = some (.slice ac2 s.calls.length kc2) ∧ w'.cell? ⟨b1, 3, none⟩ = some (.slice ap2 s.picks.length kp2)) (by kernel_rfl) ?_
  have hC := hCC _ ((Ext.refl No w3).drew)
  have hxd : Ext No w3 w3.drew := (Ext.refl No w3).drew
  clear c0 c1 c2 c3
  refine anyZ_take 0 (v := ?_) rfl (by kernel_rfl) (by kernel_rfl) (by kernel_rfl) (by kernel_rfl) (fun _ _ _ h => h) hC (Or.inl ⟨by rfl, ?_⟩) ?_
  rotate_left
  · (intro wq hq; (try dsimp only at hq); go_simp; with_reducible rfl)
  simp only [Act.put, List.setIfInBounds_toArray, List.set_cons_zero, List.set_cons_succ]
  refine anyZ_step 1 rfl (by kernel_rfl) (fun K hK => ?_)
  go_simp
  refine (check_spec _ _ s _ (hr3.ext hxd (fun _ _ => id))).mono ?_
  rintro e w4 ⟨rfl, hx4⟩
  rw [e0H.out]
  have hx4 := hxd.transNo hx4
  have hC4 := hCC _ hx4
  refine hK _ _ hC4 ?_
  clear hK K
  try simp only [Act.put, List.setIfInBounds_toArray, List.set_cons_zero, List.set_cons_succ]
  refine anyZ_take 2 (v := ?_) rfl (by kernel_rfl) (by kernel_rfl) (by kernel_rfl) (by kernel_rfl) (fun _ _ _ h => h) hC4 (Or.inl ⟨by rfl, ?_⟩) ?_
  rotate_left
  · (intro wq hq; (try dsimp only at hq); go_simp; with_reducible rfl)
  simp only [Act.put, List.setIfInBounds_toArray, List.set_cons_zero, List.set_cons_succ]
  refine anyZ_take 3 (v := ?_) rfl (by kernel_rfl) (by kernel_rfl) (by kernel_rfl) (by kernel_rfl) (fun _ _ _ h => h) hC4 (Or.inl ⟨by rfl, ?_⟩) ?_
  rotate_left
  · (intro wq hq; (try dsimp only at hq); go_simp; with_reducible rfl)
  simp only [Act.put, List.setIfInBounds_toArray, List.set_cons_zero, List.set_cons_succ]
  refine anyZ_take 4 (v := ?_) rfl (by kernel_rfl) (by kernel_rfl) (by kernel_rfl) (by kernel_rfl) (fun _ _ _ h => h) hC4 (Or.inl ⟨by rfl, ?_⟩) ?_
  rotate_left
  · (intro wq hq; (try dsimp only at hq); go_simp; with_reducible rfl)
  simp only [Act.put, List.setIfInBounds_toArray, List.set_cons_zero, List.set_cons_succ]
  refine anyZ_take 5 (v := ?_) rfl (by kernel_rfl) (by kernel_rfl) (by kernel_rfl) (by kernel_rfl) (fun _ _ _ h => h) hC4 (Or.inl ⟨by rfl, ?_⟩) ?_
  rotate_left
  · (intro wq hq; (try dsimp only at hq); go_simp; with_reducible rfl)
  simp only [Act.put, List.setIfInBounds_toArray, List.set_cons_zero, List.set_cons_succ]
  refine anyZ_take 6 (v := ?_) rfl (by kernel_rfl) (by kernel_rfl) (by kernel_rfl) (by kernel_rfl) (fun _ _ _ h => h) hC4 (Or.inl ⟨by rfl, ?_⟩) ?_
  rotate_left
  · (intro wq hq; (try dsimp only at hq); go_simp; with_reducible rfl)
  simp only [Act.put, List.setIfInBounds_toArray, List.set_cons_zero, List.set_cons_succ]
  refine anyZ_take 7 (v := ?_) rfl (by kernel_rfl) (by kernel_rfl) (by kernel_rfl) (by kernel_rfl) (fun _ _ _ h => h) hC4 (Or.inl ⟨by rfl, ?_⟩) ?_
  rotate_left
  · (intro wq hq; (try dsimp only at hq); go_simp; with_reducible rfl)
  simp only [Act.put, List.setIfInBounds_toArray, List.set_cons_zero, List.set_cons_succ]
  refine anyZ_take 8 (v := ?_) rfl (by kernel_rfl) (by kernel_rfl) (by kernel_rfl) (by kernel_rfl) (fun _ _ _ h => h) hC4 (Or.inl ⟨by rfl, ?_⟩) ?_
  rotate_left
  · (intro wq hq; (try dsimp only at hq); go_simp; with_reducible rfl)
  simp only [Act.put, List.setIfInBounds_toArray, List.set_cons_zero, List.set_cons_succ]
  refine anyZ_take 10 (v := ?_) rfl (by kernel_rfl) (by kernel_rfl) (by kernel_rfl) (by kernel_rfl) (fun _ _ _ h => h) hC4 (Or.inl ⟨by rfl, ?_⟩) ?_
  rotate_left
  · (intro wq hq; (try dsimp only at hq); go_simp; with_reducible rfl)
  simp only [Act.put, List.setIfInBounds_toArray, List.set_cons_zero, List.set_cons_succ]
  refine anyZ_step 9 rfl (by kernel_rfl) (fun K hK => ?_)
  go_simp
  refine (script_rd _ _ L (hR.extNo hx4).any).mono ?_
  rintro e w5 ⟨r5, rfl, hr5, hx5⟩
  rw [hback2.out] at hr5
  have hx5 := hx4.transNo hx5
  have hC5 := hCC _ hx5
  refine hK _ _ hC5 ?_
  clear hK K
  try simp only [Act.put, List.setIfInBounds_toArray, List.set_cons_zero, List.set_cons_succ]
  refine anyZ_step 11 rfl (by kernel_rfl) (fun K hK => ?_)
  go_simp
  refine (same35_spec _ _ _ s s _ _ hr5 (hr3.ext hx5 (fun _ _ => id))).mono ?_
  rintro e w7 ⟨rfl, hx7⟩
  rw [decide_eq_true (rfl : s = s)]
  have hx7 := hx5.transNo hx7
  have hC7 := hCC _ hx7
  refine hK _ _ hC7 ?_
  clear hK K
  try simp only [Act.put, List.setIfInBounds_toArray, List.set_cons_zero, List.set_cons_succ]
  refine anyZ_take 12 (v := ?_) rfl (by kernel_rfl) (by kernel_rfl) (by kernel_rfl) (by kernel_rfl) (fun _ _ _ h => h) hC7 (Or.inl ⟨by rfl, ?_⟩) ?_
  rotate_left
  · (intro wq hq; (try dsimp only at hq); go_simp; with_reducible rfl)
  simp only [Act.put, List.setIfInBounds_toArray, List.set_cons_zero, List.set_cons_succ]
  refine anyZ_take 13 (v := ?_) rfl (by kernel_rfl) (by kernel_rfl) (by kernel_rfl) (by kernel_rfl) (fun _ _ _ h => h) hC7 (Or.inl ⟨by rfl, ?_⟩) ?_
  rotate_left
  · (intro wq hq; (try dsimp only at hq); go_simp; with_reducible rfl)
  simp only [Act.put, List.setIfInBounds_toArray, List.set_cons_zero, List.set_cons_succ]
  refine anyZ_take 14 (v := ?_) rfl (by kernel_rfl) (by kernel_rfl) (by kernel_rfl) (by kernel_rfl) (fun _ _ _ h => h) hC7 (Or.inl ⟨by rfl, ?_⟩) ?_
  rotate_left
  · (intro wq hq; (try dsimp only at hq); go_simp; with_reducible rfl)
  simp only [Act.put, List.setIfInBounds_toArray, List.set_cons_zero, List.set_cons_succ]
  refine anyZ_take 15 (v := ?_) rfl (by kernel_rfl) (by kernel_rfl) (by kernel_rfl) (by kernel_rfl) (fun _ _ _ h => h) hC7 (Or.inl ⟨by rfl, ?_⟩) ?_
  rotate_left
  · (intro wq hq; (try dsimp only at hq); go_simp; with_reducible rfl)
  simp only [Act.put, List.setIfInBounds_toArray, List.set_cons_zero, List.set_cons_succ]
  refine anyZ_take 16 (v := ?_) rfl (by kernel_rfl) (by kernel_rfl) (by kernel_rfl) (by kernel_rfl) (fun _ _ _ h => h) hC7 (Or.inl ⟨by rfl, ?_⟩) ?_
  rotate_left
  · (intro wq hq; (try dsimp only at hq); go_simp; with_reducible rfl)
  simp only [Act.put, List.setIfInBounds_toArray, List.set_cons_zero, List.set_cons_succ]
  refine anyZ_take 17 (v := ?_) rfl (by kernel_rfl) (by kernel_rfl) (by kernel_rfl) (by kernel_rfl) (fun _ _ _ h => h) hC7 (Or.inl ⟨by rfl, ?_⟩) ?_
  rotate_left
  · (intro wq hq; (try dsimp only at hq); go_simp; with_reducible rfl)
  simp only [Act.put, List.setIfInBounds_toArray, List.set_cons_zero, List.set_cons_succ]
  refine anyZ_take 18 (v := ?_) rfl (by kernel_rfl) (by kernel_rfl) (by kernel_rfl) (by kernel_rfl) (fun _ _ _ h => h) hC7 (Or.inl ⟨by rfl, ?_⟩) ?_
  rotate_left
  · (intro wq hq; (try dsimp only at hq); go_simp; with_reducible rfl)
  simp only [Act.put, List.setIfInBounds_toArray, List.set_cons_zero, List.set_cons_succ]
  refine anyZ_take 19 (v := ?_) rfl (by kernel_rfl) (by kernel_rfl) (by kernel_rfl) (by kernel_rfl) (fun _ _ _ h => h) hC7 (Or.inl ⟨by rfl, ?_⟩) ?_
  rotate_left
  · (intro wq hq; (try dsimp only at hq); go_simp; with_reducible rfl)
  simp only [Act.put, List.setIfInBounds_toArray, List.set_cons_zero, List.set_cons_succ]
  refine anyZ_take 20 (v := ?_) rfl (by kernel_rfl) (by kernel_rfl) (by kernel_rfl) (by kernel_rfl) (fun _ _ _ h => h) hC7 (Or.inl ⟨by rfl, ?_⟩) ?_
  rotate_left
  · (intro wq hq; (try dsimp only at hq); go_simp; with_reducible rfl)
  simp only [Act.put, List.setIfInBounds_toArray, List.set_cons_zero, List.set_cons_succ]
  refine anyZ_last rfl (by kernel_rfl) (fun K hK => ?_)
  go_simp
  refine hK _ _ ?_
  clear hK K
  try simp only [Act.put, List.setIfInBounds_toArray, List.set_cons_zero, List.set_cons_succ]
  refine anyZ_done (by kernel_rfl) ?_ _
  go_wp2_with fail
  go_ret
  have hwr : IntKind.wrap .i64 (3 + s.cpus) = 3 + s.cpus := by
    rw [IntKind.wrap_i64]
    omega
  exact ⟨by simp [hwr, hge], hX3.transNo hx7⟩

set_option maxRecDepth 100000 in
set_option maxHeartbeats 1600000 in
theorem tapeWhole_core (w : World) (v : Value) (s : Scr) (F : Nat → Prop) (hv : RdS F w v s) (hF : ∀ x, F x → x < w.heap.size) :
    Calls Try.prog 6 #[v] w fun e w' => e = .returned (.bool true) ∧ Ext No w w' := by
  have hvv := hv
  obtain ⟨ac, kc, ap, kp, rfl, _, _⟩ := hv.openR
  have hX : Ext No w (w.alloc (.cells #[.int .i64 s.cpus, .int .i64 s.pages, .slice ac s.calls.length kc, .slice ap s.picks.length kp] 27)) := (Ext.refl _ _).alloc _
  have hA0 : Blk (w.alloc (.cells #[.int .i64 s.cpus, .int .i64 s.pages, .slice ac s.calls.length kc, .slice ap s.picks.length kp] 27)) w.heap.size [.int .i64 s.cpus, .int .i64 s.pages, .slice ac s.calls.length kc, .slice ap s.picks.length kp] 27 := Blk.new _ _ _
  go_enter Try.func6, Try.ntmps6
  go_wp2_with fail
  refine (bytes_spec _ _ s _ (hvv.ext hX (fun _ _ => id)) (fun x hx => by have := hF x hx; simp only [World.size_alloc]; omega)).mono ?_
  rintro e w1 ⟨⟨vo, rfl, hown⟩, hx1⟩
  have hA := hA0.extNo hx1
  have hX1 := hX.transNo hx1
  have hv1 := hvv.ext hX1 (fun _ _ => id)
  clear hA0 hX hx1
  obtain ⟨av, cv, rfl, _⟩ := ownsRow_val hown
  have a0 := hA.cell' (i := 0) rfl
  have a1 := hA.cell' (i := 1) rfl
  have a2 := hA.cell' (i := 2) rfl
  have a3 := hA.cell' (i := 3) rfl
  cases hok : okB s
  · have e2 : errOf (okB s) = 2 := by rw [hok]; rfl
    have e2H := Lib.hid e2
    rw [hok] at hown
    rw [show errOf false = 2 from rfl]
    clear e2 hok
    simp only [Bool.false_eq_true, if_false, List.length_nil]
    go_wp2_with fail
    refine (check_spec _ _ s _ hv1).mono ?_
    rintro e w2 ⟨rfl, hx2⟩
    rw [e2H.out]
    go_wp2_with fail
    refine (works29_spec _).mono ?_
    rintro e w3 ⟨rfl, hx3⟩
    go_wp2_with fail
    go_ret
    exact ⟨rfl, (hX1.transNo hx2).transNo hx3⟩
  · rw [hok] at hown
    simp only [if_true] at hown
    have hR := rdB_own hown (bytesOf_lt s)
    have hback := Lib.hid (script_bytes hok)
    rw [show errOf true = 0 from rfl]
    simp only [if_true]
    obtain ⟨L, hL⟩ : ∃ L, bytesOf s = L := ⟨_, rfl⟩
    rw [hL] at hR ⊢
    have hback2 : Hid (script L = s) := by rw [← hL]; exact hback
    clear hL hback hok hown
    go_wp2_with fail
    obtain ⟨b1, hb1⟩ : ∃ b, w.heap.size = b := ⟨_, rfl⟩
    rw [hb1] at hA a0 a1 a2 a3 ⊢
    have hCC : ∀ w' : World, Ext No w1 w' → (fun w' : World => w'.cell? ⟨b1, 0, none⟩ = some (.int .i64 s.cpus) ∧ w'.cell? ⟨b1, 1, none⟩ = some (.int .i64 s.pages) ∧ w'.cell? ⟨b1, 2, none⟩ = some (.slice ac s.calls.length kc) ∧ w'.cell? ⟨b1, 3, none⟩ = some (.slice ap s.picks.length kp)) w' := fun w' hx => ⟨hx.cell a0 id, hx.cell a1 id, hx.cell a2 id, hx.cell a3 id⟩
    refine anyZ_begin 7 (fun w' => w'.cell? ⟨b1, 0, none⟩ = some (.int .i64 s.cpus) ∧ w'.cell? ⟨b1, 1, none⟩ = some (.int .i64 s.pages) ∧ w'.cell? ⟨b1, 2, none⟩ = some (.slice ac s.calls.length kc) ∧ w'.cell? ⟨b1, 3, none⟩ = some (.slice ap s.picks.length kp)) (by kernel_rfl) ?_
    have hC := hCC _ ((Ext.refl No w1).drew)
    have hxd : Ext No w1 w1.drew := (Ext.refl No w1).drew
    clear a0 a1 a2 a3
    refine anyZ_take 0 (v := ?_) rfl (by kernel_rfl) (by kernel_rfl) (by kernel_rfl) (by kernel_rfl) (fun _ _ _ h => h) hC (Or.inl ⟨by rfl, ?_⟩) ?_
    rotate_left
    · (intro wq hq; (try dsimp only at hq); go_simp; with_reducible rfl)
    simp only [Act.put, List.setIfInBounds_toArray, List.set_cons_zero, List.set_cons_succ]
    refine anyZ_take 2 (v := ?_) rfl (by kernel_rfl) (by kernel_rfl) (by kernel_rfl) (by kernel_rfl) (fun _ _ _ h => h) hC (Or.inl ⟨by rfl, ?_⟩) ?_
    rotate_left
    · (intro wq hq; (try dsimp only at hq); go_simp; with_reducible rfl)
    simp only [Act.put, List.setIfInBounds_toArray, List.set_cons_zero, List.set_cons_succ]
    refine anyZ_step 1 rfl (by kernel_rfl) (fun K hK => ?_)
    go_simp
    refine (script_rd _ _ L (hR.extNo hxd).any).mono ?_
    rintro e w5 ⟨r5, rfl, hr5, hx5⟩
    rw [hback2.out] at hr5
    have hx5 := hxd.transNo hx5
    have hC5 := hCC _ hx5
    refine hK _ _ hC5 ?_
    clear hK K
    try simp only [Act.put, List.setIfInBounds_toArray, List.set_cons_zero, List.set_cons_succ]
    refine anyZ_step 3 rfl (by kernel_rfl) (fun K hK => ?_)
    go_simp
    refine (same35_spec _ _ _ s s _ _ hr5 (hv1.ext hx5 (fun _ _ => id))).mono ?_
    rintro e w7 ⟨rfl, hx7⟩
    rw [decide_eq_true (rfl : s = s)]
    have hx7 := hx5.transNo hx7
    have hC7 := hCC _ hx7
    refine hK _ _ hC7 ?_
    clear hK K
    try simp only [Act.put, List.setIfInBounds_toArray, List.set_cons_zero, List.set_cons_succ]
    refine anyZ_take 4 (v := ?_) rfl (by kernel_rfl) (by kernel_rfl) (by kernel_rfl) (by kernel_rfl) (fun _ _ _ h => h) hC7 (Or.inl ⟨by rfl, ?_⟩) ?_
    rotate_left
    · (intro wq hq; (try dsimp only at hq); go_simp; with_reducible rfl)
    simp only [Act.put, List.setIfInBounds_toArray, List.set_cons_zero, List.set_cons_succ]
    refine anyZ_step 5 rfl (by kernel_rfl) (fun K hK => ?_)
    go_simp
    refine (works29_spec _).mono ?_
    rintro e w8 ⟨rfl, hx8⟩
    have hx8 := hx7.transNo hx8
    have hC8 := hCC _ hx8
    refine hK _ _ hC8 ?_
    clear hK K
    try simp only [Act.put, List.setIfInBounds_toArray, List.set_cons_zero, List.set_cons_succ]
    refine anyZ_take 6 (v := ?_) rfl (by kernel_rfl) (by kernel_rfl) (by kernel_rfl) (by kernel_rfl) (fun _ _ _ h => h) hC8 (Or.inl ⟨by rfl, ?_⟩) ?_
    rotate_left
    · (intro wq hq; (try dsimp only at hq); go_simp; with_reducible rfl)
    simp only [Act.put, List.setIfInBounds_toArray, List.set_cons_zero, List.set_cons_succ]
    refine anyZ_last rfl (by kernel_rfl) (fun K hK => ?_)
    go_simp
    refine hK _ _ ?_
    clear hK K
    try simp only [Act.put, List.setIfInBounds_toArray, List.set_cons_zero, List.set_cons_succ]
    refine anyZ_done (by kernel_rfl) ?_ _
    go_wp2_with fail
    go_ret
    exact ⟨rfl, hX1.transNo hx8⟩
end Go.Proofs.Ytjkknjohmekeiaa
