/- The document's copy of a script. Lengths such that the script fits into memory. -/
import Derived.Test.YtjkknjohmekeiaaTapeL
import Derived.Test.YtjkknjohmekeiaaAny
namespace Go.Proofs.Ytjkknjohmekeiaa
open Go.RowKit

section
variable {P : Program} {ops : Array Oper} {Q : Exit → Act → World → Prop} {md : Region.Mode} {z : Nat} {C : World → Prop}
/-- Two operations are ready, neither the last. -/
theorem anyZ_two (i j : Nat) {l : List Oper} {oi oj : Oper} {fuel : Nat} {listed : Array Bool} {a : Act} {w : World} (hi : l[i]? = some oi) (hj : l[j]? = some oj) (hr : Region.ready md l.toArray listed = [i, j])
    (h : ∀ K : Act → World → Prop, (∀ a w, C w → AnyZ P md l.toArray Q z C fuel (listed.setIfInBounds i true) a w → K a w) →
      if Region.wanted oi (yielded l.toArray a.tmps) = true then Oper.wp P oi a w K Q else K (a.put oi.dst undef) w)
    (h' : ∀ K : Act → World → Prop, (∀ a w, C w → AnyZ P md l.toArray Q z C fuel (listed.setIfInBounds j true) a w → K a w) →
      if Region.wanted oj (yielded l.toArray a.tmps) = true then Oper.wp P oj a w K Q else K (a.put oj.dst undef) w) : AnyZ P md l.toArray Q z C (fuel + 1) listed a w := by
  refine ⟨fun h0 => (by rw [hr] at h0; cases h0), fun k hk => ?_⟩
  rw [hr] at hk
  rcases List.mem_cons.1 hk with rfl | hk
  · exact wpOp_step (hA hi) (fun K' hK => h K' (fun a w h1 h2 => hK a w ⟨fun _ => h1, h2⟩))
  · obtain rfl : k = j := by simpa using hk
    exact wpOp_step (hA hj) (fun K' hK => h' K' (fun a w h1 h2 => hK a w ⟨fun _ => h1, h2⟩))
end

theorem cls_one (l : List Cl) : ∀ u ∈ clsCells l, u.oneCell' = true := by
  intro u hu
  simp only [clsCells, clCells, List.mem_flatMap] at hu
  obtain ⟨c, _, h⟩ := hu
  simp only [List.mem_cons, List.not_mem_nil, or_false] at h
  rcases h with rfl | rfl | rfl | rfl <;> rfl
/-- The script's rows fit into memory. -/
def ScrFit (s : Scr) : Prop := s.calls.length * 24 ≤ 140737488351232 ∧ (∀ k, k < s.calls.length → (nth s.calls k).length * 32 ≤ 140737488351232) ∧ s.picks.length * 8 ≤ 140737488351232

set_option maxRecDepth 100000 in
set_option maxHeartbeats 1600000 in
theorem copy_spec (w : World) (v : Value) (s : Scr) (F : Nat → Prop) (hv : RdS F w v s) (hFx : ∀ x, F x → x < w.heap.size) (hf : ScrFit s) :
    Calls Try.prog 30 #[v] w fun e w' => ∃ r, e = .returned r ∧ RdS (Iv w.heap.size w'.heap.size) w' r s ∧ Ext No w w' := by
  obtain ⟨ac, kc, ap, kp, rfl, hc, hp⟩ := hv.openR
  obtain ⟨hf1, hf2, hf3⟩ := hf
  have hf2H := Lib.hid hf2
  clear hf2
  go_enter Try.func30, Try.ntmps30
  go_wp2_with fail
  obtain ⟨W0, hW⟩ : ∃ W, (w.alloc (.cells #[.int .i64 s.cpus, .int .i64 s.pages, .slice ac s.calls.length kc, .slice ap s.picks.length kp] 27)).alloc (.cells #[.int .i64 0, .int .i64 0, .slice none 0 0, .slice none 0 0] 27) = W := ⟨_, rfl⟩
  have hX : Ext No w W0 := by rw [← hW]; exact ((Ext.refl _ _).alloc _).alloc _
  have hA : Blk W0 w.heap.size [.int .i64 s.cpus, .int .i64 s.pages, .slice ac s.calls.length kc, .slice ap s.picks.length kp] 27 := by rw [← hW]; exact (Blk.new _ _ _).alloc _
  have hZ : Blk W0 (w.heap.size + 1) [.int .i64 0, .int .i64 0, .slice none 0 0, .slice none 0 0] 27 := by rw [← hW]; exact Blk.new' (by simp)
  have hsz0 : W0.heap.size = w.heap.size + 2 := by rw [← hW]; simp
  rw [hW]
  clear hW
  have hc := hc.ext hX (fun _ _ => id) (fun _ _ => id)
  have hp := hp.extNo hX
  have a0 := hA.cell' (i := 0) rfl
  have a1 := hA.cell' (i := 1) rfl
  have a3 := hA.cell' (i := 3) rfl
  refine anyZ_begin 9 (fun w' => w'.cell? ⟨w.heap.size, 0, none⟩ = some (.int .i64 s.cpus) ∧ w'.cell? ⟨w.heap.size, 1, none⟩ = some (.int .i64 s.pages) ∧ w'.cell? ⟨w.heap.size, 3, none⟩ = some (.slice ap s.picks.length kp)) (by kernel_rfl) ?_
  have hC : (fun w' : World => w'.cell? ⟨w.heap.size, 0, none⟩ = some (.int .i64 s.cpus) ∧ w'.cell? ⟨w.heap.size, 1, none⟩ = some (.int .i64 s.pages) ∧ w'.cell? ⟨w.heap.size, 3, none⟩ = some (.slice ap s.picks.length kp)) W0.drew := ⟨a0, a1, a3⟩
  refine anyZ_take 0 (v := ?_) rfl (by kernel_rfl) (by kernel_rfl) (by kernel_rfl) (by kernel_rfl) (fun _ _ _ h => h) hC (Or.inl ⟨by rfl, ?_⟩) ?_
  rotate_left
  · (intro wq hq; (try dsimp only at hq); go_simp; with_reducible rfl)
  simp only [Act.put, List.setIfInBounds_toArray, List.set_cons_zero, List.set_cons_succ]
  refine anyZ_take 1 (v := ?_) rfl (by kernel_rfl) (by kernel_rfl) (by kernel_rfl) (by kernel_rfl) (fun _ _ _ h => h) hC (Or.inl ⟨by rfl, ?_⟩) ?_
  rotate_left
  · (intro wq hq; (try dsimp only at hq); go_simp; with_reducible rfl)
  simp only [Act.put, List.setIfInBounds_toArray, List.set_cons_zero, List.set_cons_succ]
  refine anyZ_take 2 (v := ?_) rfl (by kernel_rfl) (by kernel_rfl) (by kernel_rfl) (by kernel_rfl) (fun _ _ _ h => h) hC (Or.inl ⟨by rfl, ?_⟩) ?_
  rotate_left
  · (intro wq hq; (try dsimp only at hq); go_simp; with_reducible rfl)
  simp only [Act.put, List.setIfInBounds_toArray, List.set_cons_zero, List.set_cons_succ]
  refine anyZ_take 3 (v := ?_) rfl (by kernel_rfl) (by kernel_rfl) (by kernel_rfl) (by kernel_rfl) (fun _ _ _ h => h) hC (Or.inl ⟨by rfl, ?_⟩) ?_
  rotate_left
  · (intro wq hq; (try dsimp only at hq); go_simp; with_reducible rfl)
  simp only [Act.put, List.setIfInBounds_toArray, List.set_cons_zero, List.set_cons_succ]
  refine anyZ_take 4 (v := ?_) rfl (by kernel_rfl) (by kernel_rfl) (by kernel_rfl) (by kernel_rfl) (fun _ _ _ h => h) hC (Or.inl ⟨by rfl, ?_⟩) ?_
  rotate_left
  · (intro wq hq; (try dsimp only at hq); go_simp; with_reducible rfl)
  simp only [Act.put, List.setIfInBounds_toArray, List.set_cons_zero, List.set_cons_succ]
  refine anyZ_take 5 (v := ?_) rfl (by kernel_rfl) (by kernel_rfl) (by kernel_rfl) (by kernel_rfl) (fun _ _ _ h => h) hC (Or.inl ⟨by rfl, ?_⟩) ?_
  rotate_left
  · (intro wq hq; (try dsimp only at hq); go_simp; with_reducible rfl)
  simp only [Act.put, List.setIfInBounds_toArray, List.set_cons_zero, List.set_cons_succ]
  refine anyZ_two 6 8 rfl rfl (by kernel_rfl) (fun K hK => ?_) (fun K hK => ?_)
  · go_simp
    refine (copyInts_spec _ _ s.picks F (hp.ext ((Ext.refl No W0).drew) (fun _ _ => id)) (by omega)).mono ?_
    rintro e w1 ⟨vp, rfl, ⟨hvp, hop⟩, hx1⟩
    have hx1 : Ext No W0 w1 := ((Ext.refl No W0).drew).transNo hx1
    have hC1 : (fun w' : World => w'.cell? ⟨w.heap.size, 0, none⟩ = some (.int .i64 s.cpus) ∧ w'.cell? ⟨w.heap.size, 1, none⟩ = some (.int .i64 s.pages) ∧ w'.cell? ⟨w.heap.size, 3, none⟩ = some (.slice ap s.picks.length kp)) w1 := ⟨hx1.cell a0 id, hx1.cell a1 id, hx1.cell a3 id⟩
    obtain ⟨ap2, kp2, rfl, hkp2⟩ := ownsRow_val hop
    refine hK _ _ hC1 ?_
    clear hK K
    try simp only [Act.put, List.setIfInBounds_toArray, List.set_cons_zero, List.set_cons_succ]
    refine anyZ_take 7 (v := ?_) rfl (by kernel_rfl) (by kernel_rfl) (by kernel_rfl) (by kernel_rfl) (fun _ _ _ h => h) hC1 (Or.inl ⟨by rfl, ?_⟩) ?_
    rotate_left
    · (intro wq hq; (try dsimp only at hq); go_simp; with_reducible rfl)
    simp only [Act.put, List.setIfInBounds_toArray, List.set_cons_zero, List.set_cons_succ]
    refine anyZ_step 8 rfl (by kernel_rfl) (fun K hK => ?_)
    go_simp
    obtain ⟨ob, hob⟩ : ∃ ob, w1.heap.size = ob := ⟨_, rfl⟩
    have hx2 : Ext No W0 (w1.alloc (.cells #[.int .i64 0, .int .i64 0, .slice none 0 0, .slice none 0 0] 27)) := hx1.alloc _
    have hC2 : (fun w' : World => w'.cell? ⟨w.heap.size, 0, none⟩ = some (.int .i64 s.cpus) ∧ w'.cell? ⟨w.heap.size, 1, none⟩ = some (.int .i64 s.pages) ∧ w'.cell? ⟨w.heap.size, 3, none⟩ = some (.slice ap s.picks.length kp)) (w1.alloc (.cells #[.int .i64 0, .int .i64 0, .slice none 0 0, .slice none 0 0] 27)) := ⟨hx2.cell a0 id, hx2.cell a1 id, hx2.cell a3 id⟩
    have hB2 : Blk (w1.alloc (.cells #[.int .i64 0, .int .i64 0, .slice none 0 0, .slice none 0 0] 27)) ob [.int .i64 0, .int .i64 0, .slice none 0 0, .slice none 0 0] 27 := Blk.new' hob.symm
    have ho2 := ownsRow_ext hop ((Ext.refl No w1).alloc (.cells #[.int .i64 0, .int .i64 0, .slice none 0 0, .slice none 0 0] 27)) (fun _ _ => id)
    have hone : ¬ OwnOf (.slice ap2 s.picks.length kp2) ob := fun h => by have := (hop.lt _ h).2; omega
    have hobl : W0.heap.size ≤ ob := by have := hx1.size; omega
    rw [hob]
    obtain ⟨w2, hw2⟩ : ∃ W, w1.alloc (.cells #[.int .i64 0, .int .i64 0, .slice none 0 0, .slice none 0 0] 27) = W := ⟨_, rfl⟩
    rw [hw2] at hx2 hC2 hB2 ho2 ⊢
    clear hw2 hob hC1 hC
    have b0 := hB2.cell' (i := 0) rfl
    have b1 := hB2.cell' (i := 1) rfl
    have b2 := hB2.cell' (i := 2) rfl
    have b3 := hB2.cell' (i := 3) rfl
    have f0 := hB2.frozen 0
    have f1 := hB2.frozen 1
    have f2 := hB2.frozen 2
    have f3 := hB2.frozen 3
    refine hK _ _ hC2 ?_
    clear hK K
    try simp only [Act.put, List.setIfInBounds_toArray, List.set_cons_zero, List.set_cons_succ]
    refine anyZ_last rfl (by kernel_rfl) (fun K hK => ?_)
    go_simp
    refine hK _ _ ?_
    clear hK K
    try simp only [Act.put, List.setIfInBounds_toArray, List.set_cons_zero, List.set_cons_succ]
    refine anyZ_done (by kernel_rfl) ?_ _
    have hB3 : Blk ((((w2.setCell ⟨ob, 0, none⟩ (.int .i64 s.cpus)).setCell ⟨ob, 1, none⟩ (.int .i64 s.pages)).setCell ⟨ob, 2, none⟩ (.slice none 0 0)).setCell ⟨ob, 3, none⟩ (.slice ap2 s.picks.length kp2)) ob [.int .i64 s.cpus, .int .i64 s.pages, .slice none 0 0, .slice ap2 s.picks.length kp2] 27 := (((hB2.set 0 _).set 1 _).set 2 _).set 3 _
    have hXs : Ext (One ob) w2 ((((w2.setCell ⟨ob, 0, none⟩ (.int .i64 s.cpus)).setCell ⟨ob, 1, none⟩ (.int .i64 s.pages)).setCell ⟨ob, 2, none⟩ (.slice none 0 0)).setCell ⟨ob, 3, none⟩ (.slice ap2 s.picks.length kp2)) := (((Ext.set1 _ _ _ _).trans (Ext.set1 _ _ _ _) (fun _ _ h => h)).trans (Ext.set1 _ _ _ _) (fun _ _ h => h)).trans (Ext.set1 _ _ _ _) (fun _ _ h => h)
    have hx3 : Ext No W0 ((((w2.setCell ⟨ob, 0, none⟩ (.int .i64 s.cpus)).setCell ⟨ob, 1, none⟩ (.int .i64 s.pages)).setCell ⟨ob, 2, none⟩ (.slice none 0 0)).setCell ⟨ob, 3, none⟩ (.slice ap2 s.picks.length kp2)) := hx2.trans hXs (fun x hx h => by have : x = ob := h; omega)
    have ho3 := ownsRow_ext ho2 hXs (fun x hx h => hone (by have : x = ob := h; rwa [this] at hx))
    obtain ⟨W1, hW1⟩ : ∃ W, (((w2.setCell ⟨ob, 0, none⟩ (.int .i64 s.cpus)).setCell ⟨ob, 1, none⟩ (.int .i64 s.pages)).setCell ⟨ob, 2, none⟩ (.slice none 0 0)).setCell ⟨ob, 3, none⟩ (.slice ap2 s.picks.length kp2) = W := ⟨_, rfl⟩
    rw [hW1] at hB3 hx3 ho3 ⊢
    clear hW1 hXs hB2 hC2 hx2 ho2 b0 b1 b2 b3 f0 f1 f2 f3 a0 a1 a3
    have hc1 := hc.ext hx3 (fun _ _ => id) (fun _ _ => id)
    have hA1 := hA.extNo hx3
    have hZ1 := hZ.extNo hx3
    have hobW := hB3.lt
    have hx3z := hx3.size
    have hpk : RdI (OwnOf (.slice ap2 s.picks.length kp2)) W1 (.slice ap2 s.picks.length kp2) s.picks := by
      have := Rd.of_own ho3
      exact this
    have hpo : ∀ x, OwnOf (.slice ap2 s.picks.length kp2) x → W0.heap.size ≤ x ∧ x < W1.heap.size := fun x hx => by have := ho3.lt x hx; simpa using this
    have hF1 : ∀ x, F x → x < w.heap.size → ¬ x = ob := fun x _ h e => by omega
    go_wp2_with fail
    go_loopg [4] s.calls.length (fun g i wr => ∃ (k : Nat) (vc : Value) (vs : List Value), k + g = s.calls.length ∧ i = .int .i64 k ∧ Blk wr ob [.int .i64 s.cpus, .int .i64 s.pages, vc, .slice ap2 s.picks.length kp2] 27 ∧ vs.length = k ∧ wr.ownsRow W1.heap.size 42 1 vc k vs ∧
      (∀ i, i < k → RdC (fun x => W1.heap.size ≤ x ∧ x < wr.heap.size ∧ ¬ OwnOf vc x) wr (nth vs i) (nth s.calls i)) ∧ Ext (One ob) W1 wr)
    case atStart => exact ⟨0, _, [], by omega, rfl, hB3, rfl, World.ownsRow_nil _ _ _ _, fun i hi => by omega, Ext.refl _ _⟩
    case round =>
      obtain ⟨k, vc, vs, hk, rfl, hBr, hvl, hown, hvs, hxr⟩ := hrel
      have hk' := Lib.hid hk
      have hkn : k ≤ s.calls.length := by omega
      clear hk
      obtain ⟨avc, kvc, rfl, hkvc⟩ := ownsRow_val hown
      have hszr := hxr.size
      have hAr := hA1.extOne hxr (by omega)
      by_cases hlt : k < s.calls.length
      · obtain ⟨b1, o1, ai, ci, rfl, fb1, r0, q0, _, _⟩ := hc1.at2 hlt
        have hfb1 := hFx b1 fb1
        have r1 := hxr.cell r0 (fun e : b1 = ob => by omega)
        have q1 := q0.ext hxr (fun x hx (e : x = ob) => by have := hFx x hx; omega)
        have o2 := hBr.cell' (i := 2) rfl
        have a2 := hAr.cell' (i := 2) rfl
        go_wp2_with fail
        refine anyZ_begin 12 (fun w' => w'.cell? ⟨ob, 2, none⟩ = some (.slice avc k kvc) ∧ w'.cell? ⟨w.heap.size, 2, none⟩ = some (.slice (some ⟨b1, o1, none⟩) s.calls.length kc) ∧ w'.cell? ⟨b1, o1 + k, none⟩ = some (.slice ai (nth s.calls k).length ci)) (by kernel_rfl) ?_
        have hD : (fun w' : World => w'.cell? ⟨ob, 2, none⟩ = some (.slice avc k kvc) ∧ w'.cell? ⟨w.heap.size, 2, none⟩ = some (.slice (some ⟨b1, o1, none⟩) s.calls.length kc) ∧ w'.cell? ⟨b1, o1 + k, none⟩ = some (.slice ai (nth s.calls k).length ci)) wr.drew := ⟨o2, a2, r1⟩
        refine anyZ_take 0 (v := ?_) rfl (by kernel_rfl) (by kernel_rfl) (by kernel_rfl) (by kernel_rfl) (fun _ _ _ h => h) hD (Or.inl ⟨by rfl, ?_⟩) ?_
        rotate_left
        · (intro wq hq; (try dsimp only at hq); go_simp; with_reducible rfl)
        simp only [Act.put, List.setIfInBounds_toArray, List.set_cons_zero, List.set_cons_succ]
        refine anyZ_take 1 (v := ?_) rfl (by kernel_rfl) (by kernel_rfl) (by kernel_rfl) (by kernel_rfl) (fun _ _ _ h => h) hD (Or.inl ⟨by rfl, ?_⟩) ?_
        rotate_left
        · (intro wq hq; (try dsimp only at hq); go_simp; with_reducible rfl)
        simp only [Act.put, List.setIfInBounds_toArray, List.set_cons_zero, List.set_cons_succ]
        refine anyZ_take 2 (v := ?_) rfl (by kernel_rfl) (by kernel_rfl) (by kernel_rfl) (by kernel_rfl) (fun _ _ _ h => h) hD (Or.inl ⟨by rfl, ?_⟩) ?_
        rotate_left
        · (intro wq hq; (try dsimp only at hq); go_simp; with_reducible rfl)
        simp only [Act.put, List.setIfInBounds_toArray, List.set_cons_zero, List.set_cons_succ]
        refine anyZ_take 3 (v := ?_) rfl (by kernel_rfl) (by kernel_rfl) (by kernel_rfl) (by kernel_rfl) (fun _ _ _ h => h) hD (Or.inl ⟨by rfl, ?_⟩) ?_
        rotate_left
        · (intro wq hq; (try dsimp only at hq); go_simp; with_reducible rfl)
        simp only [Act.put, List.setIfInBounds_toArray, List.set_cons_zero, List.set_cons_succ]
        refine anyZ_take 4 (v := ?_) rfl (by kernel_rfl) (by kernel_rfl) (by kernel_rfl) (by kernel_rfl) (fun _ _ _ h => h) hD (Or.inl ⟨by rfl, ?_⟩) ?_
        rotate_left
        · (intro wq hq; (try dsimp only at hq); go_simp; with_reducible rfl)
        simp only [Act.put, List.setIfInBounds_toArray, List.set_cons_zero, List.set_cons_succ]
        refine anyZ_take 5 (v := ?_) rfl (by kernel_rfl) (by kernel_rfl) (by kernel_rfl) (by kernel_rfl) (fun _ _ _ h => h) hD (Or.inl ⟨by rfl, ?_⟩) ?_
        rotate_left
        · (intro wq hq; (try dsimp only at hq); go_simp; with_reducible rfl)
        simp only [Act.put, List.setIfInBounds_toArray, List.set_cons_zero, List.set_cons_succ]
        refine anyZ_take 6 (v := ?_) rfl (by kernel_rfl) (by kernel_rfl) (by kernel_rfl) (by kernel_rfl) (fun _ _ _ h => h) hD (Or.inl ⟨by rfl, ?_⟩) ?_
        rotate_left
        · (intro wq hq; (try dsimp only at hq); go_simp; with_reducible rfl)
        simp only [Act.put, List.setIfInBounds_toArray, List.set_cons_zero, List.set_cons_succ]
        refine anyZ_take 7 (v := ?_) rfl (by kernel_rfl) (by kernel_rfl) (by kernel_rfl) (by kernel_rfl) (fun _ _ _ h => h) hD (Or.inl ⟨by rfl, ?_⟩) ?_
        rotate_left
        · (intro wq hq; (try dsimp only at hq); go_simp; with_reducible rfl)
        simp only [Act.put, List.setIfInBounds_toArray, List.set_cons_zero, List.set_cons_succ]
        refine anyZ_step 8 rfl (by kernel_rfl) (fun K hK => ?_)
        have hb32 := hf2H.out k hlt
        refine held_app (v := .slice none 0 0) ty_call rfl _ _ rfl rfl (World.ownsRow_nil wr.drew wr.drew.heap.size 44 4) rfl (q1.ext ((Ext.refl No wr).drew) (fun _ _ => id)) (cls_one _) (by omega) (by unfold maxLen; omega) (Nat.le_refl _) ?_
        intro vl w5 hownl hx5 _ hfr5
        simp only [Nat.zero_add, List.nil_append] at hownl
        have hx5 : Ext No wr w5 := ((Ext.refl No wr).drew).transNo (hx5.mono (fun x _ (h : OwnOf _ x) => by simp [OwnOf, Value.ownBlock] at h))
        obtain ⟨al, kl, rfl, hkl⟩ := ownsRow_val hownl
        have hD5 : (fun w' : World => w'.cell? ⟨ob, 2, none⟩ = some (.slice avc k kvc) ∧ w'.cell? ⟨w.heap.size, 2, none⟩ = some (.slice (some ⟨b1, o1, none⟩) s.calls.length kc) ∧ w'.cell? ⟨b1, o1 + k, none⟩ = some (.slice ai (nth s.calls k).length ci)) w5 := ⟨hx5.cell o2 id, hx5.cell a2 id, hx5.cell r1 id⟩
        refine hK _ _ hD5 ?_
        clear hK K
        try simp only [Act.put, List.setIfInBounds_toArray, List.set_cons_zero, List.set_cons_succ]
        refine anyZ_step 9 rfl (by kernel_rfl) (fun K hK => ?_)
        go_simp
        have hx6 : Ext No wr (w5.alloc (.cells #[.slice al (nth s.calls k).length kl] 42)) := hx5.alloc _
        have hownl6 := ownsRow_ext hownl ((Ext.refl No w5).alloc (.cells #[.slice al (nth s.calls k).length kl] 42)) (fun _ _ => id)
        have hown6 := ownsRow_ext hown hx6 (fun _ _ => id)
        have hD6 : (fun w' : World => w'.cell? ⟨ob, 2, none⟩ = some (.slice avc k kvc) ∧ w'.cell? ⟨w.heap.size, 2, none⟩ = some (.slice (some ⟨b1, o1, none⟩) s.calls.length kc) ∧ w'.cell? ⟨b1, o1 + k, none⟩ = some (.slice ai (nth s.calls k).length ci)) (w5.alloc (.cells #[.slice al (nth s.calls k).length kl] 42)) := ⟨hx6.cell o2 id, hx6.cell a2 id, hx6.cell r1 id⟩
        refine hK _ _ hD6 ?_
        clear hK K
        try simp only [Act.put, List.setIfInBounds_toArray, List.set_cons_zero, List.set_cons_succ]
        refine anyZ_step 10 rfl (by kernel_rfl) (fun K hK => ?_)
        refine held_app (v := .slice avc k kvc) ty_rows rfl _ _ rfl rfl hown6 rfl (Rd.of_blk (n := 1) (Blk.new' rfl) rfl (by decide)) (by simp [Value.oneCell']) (by omega) (by unfold maxLen; omega) (Nat.le_trans hszr hx6.size) ?_
        intro vc7 w7 hown7 hx7 _ hfr7
        obtain ⟨a7, k7, rfl, hk7⟩ := ownsRow_val hown7
        have hvb : ∀ x, OwnOf (.slice avc k kvc) x → W1.heap.size ≤ x ∧ x < wr.heap.size := fun x hx => hown.lt x hx
        have hxA : Ext (OwnOf (.slice avc k kvc)) wr w7 := (hx6.of_no).transSame hx7
        have hn1 : ¬ OwnOf (.slice avc k kvc) ob := fun h => by have := hvb _ h; omega
        have hn2 : ¬ OwnOf (.slice avc k kvc) w.heap.size := fun h => by have := hvb _ h; omega
        have hn3 : ¬ OwnOf (.slice avc k kvc) b1 := fun h => by have := hvb _ h; omega
        have hD7 : (fun w' : World => w'.cell? ⟨ob, 2, none⟩ = some (.slice avc k kvc) ∧ w'.cell? ⟨w.heap.size, 2, none⟩ = some (.slice (some ⟨b1, o1, none⟩) s.calls.length kc) ∧ w'.cell? ⟨b1, o1 + k, none⟩ = some (.slice ai (nth s.calls k).length ci)) w7 := ⟨hxA.cell o2 hn1, hxA.cell a2 hn2, hxA.cell r1 hn3⟩
        have hB7 := hBr.ext hxA hn1
        have o7 := hB7.cell' (i := 2) rfl
        have f7 := hB7.frozen 2
        refine hK _ _ hD7 ?_
        clear hK K
        try simp only [Act.put, List.setIfInBounds_toArray, List.set_cons_zero, List.set_cons_succ]
        refine anyZ_take 11 (v := ?_) rfl (by kernel_rfl) (by kernel_rfl) (by kernel_rfl) (by kernel_rfl) (fun _ _ _ h => h) hD7 (Or.inl ⟨by rfl, ?_⟩) ?_
        rotate_left
        · (intro wq hq; (try dsimp only at hq); go_simp; with_reducible rfl)
        simp only [Act.put, List.setIfInBounds_toArray, List.set_cons_zero, List.set_cons_succ]
        refine anyZ_last rfl (by kernel_rfl) (fun K hK => ?_)
        clear hD hD5 hD6 hD7 o2 a2 r1
        go_simp
        refine hK _ _ ?_
        clear hK K
        try simp only [Act.put, List.setIfInBounds_toArray, List.set_cons_zero, List.set_cons_succ]
        refine anyZ_done (by kernel_rfl) ?_ _
        have hkk := hk'.out
        have hz5 := hx5.size
        have hz6 := hx6.size
        have hz7 := hx7.size
        simp only [World.size_alloc] at hz6 hz7 hfr7
        have hl5 : ∀ x, OwnOf (.slice al (nth s.calls k).length kl) x → wr.heap.size ≤ x ∧ x < w5.heap.size := fun x hx => by have := hownl.lt x hx; simpa using this
        have hlist : RdC (fun x => OwnOf (.slice al (nth s.calls k).length kl) x) w7 (.slice al (nth s.calls k).length kl) (nth s.calls k) := Rd.ext (Rd.of_own hownl6) hx7 (fun x hx hs => by have := hl5 x hx; have := hvb x hs; omega)
        have hxs : Ext (One ob) w7 (w7.setCell ⟨ob, 2, none⟩ (.slice a7 (k + 1) k7)) := Ext.set1 _ _ _ _
        have hzs : (w7.setCell ⟨ob, 2, none⟩ (.slice a7 (k + 1) k7)).heap.size = w7.heap.size := by simp [World.setCell]
        clear f7 o7
        go_wp2_with fail
        go_roundg (s.calls.length - (k + 1))
        case measure => omega
        case rel =>
          refine ⟨k + 1, .slice a7 (k + 1) k7, vs ++ [.slice al (nth s.calls k).length kl], by omega, by go_num, hB7.set 2 _, by simp [hvl], ownsRow_ext hown7 hxs (fun x hx (e : x = ob) => by have := hown7.lt x hx; omega), fun i hi => ?_, ?_⟩
          · by_cases hik : i < k
            · rw [nth_append_left (by omega)]
              refine (((hvs i hik).ext hxA (fun x hx hs => hx.2.2 hs)).ext hxs (fun x hx (e : x = ob) => by omega)).mono (fun x hx _ => ⟨hx.1, by omega, fun ho => ?_⟩)
              rcases hfr7 x ho with h | h
              · exact hx.2.2 h
              · omega
            · obtain rfl : i = k := by omega
              subst hvl
              rw [nth_snoc]
              refine (hlist.ext hxs (fun x hx (e : x = ob) => by have := hl5 x hx; omega)).mono (fun x hx _ => ⟨by have := hl5 x hx; omega, by have := hl5 x hx; omega, fun ho => ?_⟩)
              have h5 := hl5 x hx
              rcases hfr7 x ho with h | h
              · have := hvb x h; omega
              · omega
          · exact (hxr.trans hxA (fun x hx hs => by have := hvb x hs; omega)).trans hxs (fun x _ h => h)
      · have o0 := hBr.cell' (i := 0) rfl
        have o1 := hBr.cell' (i := 1) rfl
        have o2 := hBr.cell' (i := 2) rfl
        have o3 := hBr.cell' (i := 3) rfl
        have a2 := hAr.cell' (i := 2) rfl
        have hZr := hZ1.extOne hxr (by omega)
        have d0 := hZr.cell' (i := 0) rfl
        have d1 := hZr.cell' (i := 1) rfl
        have d2 := hZr.cell' (i := 2) rfl
        have d3 := hZr.cell' (i := 3) rfl
        have g0 := hZr.frozen 0
        have g1 := hZr.frozen 1
        have g2 := hZr.frozen 2
        have g3 := hZr.frozen 3
        have e : k = s.calls.length := by omega
        subst e
        go_wp2_with fail
        have hres : RdS (Iv (w.heap.size + 2) wr.heap.size) wr (.agg #[.int .i64 s.cpus, .int .i64 s.pages, .slice avc s.calls.length kvc, .slice ap2 s.picks.length kp2]) s :=
          ⟨_, _, rfl, ⟨vs, hvl, (Rd.of_own hown).mono (fun x hx _ => by have := hown.lt x hx; simp only [Iv]; omega), fun i hi => (hvs i hi).mono (fun x hx _ => by simp only [Iv]; omega)⟩,
            (hpk.extOne hxr (fun hx => hone hx)).mono (fun x hx _ => by have := hpo x hx; simp only [Iv]; omega)⟩
        have hzs : ((((wr.setCell ⟨w.heap.size + 1, 0, none⟩ (.int .i64 s.cpus)).setCell ⟨w.heap.size + 1, 1, none⟩ (.int .i64 s.pages)).setCell ⟨w.heap.size + 1, 2, none⟩ (.slice avc s.calls.length kvc)).setCell ⟨w.heap.size + 1, 3, none⟩ (.slice ap2 s.picks.length kp2)).heap.size = wr.heap.size := by simp [World.setCell]
        have hxs : Ext (One (w.heap.size + 1)) wr ((((wr.setCell ⟨w.heap.size + 1, 0, none⟩ (.int .i64 s.cpus)).setCell ⟨w.heap.size + 1, 1, none⟩ (.int .i64 s.pages)).setCell ⟨w.heap.size + 1, 2, none⟩ (.slice avc s.calls.length kvc)).setCell ⟨w.heap.size + 1, 3, none⟩ (.slice ap2 s.picks.length kp2)) := (((Ext.set1 _ _ _ _).trans (Ext.set1 _ _ _ _) (fun _ _ h => h)).trans (Ext.set1 _ _ _ _) (fun _ _ h => h)).trans (Ext.set1 _ _ _ _) (fun _ _ h => h)
        refine bodyPost_ret (v := .agg #[.int .i64 s.cpus, .int .i64 s.pages, .slice avc s.calls.length kvc, .slice ap2 s.picks.length kp2]) (by simp [results, Try.results30, go_sem, d0, d1, d2, d3]) rfl ⟨_, rfl, ?_, ?_⟩
        · exact (hres.ext hxs (fun x hx (e : x = w.heap.size + 1) => by simp only [Iv] at hx; omega)).mono (fun x hx hx2 => ⟨by have := hx.1; omega, hx2⟩)
        · exact ((hX.transNo hx3).trans hxr (fun x hx (e : x = ob) => by omega)).trans hxs (fun x hx (e : x = w.heap.size + 1) => by omega)

  · go_simp
    obtain ⟨ob, hob⟩ : ∃ ob, W0.heap.size = ob := ⟨_, rfl⟩
    have hx1 : Ext No W0 ((W0.alloc (.cells #[.int .i64 0, .int .i64 0, .slice none 0 0, .slice none 0 0] 27)).drew) := ((Ext.refl No W0).alloc _).drew
    have hC1 : (fun w' : World => w'.cell? ⟨w.heap.size, 0, none⟩ = some (.int .i64 s.cpus) ∧ w'.cell? ⟨w.heap.size, 1, none⟩ = some (.int .i64 s.pages) ∧ w'.cell? ⟨w.heap.size, 3, none⟩ = some (.slice ap s.picks.length kp)) ((W0.alloc (.cells #[.int .i64 0, .int .i64 0, .slice none 0 0, .slice none 0 0] 27)).drew) := ⟨hx1.cell a0 id, hx1.cell a1 id, hx1.cell a3 id⟩
    have hB1 : Blk ((W0.alloc (.cells #[.int .i64 0, .int .i64 0, .slice none 0 0, .slice none 0 0] 27)).drew) ob [.int .i64 0, .int .i64 0, .slice none 0 0, .slice none 0 0] 27 := Blk.new' hob.symm
    rw [← hsz0, hob]
    obtain ⟨w1, hw1⟩ : ∃ W, (W0.alloc (.cells #[.int .i64 0, .int .i64 0, .slice none 0 0, .slice none 0 0] 27)).drew = W := ⟨_, rfl⟩
    have hob1 : ob < w1.heap.size := by rw [← hw1]; simp; omega
    rw [hw1] at hx1 hC1 hB1 ⊢
    clear hw1
    refine hK _ _ hC1 ?_
    clear hK K
    try simp only [Act.put, List.setIfInBounds_toArray, List.set_cons_zero, List.set_cons_succ]
    refine anyZ_step 6 rfl (by kernel_rfl) (fun K hK => ?_)
    go_simp
    refine (copyInts_spec _ _ s.picks F (hp.ext hx1 (fun _ _ => id)) (by omega)).mono ?_
    rintro e w2 ⟨vp, rfl, ⟨hvp, hop⟩, hx12⟩
    have hx2 : Ext No W0 w2 := hx1.transNo hx12
    have hC2 : (fun w' : World => w'.cell? ⟨w.heap.size, 0, none⟩ = some (.int .i64 s.cpus) ∧ w'.cell? ⟨w.heap.size, 1, none⟩ = some (.int .i64 s.pages) ∧ w'.cell? ⟨w.heap.size, 3, none⟩ = some (.slice ap s.picks.length kp)) w2 := ⟨hx2.cell a0 id, hx2.cell a1 id, hx2.cell a3 id⟩
    obtain ⟨ap2, kp2, rfl, hkp2⟩ := ownsRow_val hop
    have hB2 := hB1.extNo hx12
    have hone : ¬ OwnOf (.slice ap2 s.picks.length kp2) ob := fun h => by have := (hop.lt _ h).1; omega
    have hobl : W0.heap.size ≤ ob := by omega
    have ho2 := ownsRow_base (base' := W0.drew.heap.size) hop hx1.size
    have b0 := hB2.cell' (i := 0) rfl
    have b1 := hB2.cell' (i := 1) rfl
    have b2 := hB2.cell' (i := 2) rfl
    have b3 := hB2.cell' (i := 3) rfl
    have f0 := hB2.frozen 0
    have f1 := hB2.frozen 1
    have f2 := hB2.frozen 2
    have f3 := hB2.frozen 3
    refine hK _ _ hC2 ?_
    clear hK K
    try simp only [Act.put, List.setIfInBounds_toArray, List.set_cons_zero, List.set_cons_succ]
    refine anyZ_take 7 (v := ?_) rfl (by kernel_rfl) (by kernel_rfl) (by kernel_rfl) (by kernel_rfl) (fun _ _ _ h => h) hC2 (Or.inl ⟨by rfl, ?_⟩) ?_
    rotate_left
    · (intro wq hq; (try dsimp only at hq); go_simp; with_reducible rfl)
    simp only [Act.put, List.setIfInBounds_toArray, List.set_cons_zero, List.set_cons_succ]
    refine anyZ_last rfl (by kernel_rfl) (fun K hK => ?_)
    clear hC hC1
    go_simp
    refine hK _ _ ?_
    clear hK K
    try simp only [Act.put, List.setIfInBounds_toArray, List.set_cons_zero, List.set_cons_succ]
    refine anyZ_done (by kernel_rfl) ?_ _
    have hB3 : Blk ((((w2.setCell ⟨ob, 0, none⟩ (.int .i64 s.cpus)).setCell ⟨ob, 1, none⟩ (.int .i64 s.pages)).setCell ⟨ob, 2, none⟩ (.slice none 0 0)).setCell ⟨ob, 3, none⟩ (.slice ap2 s.picks.length kp2)) ob [.int .i64 s.cpus, .int .i64 s.pages, .slice none 0 0, .slice ap2 s.picks.length kp2] 27 := (((hB2.set 0 _).set 1 _).set 2 _).set 3 _
    have hXs : Ext (One ob) w2 ((((w2.setCell ⟨ob, 0, none⟩ (.int .i64 s.cpus)).setCell ⟨ob, 1, none⟩ (.int .i64 s.pages)).setCell ⟨ob, 2, none⟩ (.slice none 0 0)).setCell ⟨ob, 3, none⟩ (.slice ap2 s.picks.length kp2)) := (((Ext.set1 _ _ _ _).trans (Ext.set1 _ _ _ _) (fun _ _ h => h)).trans (Ext.set1 _ _ _ _) (fun _ _ h => h)).trans (Ext.set1 _ _ _ _) (fun _ _ h => h)
    have hx3 : Ext No W0 ((((w2.setCell ⟨ob, 0, none⟩ (.int .i64 s.cpus)).setCell ⟨ob, 1, none⟩ (.int .i64 s.pages)).setCell ⟨ob, 2, none⟩ (.slice none 0 0)).setCell ⟨ob, 3, none⟩ (.slice ap2 s.picks.length kp2)) := hx2.trans hXs (fun x hx h => by have : x = ob := h; omega)
    have ho3 := ownsRow_ext ho2 hXs (fun x hx h => hone (by have : x = ob := h; rwa [this] at hx))
    obtain ⟨W1, hW1⟩ : ∃ W, (((w2.setCell ⟨ob, 0, none⟩ (.int .i64 s.cpus)).setCell ⟨ob, 1, none⟩ (.int .i64 s.pages)).setCell ⟨ob, 2, none⟩ (.slice none 0 0)).setCell ⟨ob, 3, none⟩ (.slice ap2 s.picks.length kp2) = W := ⟨_, rfl⟩
    rw [hW1] at hB3 hx3 ho3 ⊢
    clear hW1 hXs hB2 hC2 hx2 ho2 b0 b1 b2 b3 f0 f1 f2 f3 a0 a1 a3
    have hc1 := hc.ext hx3 (fun _ _ => id) (fun _ _ => id)
    have hA1 := hA.extNo hx3
    have hZ1 := hZ.extNo hx3
    have hobW := hB3.lt
    have hx3z := hx3.size
    have hpk : RdI (OwnOf (.slice ap2 s.picks.length kp2)) W1 (.slice ap2 s.picks.length kp2) s.picks := by
      have := Rd.of_own ho3
      exact this
    have hpo : ∀ x, OwnOf (.slice ap2 s.picks.length kp2) x → W0.heap.size ≤ x ∧ x < W1.heap.size := fun x hx => by have := ho3.lt x hx; simpa using this
    have hF1 : ∀ x, F x → x < w.heap.size → ¬ x = ob := fun x _ h e => by omega
    go_wp2_with fail
    go_loopg [4] s.calls.length (fun g i wr => ∃ (k : Nat) (vc : Value) (vs : List Value), k + g = s.calls.length ∧ i = .int .i64 k ∧ Blk wr ob [.int .i64 s.cpus, .int .i64 s.pages, vc, .slice ap2 s.picks.length kp2] 27 ∧ vs.length = k ∧ wr.ownsRow W1.heap.size 42 1 vc k vs ∧
      (∀ i, i < k → RdC (fun x => W1.heap.size ≤ x ∧ x < wr.heap.size ∧ ¬ OwnOf vc x) wr (nth vs i) (nth s.calls i)) ∧ Ext (One ob) W1 wr)
    case atStart => exact ⟨0, _, [], by omega, rfl, hB3, rfl, World.ownsRow_nil _ _ _ _, fun i hi => by omega, Ext.refl _ _⟩
    case round =>
      obtain ⟨k, vc, vs, hk, rfl, hBr, hvl, hown, hvs, hxr⟩ := hrel
      have hk' := Lib.hid hk
      have hkn : k ≤ s.calls.length := by omega
      clear hk
      obtain ⟨avc, kvc, rfl, hkvc⟩ := ownsRow_val hown
      have hszr := hxr.size
      have hAr := hA1.extOne hxr (by omega)
      by_cases hlt : k < s.calls.length
      · obtain ⟨b1, o1, ai, ci, rfl, fb1, r0, q0, _, _⟩ := hc1.at2 hlt
        have hfb1 := hFx b1 fb1
        have r1 := hxr.cell r0 (fun e : b1 = ob => by omega)
        have q1 := q0.ext hxr (fun x hx (e : x = ob) => by have := hFx x hx; omega)
        have o2 := hBr.cell' (i := 2) rfl
        have a2 := hAr.cell' (i := 2) rfl
        go_wp2_with fail
        refine anyZ_begin 12 (fun w' => w'.cell? ⟨ob, 2, none⟩ = some (.slice avc k kvc) ∧ w'.cell? ⟨w.heap.size, 2, none⟩ = some (.slice (some ⟨b1, o1, none⟩) s.calls.length kc) ∧ w'.cell? ⟨b1, o1 + k, none⟩ = some (.slice ai (nth s.calls k).length ci)) (by kernel_rfl) ?_
        have hD : (fun w' : World => w'.cell? ⟨ob, 2, none⟩ = some (.slice avc k kvc) ∧ w'.cell? ⟨w.heap.size, 2, none⟩ = some (.slice (some ⟨b1, o1, none⟩) s.calls.length kc) ∧ w'.cell? ⟨b1, o1 + k, none⟩ = some (.slice ai (nth s.calls k).length ci)) wr.drew := ⟨o2, a2, r1⟩
        refine anyZ_take 0 (v := ?_) rfl (by kernel_rfl) (by kernel_rfl) (by kernel_rfl) (by kernel_rfl) (fun _ _ _ h => h) hD (Or.inl ⟨by rfl, ?_⟩) ?_
        rotate_left
        · (intro wq hq; (try dsimp only at hq); go_simp; with_reducible rfl)
        simp only [Act.put, List.setIfInBounds_toArray, List.set_cons_zero, List.set_cons_succ]
        refine anyZ_take 1 (v := ?_) rfl (by kernel_rfl) (by kernel_rfl) (by kernel_rfl) (by kernel_rfl) (fun _ _ _ h => h) hD (Or.inl ⟨by rfl, ?_⟩) ?_
        rotate_left
        · (intro wq hq; (try dsimp only at hq); go_simp; with_reducible rfl)
        simp only [Act.put, List.setIfInBounds_toArray, List.set_cons_zero, List.set_cons_succ]
        refine anyZ_take 2 (v := ?_) rfl (by kernel_rfl) (by kernel_rfl) (by kernel_rfl) (by kernel_rfl) (fun _ _ _ h => h) hD (Or.inl ⟨by rfl, ?_⟩) ?_
        rotate_left
        · (intro wq hq; (try dsimp only at hq); go_simp; with_reducible rfl)
        simp only [Act.put, List.setIfInBounds_toArray, List.set_cons_zero, List.set_cons_succ]
        refine anyZ_take 3 (v := ?_) rfl (by kernel_rfl) (by kernel_rfl) (by kernel_rfl) (by kernel_rfl) (fun _ _ _ h => h) hD (Or.inl ⟨by rfl, ?_⟩) ?_
        rotate_left
        · (intro wq hq; (try dsimp only at hq); go_simp; with_reducible rfl)
        simp only [Act.put, List.setIfInBounds_toArray, List.set_cons_zero, List.set_cons_succ]
        refine anyZ_take 4 (v := ?_) rfl (by kernel_rfl) (by kernel_rfl) (by kernel_rfl) (by kernel_rfl) (fun _ _ _ h => h) hD (Or.inl ⟨by rfl, ?_⟩) ?_
        rotate_left
        · (intro wq hq; (try dsimp only at hq); go_simp; with_reducible rfl)
        simp only [Act.put, List.setIfInBounds_toArray, List.set_cons_zero, List.set_cons_succ]
        refine anyZ_take 5 (v := ?_) rfl (by kernel_rfl) (by kernel_rfl) (by kernel_rfl) (by kernel_rfl) (fun _ _ _ h => h) hD (Or.inl ⟨by rfl, ?_⟩) ?_
        rotate_left
        · (intro wq hq; (try dsimp only at hq); go_simp; with_reducible rfl)
        simp only [Act.put, List.setIfInBounds_toArray, List.set_cons_zero, List.set_cons_succ]
        refine anyZ_take 6 (v := ?_) rfl (by kernel_rfl) (by kernel_rfl) (by kernel_rfl) (by kernel_rfl) (fun _ _ _ h => h) hD (Or.inl ⟨by rfl, ?_⟩) ?_
        rotate_left
        · (intro wq hq; (try dsimp only at hq); go_simp; with_reducible rfl)
        simp only [Act.put, List.setIfInBounds_toArray, List.set_cons_zero, List.set_cons_succ]
        refine anyZ_take 7 (v := ?_) rfl (by kernel_rfl) (by kernel_rfl) (by kernel_rfl) (by kernel_rfl) (fun _ _ _ h => h) hD (Or.inl ⟨by rfl, ?_⟩) ?_
        rotate_left
        · (intro wq hq; (try dsimp only at hq); go_simp; with_reducible rfl)
        simp only [Act.put, List.setIfInBounds_toArray, List.set_cons_zero, List.set_cons_succ]
        refine anyZ_step 8 rfl (by kernel_rfl) (fun K hK => ?_)
        have hb32 := hf2H.out k hlt
        refine held_app (v := .slice none 0 0) ty_call rfl _ _ rfl rfl (World.ownsRow_nil wr.drew wr.drew.heap.size 44 4) rfl (q1.ext ((Ext.refl No wr).drew) (fun _ _ => id)) (cls_one _) (by omega) (by unfold maxLen; omega) (Nat.le_refl _) ?_
        intro vl w5 hownl hx5 _ hfr5
        simp only [Nat.zero_add, List.nil_append] at hownl
        have hx5 : Ext No wr w5 := ((Ext.refl No wr).drew).transNo (hx5.mono (fun x _ (h : OwnOf _ x) => by simp [OwnOf, Value.ownBlock] at h))
        obtain ⟨al, kl, rfl, hkl⟩ := ownsRow_val hownl
        have hD5 : (fun w' : World => w'.cell? ⟨ob, 2, none⟩ = some (.slice avc k kvc) ∧ w'.cell? ⟨w.heap.size, 2, none⟩ = some (.slice (some ⟨b1, o1, none⟩) s.calls.length kc) ∧ w'.cell? ⟨b1, o1 + k, none⟩ = some (.slice ai (nth s.calls k).length ci)) w5 := ⟨hx5.cell o2 id, hx5.cell a2 id, hx5.cell r1 id⟩
        refine hK _ _ hD5 ?_
        clear hK K
        try simp only [Act.put, List.setIfInBounds_toArray, List.set_cons_zero, List.set_cons_succ]
        refine anyZ_step 9 rfl (by kernel_rfl) (fun K hK => ?_)
        go_simp
        have hx6 : Ext No wr (w5.alloc (.cells #[.slice al (nth s.calls k).length kl] 42)) := hx5.alloc _
        have hownl6 := ownsRow_ext hownl ((Ext.refl No w5).alloc (.cells #[.slice al (nth s.calls k).length kl] 42)) (fun _ _ => id)
        have hown6 := ownsRow_ext hown hx6 (fun _ _ => id)
        have hD6 : (fun w' : World => w'.cell? ⟨ob, 2, none⟩ = some (.slice avc k kvc) ∧ w'.cell? ⟨w.heap.size, 2, none⟩ = some (.slice (some ⟨b1, o1, none⟩) s.calls.length kc) ∧ w'.cell? ⟨b1, o1 + k, none⟩ = some (.slice ai (nth s.calls k).length ci)) (w5.alloc (.cells #[.slice al (nth s.calls k).length kl] 42)) := ⟨hx6.cell o2 id, hx6.cell a2 id, hx6.cell r1 id⟩
        refine hK _ _ hD6 ?_
        clear hK K
        try simp only [Act.put, List.setIfInBounds_toArray, List.set_cons_zero, List.set_cons_succ]
        refine anyZ_step 10 rfl (by kernel_rfl) (fun K hK => ?_)
        refine held_app (v := .slice avc k kvc) ty_rows rfl _ _ rfl rfl hown6 rfl (Rd.of_blk (n := 1) (Blk.new' rfl) rfl (by decide)) (by simp [Value.oneCell']) (by omega) (by unfold maxLen; omega) (Nat.le_trans hszr hx6.size) ?_
        intro vc7 w7 hown7 hx7 _ hfr7
        obtain ⟨a7, k7, rfl, hk7⟩ := ownsRow_val hown7
        have hvb : ∀ x, OwnOf (.slice avc k kvc) x → W1.heap.size ≤ x ∧ x < wr.heap.size := fun x hx => hown.lt x hx
        have hxA : Ext (OwnOf (.slice avc k kvc)) wr w7 := (hx6.of_no).transSame hx7
        have hn1 : ¬ OwnOf (.slice avc k kvc) ob := fun h => by have := hvb _ h; omega
        have hn2 : ¬ OwnOf (.slice avc k kvc) w.heap.size := fun h => by have := hvb _ h; omega
        have hn3 : ¬ OwnOf (.slice avc k kvc) b1 := fun h => by have := hvb _ h; omega
        have hD7 : (fun w' : World => w'.cell? ⟨ob, 2, none⟩ = some (.slice avc k kvc) ∧ w'.cell? ⟨w.heap.size, 2, none⟩ = some (.slice (some ⟨b1, o1, none⟩) s.calls.length kc) ∧ w'.cell? ⟨b1, o1 + k, none⟩ = some (.slice ai (nth s.calls k).length ci)) w7 := ⟨hxA.cell o2 hn1, hxA.cell a2 hn2, hxA.cell r1 hn3⟩
        have hB7 := hBr.ext hxA hn1
        have o7 := hB7.cell' (i := 2) rfl
        have f7 := hB7.frozen 2
        refine hK _ _ hD7 ?_
        clear hK K
        try simp only [Act.put, List.setIfInBounds_toArray, List.set_cons_zero, List.set_cons_succ]
        refine anyZ_take 11 (v := ?_) rfl (by kernel_rfl) (by kernel_rfl) (by kernel_rfl) (by kernel_rfl) (fun _ _ _ h => h) hD7 (Or.inl ⟨by rfl, ?_⟩) ?_
        rotate_left
        · (intro wq hq; (try dsimp only at hq); go_simp; with_reducible rfl)
        simp only [Act.put, List.setIfInBounds_toArray, List.set_cons_zero, List.set_cons_succ]
        refine anyZ_last rfl (by kernel_rfl) (fun K hK => ?_)
        clear hD hD5 hD6 hD7 o2 a2 r1
        go_simp
        refine hK _ _ ?_
        clear hK K
        try simp only [Act.put, List.setIfInBounds_toArray, List.set_cons_zero, List.set_cons_succ]
        refine anyZ_done (by kernel_rfl) ?_ _
        have hkk := hk'.out
        have hz5 := hx5.size
        have hz6 := hx6.size
        have hz7 := hx7.size
        simp only [World.size_alloc] at hz6 hz7 hfr7
        have hl5 : ∀ x, OwnOf (.slice al (nth s.calls k).length kl) x → wr.heap.size ≤ x ∧ x < w5.heap.size := fun x hx => by have := hownl.lt x hx; simpa using this
        have hlist : RdC (fun x => OwnOf (.slice al (nth s.calls k).length kl) x) w7 (.slice al (nth s.calls k).length kl) (nth s.calls k) := Rd.ext (Rd.of_own hownl6) hx7 (fun x hx hs => by have := hl5 x hx; have := hvb x hs; omega)
        have hxs : Ext (One ob) w7 (w7.setCell ⟨ob, 2, none⟩ (.slice a7 (k + 1) k7)) := Ext.set1 _ _ _ _
        have hzs : (w7.setCell ⟨ob, 2, none⟩ (.slice a7 (k + 1) k7)).heap.size = w7.heap.size := by simp [World.setCell]
        clear f7 o7
        go_wp2_with fail
        go_roundg (s.calls.length - (k + 1))
        case measure => omega
        case rel =>
          refine ⟨k + 1, .slice a7 (k + 1) k7, vs ++ [.slice al (nth s.calls k).length kl], by omega, by go_num, hB7.set 2 _, by simp [hvl], ownsRow_ext hown7 hxs (fun x hx (e : x = ob) => by have := hown7.lt x hx; omega), fun i hi => ?_, ?_⟩
          · by_cases hik : i < k
            · rw [nth_append_left (by omega)]
              refine (((hvs i hik).ext hxA (fun x hx hs => hx.2.2 hs)).ext hxs (fun x hx (e : x = ob) => by omega)).mono (fun x hx _ => ⟨hx.1, by omega, fun ho => ?_⟩)
              rcases hfr7 x ho with h | h
              · exact hx.2.2 h
              · omega
            · obtain rfl : i = k := by omega
              subst hvl
              rw [nth_snoc]
              refine (hlist.ext hxs (fun x hx (e : x = ob) => by have := hl5 x hx; omega)).mono (fun x hx _ => ⟨by have := hl5 x hx; omega, by have := hl5 x hx; omega, fun ho => ?_⟩)
              have h5 := hl5 x hx
              rcases hfr7 x ho with h | h
              · have := hvb x h; omega
              · omega
          · exact (hxr.trans hxA (fun x hx hs => by have := hvb x hs; omega)).trans hxs (fun x _ h => h)
      · have o0 := hBr.cell' (i := 0) rfl
        have o1 := hBr.cell' (i := 1) rfl
        have o2 := hBr.cell' (i := 2) rfl
        have o3 := hBr.cell' (i := 3) rfl
        have a2 := hAr.cell' (i := 2) rfl
        have hZr := hZ1.extOne hxr (by omega)
        have d0 := hZr.cell' (i := 0) rfl
        have d1 := hZr.cell' (i := 1) rfl
        have d2 := hZr.cell' (i := 2) rfl
        have d3 := hZr.cell' (i := 3) rfl
        have g0 := hZr.frozen 0
        have g1 := hZr.frozen 1
        have g2 := hZr.frozen 2
        have g3 := hZr.frozen 3
        have e : k = s.calls.length := by omega
        subst e
        go_wp2_with fail
        have hres : RdS (Iv (w.heap.size + 2) wr.heap.size) wr (.agg #[.int .i64 s.cpus, .int .i64 s.pages, .slice avc s.calls.length kvc, .slice ap2 s.picks.length kp2]) s :=
          ⟨_, _, rfl, ⟨vs, hvl, (Rd.of_own hown).mono (fun x hx _ => by have := hown.lt x hx; simp only [Iv]; omega), fun i hi => (hvs i hi).mono (fun x hx _ => by simp only [Iv]; omega)⟩,
            (hpk.extOne hxr (fun hx => hone hx)).mono (fun x hx _ => by have := hpo x hx; simp only [Iv]; omega)⟩
        have hzs : ((((wr.setCell ⟨w.heap.size + 1, 0, none⟩ (.int .i64 s.cpus)).setCell ⟨w.heap.size + 1, 1, none⟩ (.int .i64 s.pages)).setCell ⟨w.heap.size + 1, 2, none⟩ (.slice avc s.calls.length kvc)).setCell ⟨w.heap.size + 1, 3, none⟩ (.slice ap2 s.picks.length kp2)).heap.size = wr.heap.size := by simp [World.setCell]
        have hxs : Ext (One (w.heap.size + 1)) wr ((((wr.setCell ⟨w.heap.size + 1, 0, none⟩ (.int .i64 s.cpus)).setCell ⟨w.heap.size + 1, 1, none⟩ (.int .i64 s.pages)).setCell ⟨w.heap.size + 1, 2, none⟩ (.slice avc s.calls.length kvc)).setCell ⟨w.heap.size + 1, 3, none⟩ (.slice ap2 s.picks.length kp2)) := (((Ext.set1 _ _ _ _).trans (Ext.set1 _ _ _ _) (fun _ _ h => h)).trans (Ext.set1 _ _ _ _) (fun _ _ h => h)).trans (Ext.set1 _ _ _ _) (fun _ _ h => h)
        refine bodyPost_ret (v := .agg #[.int .i64 s.cpus, .int .i64 s.pages, .slice avc s.calls.length kvc, .slice ap2 s.picks.length kp2]) (by simp [results, Try.results30, go_sem, d0, d1, d2, d3]) rfl ⟨_, rfl, ?_, ?_⟩
        · exact (hres.ext hxs (fun x hx (e : x = w.heap.size + 1) => by simp only [Iv] at hx; omega)).mono (fun x hx hx2 => ⟨by have := hx.1; omega, hx2⟩)
        · exact ((hX.transNo hx3).trans hxr (fun x hx (e : x = ob) => by omega)).trans hxs (fun x hx (e : x = w.heap.size + 1) => by omega)

end Go.Proofs.Ytjkknjohmekeiaa
