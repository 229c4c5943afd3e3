/- Buddies in memory: lay. The block lies in the pages; its order lies between 0 and 10. -/
import Derived.Test.YtjkknjohmekeiaaBuddyB
import Derived.Deep.CutRange
import Derived.Deep.CutBlock
namespace Go.Proofs.Ytjkknjohmekeiaa
open Go.RowKit

theorem sz_mk (a c : Int) (o : Nat) : sz ⟨a, (o : Int), c⟩ = pw o := by unfold sz pw; simp

set_option maxRecDepth 100000 in
set_option maxHeartbeats 3200000 in
theorem lay117_spec (w : World) (bb base : Nat) (v : Value) (l : List T3) (h : BR w bb base v l) (i o : Nat) (ho : o ≤ 10) (hf : i + pw o ≤ l.length) (p : T3) :
    Calls Try.prog 117 #[.pointer (some ⟨bb, 0, none⟩), .agg #[.int .i64 i, .int .i64 o], .agg #[.int .i64 p.a, .int .i64 p.b, .int .i64 p.c]] w fun e w' =>
      (∃ u, e = .returned u) ∧ BR w' bb base v (setL l i ⟨p.a, o, p.c⟩) ∧ Ext (OwnOf v) w w' := by
  obtain ⟨a, cap, rfl, hlc, hcap⟩ := h.val
  have hn := h.n
  have hbl := h.b.lt
  have hpw := pw_pos o
  have hpl := pw_le ho
  have hil : i < l.length := by omega
  obtain ⟨z, hz⟩ : ∃ z, pw o = z := ⟨_, rfl⟩
  rw [hz] at hf hpw hpl
  have hz' := Lib.hid hz
  go_enter Try.func117, Try.ntmps117
  go_upto_region 2 with (fail)
  obtain ⟨A, hA⟩ : ∃ A, w.heap.size = A := ⟨_, rfl⟩
  obtain ⟨W, hW⟩ : ∃ W, (w.alloc (.cells #[.int .i64 i, .int .i64 o] 162)).alloc (.cells #[.int .i64 p.a, .int .i64 o, .int .i64 p.c] 98) = W := ⟨_, rfl⟩
  have hX : Ext No w W := by rw [← hW]; exact ((Ext.refl _ _).alloc _).alloc _
  have hB0 : Blk W A [.int .i64 i, .int .i64 o] 162 := by rw [← hW]; exact (Blk.new' hA.symm).alloc _
  have hB1 : Blk W (A + 1) [.int .i64 p.a, .int .i64 o, .int .i64 p.c] 98 := by rw [← hW]; exact Blk.new' (by simp [hA])
  rw [hW, hA]
  clear hW
  have hA1 : ¬ OwnOf (.slice a l.length cap) A := fun ho => by have := (h.p.lt A ho).2; omega
  have hA2 : ¬ OwnOf (.slice a l.length cap) (A + 1) := fun ho => by have := (h.p.lt (A + 1) ho).2; omega
  have h1 := h.extNo hX
  have hne := h.ne
  clear h hz
  obtain ⟨b, cp, e9, _, _, hob, hbw, hbb, ⟨y0, y1, y2⟩, hfr, hset⟩ := own3_at2 h1.p rfl (k := i) hil
  cases e9
  have bn : b ≠ A := fun e => hA1 (e ▸ hob)
  have bn2 : b ≠ A + 1 := fun e => hA2 (e ▸ hob)
  have bn3 : b ≠ bb := fun e => hne (e ▸ hob)
  have v0 := h1.b.cell' (i := 0) rfl
  have q0 := hB0.cell' (i := 0) rfl
  have q1 := hB0.cell' (i := 1) rfl
  have r0 := hB1.cell' (i := 0) rfl
  have r1 := hB1.cell' (i := 1) rfl
  have r2 := hB1.cell' (i := 2) rfl
  have f0 := hfr (i * 3)
  have f1 := hfr (i * 3 + 1)
  have f2 := hfr (i * 3 + 2)
  have hset' := Lib.hid (hset ⟨p.a, o, p.c⟩)
  clear hset hfr
  refine anyZ_begin 8 (fun w' => w'.cell? ⟨bb, 0, none⟩ = some (.slice (some ⟨b, 0, none⟩) l.length cap) ∧ w'.cell? ⟨A, 0, none⟩ = some (.int .i64 i) ∧ w'.cell? ⟨A + 1, 0, none⟩ = some (.int .i64 p.a) ∧ w'.cell? ⟨A + 1, 1, none⟩ = some (.int .i64 o) ∧ w'.cell? ⟨A + 1, 2, none⟩ = some (.int .i64 p.c)) (by kernel_rfl) ?_
  have hC : (fun w' : World => w'.cell? ⟨bb, 0, none⟩ = some (.slice (some ⟨b, 0, none⟩) l.length cap) ∧ w'.cell? ⟨A, 0, none⟩ = some (.int .i64 i) ∧ w'.cell? ⟨A + 1, 0, none⟩ = some (.int .i64 p.a) ∧ w'.cell? ⟨A + 1, 1, none⟩ = some (.int .i64 o) ∧ w'.cell? ⟨A + 1, 2, none⟩ = some (.int .i64 p.c)) W.drew := ⟨v0, q0, r0, r1, r2⟩
  have hi0 : (i : Int) < l.length := by omega
  refine anyZ_take 0 (v := ?_) rfl (by kernel_rfl) (by kernel_rfl) (by kernel_rfl) (by kernel_rfl) (fun _ _ _ h => h) hC (Or.inl ⟨by rfl, ?_⟩) ?_
  rotate_left
  · (intro wq hq; (try dsimp only at hq); go_simp; with_reducible rfl)
  simp only [Act.put, List.setIfInBounds_toArray, List.set_cons_zero, List.set_cons_succ]
  refine anyZ_take 1 (v := ?_) rfl (by kernel_rfl) (by kernel_rfl) (by kernel_rfl) (by kernel_rfl) (fun _ _ _ h => h) hC (Or.inl ⟨by rfl, ?_⟩) ?_
  rotate_left
  · (intro wq hq; (try dsimp only at hq); go_simp; with_reducible rfl)
  simp only [Act.put, List.setIfInBounds_toArray, List.set_cons_zero, List.set_cons_succ]
  refine anyZ_take 2 (v := ?_) rfl (by kernel_rfl) (by kernel_rfl) (by kernel_rfl) (by kernel_rfl) (fun _ _ _ h => h) hC (Or.inl ⟨by rfl, ?_⟩) ?_
  rotate_left
  · (intro wq hq; (try dsimp only at hq); go_simp; with_reducible rfl)
  simp only [Act.put, List.setIfInBounds_toArray, List.set_cons_zero, List.set_cons_succ]
  refine anyZ_take 3 (v := ?_) rfl (by kernel_rfl) (by kernel_rfl) (by kernel_rfl) (by kernel_rfl) (fun _ _ _ h => h) hC (Or.inl ⟨by rfl, ?_⟩) ?_
  rotate_left
  · (intro wq hq; (try dsimp only at hq); go_simp; with_reducible rfl)
  simp only [Act.put, List.setIfInBounds_toArray, List.set_cons_zero, List.set_cons_succ]
  refine anyZ_take 4 (v := ?_) rfl (by kernel_rfl) (by kernel_rfl) (by kernel_rfl) (by kernel_rfl) (fun _ _ _ h => h) hC (Or.inl ⟨by rfl, ?_⟩) ?_
  rotate_left
  · (intro wq hq; (try dsimp only at hq); go_simp; with_reducible rfl)
  simp only [Act.put, List.setIfInBounds_toArray, List.set_cons_zero, List.set_cons_succ]
  refine anyZ_take 5 (v := ?_) rfl (by kernel_rfl) (by kernel_rfl) (by kernel_rfl) (by kernel_rfl) (fun _ _ _ h => h) hC (Or.inl ⟨by rfl, ?_⟩) ?_
  rotate_left
  · (intro wq hq; (try dsimp only at hq); go_simp; with_reducible rfl)
  simp only [Act.put, List.setIfInBounds_toArray, List.set_cons_zero, List.set_cons_succ]
  refine anyZ_take 6 (v := ?_) rfl (by kernel_rfl) (by kernel_rfl) (by kernel_rfl) (by kernel_rfl) (fun _ _ _ h => h) hC (Or.inl ⟨by rfl, ?_⟩) ?_
  rotate_left
  · (intro wq hq; (try dsimp only at hq); go_simp; with_reducible rfl)
  simp only [Act.put, List.setIfInBounds_toArray, List.set_cons_zero, List.set_cons_succ]
  refine anyZ_take 7 (v := ?_) rfl (by kernel_rfl) (by kernel_rfl) (by kernel_rfl) (by kernel_rfl) (fun _ _ _ h => h) hC (Or.inl ⟨by rfl, ?_⟩) ?_
  rotate_left
  · (intro wq hq; (try dsimp only at hq); go_simp; with_reducible rfl)
  simp only [Act.put, List.setIfInBounds_toArray, List.set_cons_zero, List.set_cons_succ]
  clear hC
  refine anyZ_last rfl (by kernel_rfl) (fun K hK => ?_)
  go_simp
  refine hK _ _ ?_
  clear hK K
  try simp only [Act.put, List.setIfInBounds_toArray, List.set_cons_zero, List.set_cons_succ]
  refine anyZ_done (by kernel_rfl) ?_ _
  obtain ⟨p', hp'⟩ : ∃ p' : T3, (⟨p.a, o, p.c⟩ : T3) = p' := ⟨_, rfl⟩
  have hsz : Hid (sz p' = z) := by show _ = _; rw [← hp', sz_mk, hz'.out]
  have hpp := Lib.hid hp'
  have hst : Ext (One b) W (((W.setCell ⟨b, i * 3, none⟩ (.int .i64 p.a)).setCell ⟨b, i * 3 + 1, none⟩ (.int .i64 o)).setCell ⟨b, i * 3 + 2, none⟩ (.int .i64 p.c)) := Ext.set3 _ _ _ _ _ _ _ _
  have hO : (((W.setCell ⟨b, i * 3, none⟩ (.int .i64 p.a)).setCell ⟨b, i * 3 + 1, none⟩ (.int .i64 o)).setCell ⟨b, i * 3 + 2, none⟩ (.int .i64 p.c)).drew.ownsRow base 98 3 (.slice (some ⟨b, 0, none⟩) l.length cap) l.length (t3sCells (setK l i p' 0)) := by
    have h2 := hset'.out
    rw [← setK_zero hil, ← hp']
    exact ownsRow_ext h2 ((Ext.refl No _).drew) (fun _ _ => id)
  obtain ⟨V, hV⟩ : ∃ V, (((W.setCell ⟨b, i * 3, none⟩ (.int .i64 p.a)).setCell ⟨b, i * 3 + 1, none⟩ (.int .i64 o)).setCell ⟨b, i * 3 + 2, none⟩ (.int .i64 p.c)).drew = V := ⟨_, rfl⟩
  have hxV : Ext (One b) W V := by rw [← hV]; exact hst.drew
  rw [hV] at hO ⊢
  clear hV hset' hst hp' y0 y1 y2 f0 f1 f2 v0 q0 q1 r0 r1 r2 hB1
  have hAV := hB0.extOne hxV (Ne.symm bn)
  have hbV := h1.b.extOne hxV (Ne.symm bn3)
  have q0 := hAV.cell' (i := 0) rfl
  have q1 := hAV.cell' (i := 1) rfl
  go_wp2_with fail
  refine (size141_spec _ i o ho).mono ?_
  rintro e w2 ⟨rfl, hx2⟩
  rw [hz'.out]
  have hO := ownsRow_ext hO hx2 (fun _ _ => id)
  have hAV := hAV.extNo hx2
  have hbV := hbV.extNo hx2
  have hxV := hxV.transNo hx2
  clear q0 q1 hx2 h1 hB0
  go_wp2_with fail
  go_loopg [21] (z - 1) (fun g u wr => ∃ k : Nat, k + g = z - 1 ∧ u = .int .i64 k ∧ wr.ownsRow base 98 3 (.slice (some ⟨b, 0, none⟩) l.length cap) l.length (t3sCells (setK l i p' k)) ∧ Ext (One b) W wr ∧ Blk wr A [.int .i64 i, .int .i64 o] 162 ∧ Blk wr bb [.slice (some ⟨b, 0, none⟩) l.length cap] 126)
  case atStart => exact ⟨0, by omega, rfl, hO, hxV, hAV, hbV⟩
  case round =>
    clear hO hxV hAV hbV
    obtain ⟨k, hk, rfl, hO, hx, hAV, hbV⟩ := hrel
    have hk' := Lib.hid hk
    have hkn : k ≤ z - 1 := by omega
    clear hk
    by_cases hlt : k < z - 1
    · obtain ⟨b', oc', e9, _, _, _, _, _, ⟨y0, y1, y2⟩, f0, hset⟩ := own3_at2 hO (setK_len (by omega)) (k := i + 1 + k) (by omega)
      cases e9
      have v0 := hbV.cell' (i := 0) rfl
      have q0 := hAV.cell' (i := 0) rfl
      have f1 := f0 ((i + 1 + k) * 3)
      have f2 := f0 ((i + 1 + k) * 3 + 1)
      have f3 := f0 ((i + 1 + k) * 3 + 2)
      have hset1 := hset inside
      rw [setK_succ (by omega)] at hset1
      have hset1' := Lib.hid hset1
      have hst : Ext (One b) wr (((wr.setCell ⟨b, (i + 1 + k) * 3, none⟩ (.int .i64 1)).setCell ⟨b, (i + 1 + k) * 3 + 1, none⟩ (.int .i64 0)).setCell ⟨b, (i + 1 + k) * 3 + 2, none⟩ (.int .i64 0)).drew := (Ext.set3 _ _ _ _ _ _ _ _).drew
      have hst' := Lib.hid hst
      have hlt2 : (k : Int) < z - 1 := by omega
      clear f0 hset hset1 hst
      go_upto_region 6 with (fail)
      have hw1 : IntKind.i64.wrap ((i : Int) + 1) = (i : Int) + 1 := by rw [IntKind.wrap_i64]; omega
      have hw2 : IntKind.i64.wrap ((i : Int) + 1 + k) = (i : Int) + 1 + k := by rw [IntKind.wrap_i64]; omega
      have hb0 : (0 : Int) ≤ (i : Int) + 1 + k := by omega
      have hb1 : (i : Int) + 1 + k < l.length := by omega
      have hb2 : ((i : Int) + 1 + k).toNat = i + 1 + k := by omega
      refine anyZ_begin 11 (fun w' => w'.cell? ⟨bb, 0, none⟩ = some (.slice (some ⟨b, 0, none⟩) l.length cap) ∧ w'.cell? ⟨A, 0, none⟩ = some (.int .i64 i)) (by kernel_rfl) ?_
      have hC : (fun w' : World => w'.cell? ⟨bb, 0, none⟩ = some (.slice (some ⟨b, 0, none⟩) l.length cap) ∧ w'.cell? ⟨A, 0, none⟩ = some (.int .i64 i)) wr.drew := ⟨v0, q0⟩
      refine anyZ_take 0 (v := ?_) rfl (by kernel_rfl) (by kernel_rfl) (by kernel_rfl) (by kernel_rfl) (fun _ _ _ h => h) hC (Or.inl ⟨by rfl, ?_⟩) ?_
      rotate_left
      · (intro wq hq; (try dsimp only at hq); go_simp; with_reducible rfl)
      simp only [Act.put, List.setIfInBounds_toArray, List.set_cons_zero, List.set_cons_succ]
      refine anyZ_take 1 (v := ?_) rfl (by kernel_rfl) (by kernel_rfl) (by kernel_rfl) (by kernel_rfl) (fun _ _ _ h => h) hC (Or.inl ⟨by rfl, ?_⟩) ?_
      rotate_left
      · (intro wq hq; (try dsimp only at hq); go_simp; with_reducible rfl)
      simp only [Act.put, List.setIfInBounds_toArray, List.set_cons_zero, List.set_cons_succ]
      refine anyZ_take 2 (v := ?_) rfl (by kernel_rfl) (by kernel_rfl) (by kernel_rfl) (by kernel_rfl) (fun _ _ _ h => h) hC (Or.inl ⟨by rfl, ?_⟩) ?_
      rotate_left
      · (intro wq hq; (try dsimp only at hq); go_simp; with_reducible rfl)
      simp only [Act.put, List.setIfInBounds_toArray, List.set_cons_zero, List.set_cons_succ]
      refine anyZ_take 3 (v := ?_) rfl (by kernel_rfl) (by kernel_rfl) (by kernel_rfl) (by kernel_rfl) (fun _ _ _ h => h) hC (Or.inl ⟨by rfl, ?_⟩) ?_
      rotate_left
      · (intro wq hq; (try dsimp only at hq); go_simp; with_reducible rfl)
      simp only [Act.put, List.setIfInBounds_toArray, List.set_cons_zero, List.set_cons_succ]
      refine anyZ_take 4 (v := ?_) rfl (by kernel_rfl) (by kernel_rfl) (by kernel_rfl) (by kernel_rfl) (fun _ _ _ h => h) hC (Or.inl ⟨by rfl, ?_⟩) ?_
      rotate_left
      · (intro wq hq; (try dsimp only at hq); go_simp; with_reducible rfl)
      simp only [Act.put, List.setIfInBounds_toArray, List.set_cons_zero, List.set_cons_succ]
      refine anyZ_take 5 (v := ?_) rfl (by kernel_rfl) (by kernel_rfl) (by kernel_rfl) (by kernel_rfl) (fun _ _ _ h => h) hC (Or.inl ⟨by rfl, ?_⟩) ?_
      rotate_left
      · (intro wq hq; (try dsimp only at hq); go_simp; with_reducible rfl)
      simp only [Act.put, List.setIfInBounds_toArray, List.set_cons_zero, List.set_cons_succ]
      refine anyZ_take 6 (v := ?_) rfl (by kernel_rfl) (by kernel_rfl) (by kernel_rfl) (by kernel_rfl) (fun _ _ _ h => h) hC (Or.inl ⟨by rfl, ?_⟩) ?_
      rotate_left
      · (intro wq hq; (try dsimp only at hq); go_simp; with_reducible rfl)
      simp only [Act.put, List.setIfInBounds_toArray, List.set_cons_zero, List.set_cons_succ]
      refine anyZ_take 7 (v := ?_) rfl (by kernel_rfl) (by kernel_rfl) (by kernel_rfl) (by kernel_rfl) (fun _ _ _ h => h) hC (Or.inl ⟨by rfl, ?_⟩) ?_
      rotate_left
      · (intro wq hq; (try dsimp only at hq); go_simp; with_reducible rfl)
      simp only [Act.put, List.setIfInBounds_toArray, List.set_cons_zero, List.set_cons_succ]
      refine anyZ_take 8 (v := ?_) rfl (by kernel_rfl) (by kernel_rfl) (by kernel_rfl) (by kernel_rfl) (fun _ _ _ h => h) hC (Or.inl ⟨by rfl, ?_⟩) ?_
      rotate_left
      · (intro wq hq; (try dsimp only at hq); go_simp; with_reducible rfl)
      simp only [Act.put, List.setIfInBounds_toArray, List.set_cons_zero, List.set_cons_succ]
      refine anyZ_take 9 (v := ?_) rfl (by kernel_rfl) (by kernel_rfl) (by kernel_rfl) (by kernel_rfl) (fun _ _ _ h => h) hC (Or.inl ⟨by rfl, ?_⟩) ?_
      rotate_left
      · (intro wq hq; (try dsimp only at hq); go_simp; with_reducible rfl)
      simp only [Act.put, List.setIfInBounds_toArray, List.set_cons_zero, List.set_cons_succ]
      refine anyZ_take 10 (v := ?_) rfl (by kernel_rfl) (by kernel_rfl) (by kernel_rfl) (by kernel_rfl) (fun _ _ _ h => h) hC (Or.inl ⟨by rfl, ?_⟩) ?_
      rotate_left
      · (intro wq hq; (try dsimp only at hq); go_simp; with_reducible rfl)
      simp only [Act.put, List.setIfInBounds_toArray, List.set_cons_zero, List.set_cons_succ]
      clear hC
      refine anyZ_last rfl (by kernel_rfl) (fun K hK => ?_)
      go_simp
      refine hK _ _ ?_
      clear hK K
      try simp only [Act.put, List.setIfInBounds_toArray, List.set_cons_zero, List.set_cons_succ]
      refine anyZ_done (by kernel_rfl) ?_ _
      clear hw1 hw2 hb0 hb1 hb2 y0 y1 y2 f1 f2 f3 v0 q0
      have hAs := hAV.extOne hst'.out (Ne.symm bn)
      have hbs := hbV.extOne hst'.out (Ne.symm bn3)
      have hOs := ownsRow_ext hset1'.out ((Ext.refl No _).drew) (fun _ _ => id)
      have hxs := hx.transSame hst'.out
      go_wp2_with fail
      go_roundg (z - 1 - (k + 1))
      case measure => have := hk'.out; omega
      case rel => exact ⟨k + 1, by omega, by go_num, hOs, hxs, hAs, hbs⟩
    · have hk2 : Hid (k = sz p' - 1) := by show _ = _; rw [hsz.out]; omega
      have hge : (z : Int) - 1 ≤ k := by omega
      have hE : Ext (OwnOf (.slice (some ⟨b, 0, none⟩) l.length cap)) w wr := (hX.of_no).trans hx (fun x _ (e : x = b) => by rw [e]; exact hob)
      have hln : (setL l i p').length = l.length := setL_len (by rw [hsz.out]; omega)
      go_wp2_with fail
      refine bodyPost_end (results_none rfl _ _ _) rfl ⟨⟨_, rfl⟩, ?_, hE⟩
      rw [hpp.out]
      rw [hk2.out, setK_all] at hO
      exact ⟨hbV, by rw [hln]; exact hO, hne, by rw [hln]; exact hn⟩
end Go.Proofs.Ytjkknjohmekeiaa
