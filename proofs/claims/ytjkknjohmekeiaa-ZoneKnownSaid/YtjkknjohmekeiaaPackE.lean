/- Texts of ours, one behind the other (BuddyC, BuddyD, BuddyF, NearB): each says in its own first lines what it proves. No condition. -/
import Derived.Test.YtjkknjohmekeiaaPackD
import Derived.Deep.CutRange
import Derived.Deep.CutBlock
/- Buddies in memory: lay. The block lies in the pages; its order lies between 0 and 10. -/
namespace Go.Proofs.Ytjkknjohmekeiaa
open Go.RowKit

theorem sz_mk (a c : Int) (o : Nat) : sz ⟨a, (o : Int), c⟩ = pw o := by unfold sz pw; simp

set_option maxRecDepth 100000 in
set_option maxHeartbeats 3200000 in
theorem lay117_spec (w : World) (bb base : Nat) (v : Value) (l : List T3) (h : BR w bb base v l) (i o : Nat) (ho : o ≤ 10) (hf : i + pw o ≤ l.length) (p : T3) :
    Calls Try.prog 117 #[.pointer (some ⟨bb, 0, none⟩), .agg #[.int .i64 i, .int .i64 o], .agg #[.int .i64 p.a, .int .i64 p.b, .int .i64 p.c]] w fun e w' =>
      (∃ u, e = .returned u) ∧ BR w' bb base v (setL l i ⟨p.a, o, p.c⟩) ∧ Ext (OwnOf v) w w' := by
  obtain ⟨a, cap, rfl, hlc, hcap⟩ := h.val
  have hn := h.n
  have hbl := h.b.lt
  have hpw := pw_pos o
  have hpl := pw_le ho
  have hil : i < l.length := by omega
  obtain ⟨z, hz⟩ : ∃ z, pw o = z := ⟨_, rfl⟩
  rw [hz] at hf hpw hpl
  have hz' := Lib.hid hz
  go_enter Try.func117, Try.ntmps117
  go_upto_region 2 with (fail)
  obtain ⟨A, hA⟩ : ∃ A, w.heap.size = A := ⟨_, rfl⟩
  obtain ⟨W, hW⟩ : ∃ W, (w.alloc (.cells #[.int .i64 i, .int .i64 o] 162)).alloc (.cells #[.int .i64 p.a, .int .i64 o, .int .i64 p.c] 98) = W := ⟨_, rfl⟩
  have hX : Ext No w W := by rw [← hW]; exact ((Ext.refl _ _).alloc _).alloc _
  have hB0 : Blk W A [.int .i64 i, .int .i64 o] 162 := by rw [← hW]; exact (Blk.new' hA.symm).alloc _
  have hB1 : Blk W (A + 1) [.int .i64 p.a, .int .i64 o, .int .i64 p.c] 98 := by rw [← hW]; exact Blk.new' (by simp [hA])
  rw [hW, hA]
  clear hW
  have hA1 : ¬ OwnOf (.slice a l.length cap) A := fun ho => by have := (h.p.lt A ho).2; omega
  have hA2 : ¬ OwnOf (.slice a l.length cap) (A + 1) := fun ho => by have := (h.p.lt (A + 1) ho).2; omega
  have h1 := h.extNo hX
  have hne := h.ne
  clear h hz
  obtain ⟨b, cp, e9, _, _, hob, hbw, hbb, ⟨y0, y1, y2⟩, hfr, hset⟩ := own3_at2 h1.p rfl (k := i) hil
  cases e9
  have bn : b ≠ A := fun e => hA1 (e ▸ hob)
  have bn2 : b ≠ A + 1 := fun e => hA2 (e ▸ hob)
  have bn3 : b ≠ bb := fun e => hne (e ▸ hob)
  have v0 := h1.b.cell' (i := 0) rfl
  have q0 := hB0.cell' (i := 0) rfl
  have q1 := hB0.cell' (i := 1) rfl
  have r0 := hB1.cell' (i := 0) rfl
  have r1 := hB1.cell' (i := 1) rfl
  have r2 := hB1.cell' (i := 2) rfl
  have f0 := hfr (i * 3)
  have f1 := hfr (i * 3 + 1)
  have f2 := hfr (i * 3 + 2)
  have hset' := Lib.hid (hset ⟨p.a, o, p.c⟩)
  clear hset hfr
  refine anyZ_begin 8 (fun w' => w'.cell? ⟨bb, 0, none⟩ = some (.slice (some ⟨b, 0, none⟩) l.length cap) ∧ w'.cell? ⟨A, 0, none⟩ = some (.int .i64 i) ∧ w'.cell? ⟨A + 1, 0, none⟩ = some (.int .i64 p.a) ∧ w'.cell? ⟨A + 1, 1, none⟩ = some (.int .i64 o) ∧ w'.cell? ⟨A + 1, 2, none⟩ = some (.int .i64 p.c)) (by kernel_rfl) ?_
  have hC : (fun w' : World => w'.cell? ⟨bb, 0, none⟩ = some (.slice (some ⟨b, 0, none⟩) l.length cap) ∧ w'.cell? ⟨A, 0, none⟩ = some (.int .i64 i) ∧ w'.cell? ⟨A + 1, 0, none⟩ = some (.int .i64 p.a) ∧ w'.cell? ⟨A + 1, 1, none⟩ = some (.int .i64 o) ∧ w'.cell? ⟨A + 1, 2, none⟩ = some (.int .i64 p.c)) W.drew := ⟨v0, q0, r0, r1, r2⟩
  have hi0 : (i : Int) < l.length := by omega
  refine anyZ_take 0 (v := ?_) rfl (by kernel_rfl) (by kernel_rfl) (by kernel_rfl) (by kernel_rfl) (fun _ _ _ h => h) hC (Or.inl ⟨by rfl, ?_⟩) ?_
  rotate_left
  · (intro wq hq; (try dsimp only at hq); go_simp; with_reducible rfl)
  simp only [Act.put, List.setIfInBounds_toArray, List.set_cons_zero, List.set_cons_succ]
  refine anyZ_take 1 (v := ?_) rfl (by kernel_rfl) (by kernel_rfl) (by kernel_rfl) (by kernel_rfl) (fun _ _ _ h => h) hC (Or.inl ⟨by rfl, ?_⟩) ?_
  rotate_left
  · (intro wq hq; (try dsimp only at hq); go_simp; with_reducible rfl)
  simp only [Act.put, List.setIfInBounds_toArray, List.set_cons_zero, List.set_cons_succ]
  refine anyZ_take 2 (v := ?_) rfl (by kernel_rfl) (by kernel_rfl) (by kernel_rfl) (by kernel_rfl) (fun _ _ _ h => h) hC (Or.inl ⟨by rfl, ?_⟩) ?_
  rotate_left
  · (intro wq hq; (try dsimp only at hq); go_simp; with_reducible rfl)
  simp only [Act.put, List.setIfInBounds_toArray, List.set_cons_zero, List.set_cons_succ]
  refine anyZ_take 3 (v := ?_) rfl (by kernel_rfl) (by kernel_rfl) (by kernel_rfl) (by kernel_rfl) (fun _ _ _ h => h) hC (Or.inl ⟨by rfl, ?_⟩) ?_
  rotate_left
  · (intro wq hq; (try dsimp only at hq); go_simp; with_reducible rfl)
  simp only [Act.put, List.setIfInBounds_toArray, List.set_cons_zero, List.set_cons_succ]
  refine anyZ_take 4 (v := ?_) rfl (by kernel_rfl) (by kernel_rfl) (by kernel_rfl) (by kernel_rfl) (fun _ _ _ h => h) hC (Or.inl ⟨by rfl, ?_⟩) ?_
  rotate_left
  · (intro wq hq; (try dsimp only at hq); go_simp; with_reducible rfl)
  simp only [Act.put, List.setIfInBounds_toArray, List.set_cons_zero, List.set_cons_succ]
  refine anyZ_take 5 (v := ?_) rfl (by kernel_rfl) (by kernel_rfl) (by kernel_rfl) (by kernel_rfl) (fun _ _ _ h => h) hC (Or.inl ⟨by rfl, ?_⟩) ?_
  rotate_left
  · (intro wq hq; (try dsimp only at hq); go_simp; with_reducible rfl)
  simp only [Act.put, List.setIfInBounds_toArray, List.set_cons_zero, List.set_cons_succ]
  refine anyZ_take 6 (v := ?_) rfl (by kernel_rfl) (by kernel_rfl) (by kernel_rfl) (by kernel_rfl) (fun _ _ _ h => h) hC (Or.inl ⟨by rfl, ?_⟩) ?_
  rotate_left
  · (intro wq hq; (try dsimp only at hq); go_simp; with_reducible rfl)
  simp only [Act.put, List.setIfInBounds_toArray, List.set_cons_zero, List.set_cons_succ]
  refine anyZ_take 7 (v := ?_) rfl (by kernel_rfl) (by kernel_rfl) (by kernel_rfl) (by kernel_rfl) (fun _ _ _ h => h) hC (Or.inl ⟨by rfl, ?_⟩) ?_
  rotate_left
  · (intro wq hq; (try dsimp only at hq); go_simp; with_reducible rfl)
  simp only [Act.put, List.setIfInBounds_toArray, List.set_cons_zero, List.set_cons_succ]
  clear hC
  refine anyZ_last rfl (by kernel_rfl) (fun K hK => ?_)
  go_simp
  refine hK _ _ ?_
  clear hK K
  try simp only [Act.put, List.setIfInBounds_toArray, List.set_cons_zero, List.set_cons_succ]
  refine anyZ_done (by kernel_rfl) ?_ _
  obtain ⟨p', hp'⟩ : ∃ p' : T3, (⟨p.a, o, p.c⟩ : T3) = p' := ⟨_, rfl⟩
  have hsz : Hid (sz p' = z) := by show _ = _; rw [← hp', sz_mk, hz'.out]
  have hpp := Lib.hid hp'
  have hst : Ext (One b) W (((W.setCell ⟨b, i * 3, none⟩ (.int .i64 p.a)).setCell ⟨b, i * 3 + 1, none⟩ (.int .i64 o)).setCell ⟨b, i * 3 + 2, none⟩ (.int .i64 p.c)) := Ext.set3 _ _ _ _ _ _ _ _
  have hO : (((W.setCell ⟨b, i * 3, none⟩ (.int .i64 p.a)).setCell ⟨b, i * 3 + 1, none⟩ (.int .i64 o)).setCell ⟨b, i * 3 + 2, none⟩ (.int .i64 p.c)).drew.ownsRow base 98 3 (.slice (some ⟨b, 0, none⟩) l.length cap) l.length (t3sCells (setK l i p' 0)) := by
    have h2 := hset'.out
    rw [← setK_zero hil, ← hp']
    exact ownsRow_ext h2 ((Ext.refl No _).drew) (fun _ _ => id)
  obtain ⟨V, hV⟩ : ∃ V, (((W.setCell ⟨b, i * 3, none⟩ (.int .i64 p.a)).setCell ⟨b, i * 3 + 1, none⟩ (.int .i64 o)).setCell ⟨b, i * 3 + 2, none⟩ (.int .i64 p.c)).drew = V := ⟨_, rfl⟩
  have hxV : Ext (One b) W V := by rw [← hV]; exact hst.drew
  rw [hV] at hO ⊢
  clear hV hset' hst hp' y0 y1 y2 f0 f1 f2 v0 q0 q1 r0 r1 r2 hB1
  have hAV := hB0.extOne hxV (Ne.symm bn)
  have hbV := h1.b.extOne hxV (Ne.symm bn3)
  have q0 := hAV.cell' (i := 0) rfl
  have q1 := hAV.cell' (i := 1) rfl
  go_wp2_with fail
  refine (size141_spec _ i o ho).mono ?_
  rintro e w2 ⟨rfl, hx2⟩
  rw [hz'.out]
  have hO := ownsRow_ext hO hx2 (fun _ _ => id)
  have hAV := hAV.extNo hx2
  have hbV := hbV.extNo hx2
  have hxV := hxV.transNo hx2
  clear q0 q1 hx2 h1 hB0
  go_wp2_with fail
  go_loopg [21] (z - 1) (fun g u wr => ∃ k : Nat, k + g = z - 1 ∧ u = .int .i64 k ∧ wr.ownsRow base 98 3 (.slice (some ⟨b, 0, none⟩) l.length cap) l.length (t3sCells (setK l i p' k)) ∧ Ext (One b) W wr ∧ Blk wr A [.int .i64 i, .int .i64 o] 162 ∧ Blk wr bb [.slice (some ⟨b, 0, none⟩) l.length cap] 126)
  case atStart => exact ⟨0, by omega, rfl, hO, hxV, hAV, hbV⟩
  case round =>
    clear hO hxV hAV hbV
    obtain ⟨k, hk, rfl, hO, hx, hAV, hbV⟩ := hrel
    have hk' := Lib.hid hk
    have hkn : k ≤ z - 1 := by omega
    clear hk
    by_cases hlt : k < z - 1
    · obtain ⟨b', oc', e9, _, _, _, _, _, ⟨y0, y1, y2⟩, f0, hset⟩ := own3_at2 hO (setK_len (by omega)) (k := i + 1 + k) (by omega)
      cases e9
      have v0 := hbV.cell' (i := 0) rfl
      have q0 := hAV.cell' (i := 0) rfl
      have f1 := f0 ((i + 1 + k) * 3)
      have f2 := f0 ((i + 1 + k) * 3 + 1)
      have f3 := f0 ((i + 1 + k) * 3 + 2)
      have hset1 := hset inside
      rw [setK_succ (by omega)] at hset1
      have hset1' := Lib.hid hset1
      have hst : Ext (One b) wr (((wr.setCell ⟨b, (i + 1 + k) * 3, none⟩ (.int .i64 1)).setCell ⟨b, (i + 1 + k) * 3 + 1, none⟩ (.int .i64 0)).setCell ⟨b, (i + 1 + k) * 3 + 2, none⟩ (.int .i64 0)).drew := (Ext.set3 _ _ _ _ _ _ _ _).drew
      have hst' := Lib.hid hst
      have hlt2 : (k : Int) < z - 1 := by omega
      clear f0 hset hset1 hst
      go_upto_region 6 with (fail)
      have hw1 : IntKind.i64.wrap ((i : Int) + 1) = (i : Int) + 1 := by rw [IntKind.wrap_i64]; omega
      have hw2 : IntKind.i64.wrap ((i : Int) + 1 + k) = (i : Int) + 1 + k := by rw [IntKind.wrap_i64]; omega
      have hb0 : (0 : Int) ≤ (i : Int) + 1 + k := by omega
      have hb1 : (i : Int) + 1 + k < l.length := by omega
      have hb2 : ((i : Int) + 1 + k).toNat = i + 1 + k := by omega
      refine anyZ_begin 11 (fun w' => w'.cell? ⟨bb, 0, none⟩ = some (.slice (some ⟨b, 0, none⟩) l.length cap) ∧ w'.cell? ⟨A, 0, none⟩ = some (.int .i64 i)) (by kernel_rfl) ?_
      have hC : (fun w' : World => w'.cell? ⟨bb, 0, none⟩ = some (.slice (some ⟨b, 0, none⟩) l.length cap) ∧ w'.cell? ⟨A, 0, none⟩ = some (.int .i64 i)) wr.drew := ⟨v0, q0⟩
      refine anyZ_take 0 (v := ?_) rfl (by kernel_rfl) (by kernel_rfl) (by kernel_rfl) (by kernel_rfl) (fun _ _ _ h => h) hC (Or.inl ⟨by rfl, ?_⟩) ?_
      rotate_left
      · (intro wq hq; (try dsimp only at hq); go_simp; with_reducible rfl)
      simp only [Act.put, List.setIfInBounds_toArray, List.set_cons_zero, List.set_cons_succ]
      refine anyZ_take 1 (v := ?_) rfl (by kernel_rfl) (by kernel_rfl) (by kernel_rfl) (by kernel_rfl) (fun _ _ _ h => h) hC (Or.inl ⟨by rfl, ?_⟩) ?_
      rotate_left
      · (intro wq hq; (try dsimp only at hq); go_simp; with_reducible rfl)
      simp only [Act.put, List.setIfInBounds_toArray, List.set_cons_zero, List.set_cons_succ]
      refine anyZ_take 2 (v := ?_) rfl (by kernel_rfl) (by kernel_rfl) (by kernel_rfl) (by kernel_rfl) (fun _ _ _ h => h) hC (Or.inl ⟨by rfl, ?_⟩) ?_
      rotate_left
      · (intro wq hq; (try dsimp only at hq); go_simp; with_reducible rfl)
      simp only [Act.put, List.setIfInBounds_toArray, List.set_cons_zero, List.set_cons_succ]
      refine anyZ_take 3 (v := ?_) rfl (by kernel_rfl) (by kernel_rfl) (by kernel_rfl) (by kernel_rfl) (fun _ _ _ h => h) hC (Or.inl ⟨by rfl, ?_⟩) ?_
      rotate_left
      · (intro wq hq; (try dsimp only at hq); go_simp; with_reducible rfl)
      simp only [Act.put, List.setIfInBounds_toArray, List.set_cons_zero, List.set_cons_succ]
      refine anyZ_take 4 (v := ?_) rfl (by kernel_rfl) (by kernel_rfl) (by kernel_rfl) (by kernel_rfl) (fun _ _ _ h => h) hC (Or.inl ⟨by rfl, ?_⟩) ?_
      rotate_left
      · (intro wq hq; (try dsimp only at hq); go_simp; with_reducible rfl)
      simp only [Act.put, List.setIfInBounds_toArray, List.set_cons_zero, List.set_cons_succ]
      refine anyZ_take 5 (v := ?_) rfl (by kernel_rfl) (by kernel_rfl) (by kernel_rfl) (by kernel_rfl) (fun _ _ _ h => h) hC (Or.inl ⟨by rfl, ?_⟩) ?_
      rotate_left
      · (intro wq hq; (try dsimp only at hq); go_simp; with_reducible rfl)
      simp only [Act.put, List.setIfInBounds_toArray, List.set_cons_zero, List.set_cons_succ]
      refine anyZ_take 6 (v := ?_) rfl (by kernel_rfl) (by kernel_rfl) (by kernel_rfl) (by kernel_rfl) (fun _ _ _ h => h) hC (Or.inl ⟨by rfl, ?_⟩) ?_
      rotate_left
      · (intro wq hq; (try dsimp only at hq); go_simp; with_reducible rfl)
      simp only [Act.put, List.setIfInBounds_toArray, List.set_cons_zero, List.set_cons_succ]
      refine anyZ_take 7 (v := ?_) rfl (by kernel_rfl) (by kernel_rfl) (by kernel_rfl) (by kernel_rfl) (fun _ _ _ h => h) hC (Or.inl ⟨by rfl, ?_⟩) ?_
      rotate_left
      · (intro wq hq; (try dsimp only at hq); go_simp; with_reducible rfl)
      simp only [Act.put, List.setIfInBounds_toArray, List.set_cons_zero, List.set_cons_succ]
      refine anyZ_take 8 (v := ?_) rfl (by kernel_rfl) (by kernel_rfl) (by kernel_rfl) (by kernel_rfl) (fun _ _ _ h => h) hC (Or.inl ⟨by rfl, ?_⟩) ?_
      rotate_left
      · (intro wq hq; (try dsimp only at hq); go_simp; with_reducible rfl)
      simp only [Act.put, List.setIfInBounds_toArray, List.set_cons_zero, List.set_cons_succ]
      refine anyZ_take 9 (v := ?_) rfl (by kernel_rfl) (by kernel_rfl) (by kernel_rfl) (by kernel_rfl) (fun _ _ _ h => h) hC (Or.inl ⟨by rfl, ?_⟩) ?_
      rotate_left
      · (intro wq hq; (try dsimp only at hq); go_simp; with_reducible rfl)
      simp only [Act.put, List.setIfInBounds_toArray, List.set_cons_zero, List.set_cons_succ]
      refine anyZ_take 10 (v := ?_) rfl (by kernel_rfl) (by kernel_rfl) (by kernel_rfl) (by kernel_rfl) (fun _ _ _ h => h) hC (Or.inl ⟨by rfl, ?_⟩) ?_
      rotate_left
      · (intro wq hq; (try dsimp only at hq); go_simp; with_reducible rfl)
      simp only [Act.put, List.setIfInBounds_toArray, List.set_cons_zero, List.set_cons_succ]
      clear hC
      refine anyZ_last rfl (by kernel_rfl) (fun K hK => ?_)
      go_simp
      refine hK _ _ ?_
      clear hK K
      try simp only [Act.put, List.setIfInBounds_toArray, List.set_cons_zero, List.set_cons_succ]
      refine anyZ_done (by kernel_rfl) ?_ _
      clear hw1 hw2 hb0 hb1 hb2 y0 y1 y2 f1 f2 f3 v0 q0
      have hAs := hAV.extOne hst'.out (Ne.symm bn)
      have hbs := hbV.extOne hst'.out (Ne.symm bn3)
      have hOs := ownsRow_ext hset1'.out ((Ext.refl No _).drew) (fun _ _ => id)
      have hxs := hx.transSame hst'.out
      go_wp2_with fail
      go_roundg (z - 1 - (k + 1))
      case measure => have := hk'.out; omega
      case rel => exact ⟨k + 1, by omega, by go_num, hOs, hxs, hAs, hbs⟩
    · have hk2 : Hid (k = sz p' - 1) := by show _ = _; rw [hsz.out]; omega
      have hge : (z : Int) - 1 ≤ k := by omega
      have hE : Ext (OwnOf (.slice (some ⟨b, 0, none⟩) l.length cap)) w wr := (hX.of_no).trans hx (fun x _ (e : x = b) => by rw [e]; exact hob)
      have hln : (setL l i p').length = l.length := setL_len (by rw [hsz.out]; omega)
      go_wp2_with fail
      refine bodyPost_end (results_none rfl _ _ _) rfl ⟨⟨_, rfl⟩, ?_, hE⟩
      rw [hpp.out]
      rw [hk2.out, setK_all] at hO
      exact ⟨hbV, by rw [hln]; exact hO, hne, by rw [hln]; exact hn⟩
end Go.Proofs.Ytjkknjohmekeiaa
/- Buddies in memory: whole. No condition. -/
namespace Go.Proofs.Ytjkknjohmekeiaa
open Go.RowKit

/-- May a block of an order begin here? -/
def okO (n i o : Nat) : Prop := i % pw o = 0 ∧ i + pw o ≤ n
instance (n i o : Nat) : Decidable (okO n i o) := by unfold okO; infer_instance
def gO (n i : Nat) : Nat → Nat
  | 0 => 0
  | o + 1 => if okO n i (o + 1) then o + 1 else gO n i o
/-- The greatest order of a block that may begin here. -/
def gOrd (n i : Nat) : Nat := gO n i 10
theorem gO_ok {n i o : Nat} (h : okO n i o) : gO n i o = o := by
  cases o with
  | zero => rfl
  | succ o => simp only [gO]; rw [if_pos h]
theorem gO_no {n i o : Nat} (h : ¬ okO n i (o + 1)) : gO n i (o + 1) = gO n i o := by
  simp only [gO]; rw [if_neg h]
theorem gO_le (n i : Nat) : ∀ o, gO n i o ≤ o
  | 0 => Nat.le_refl _
  | o + 1 => by simp only [gO]; split; exact Nat.le_refl _; have := gO_le n i o; omega
theorem gO_is {n i : Nat} (hi : i < n) : ∀ o, okO n i (gO n i o)
  | 0 => ⟨by simp [gO, pw, Nat.mod_one], by simp [gO, pw]; omega⟩
  | o + 1 => by simp only [gO]; split; assumption; exact gO_is hi o
theorem gOrd_is {n i : Nat} (hi : i < n) : okO n i (gOrd n i) := gO_is hi 10
theorem gOrd_le (n i : Nat) : gOrd n i ≤ 10 := gO_le n i 10

def wholeK : Nat → List T3 → Nat → List T3
  | 0, l, _ => l
  | f + 1, l, i => if i < l.length then wholeK f (setL l i ⟨0, gOrd l.length i, 0⟩) (i + pw (gOrd l.length i)) else l
/-- All pages from a place on laid as greatest free blocks. -/
def wholeW (l : List T3) (i : Nat) : List T3 := wholeK (l.length - i) l i
theorem wl_len {l : List T3} {i : Nat} (hi : i < l.length) : (setL l i ⟨0, gOrd l.length i, 0⟩).length = l.length := setL_len (by rw [sz_mk]; exact (gOrd_is hi).2)
theorem wholeK_ge : ∀ (f : Nat) (l : List T3) (i : Nat), l.length - i ≤ f → wholeK f l i = wholeK (l.length - i) l i
  | 0, l, i, h => by rw [show l.length - i = 0 by omega]
  | f + 1, l, i, h => by
    by_cases hi : i < l.length
    · obtain ⟨g, hg⟩ : ∃ g, l.length - i = g + 1 := ⟨l.length - i - 1, by omega⟩
      have hp := pw_pos (gOrd l.length i)
      have hl := wl_len hi
      rw [hg]
      simp only [wholeK]
      rw [if_pos hi, if_pos hi, wholeK_ge f _ _ (by rw [hl]; omega), wholeK_ge g _ _ (by rw [hl]; omega)]
    · rw [show l.length - i = 0 by omega]
      simp only [wholeK]
      rw [if_neg hi]
theorem wholeW_out {l : List T3} {i : Nat} (h : l.length ≤ i) : wholeW l i = l := by
  unfold wholeW; rw [show l.length - i = 0 by omega]; rfl
theorem wholeW_step {l : List T3} {i : Nat} (hi : i < l.length) : wholeW l i = wholeW (setL l i ⟨0, gOrd l.length i, 0⟩) (i + pw (gOrd l.length i)) := by
  have hp := pw_pos (gOrd l.length i)
  have hl := wl_len hi
  unfold wholeW
  obtain ⟨g, hg⟩ : ∃ g, l.length - i = g + 1 := ⟨l.length - i - 1, by omega⟩
  rw [hg]
  simp only [wholeK]
  rw [if_pos hi, wholeK_ge g _ _ (by rw [hl]; omega)]
theorem and_pw (i o : Nat) (hi : i < 4611686018427387904) (ho : o ≤ 10) : Go.bits .and .i64 (i : Int) ((pw o : Nat) - 1) = ((i % pw o : Nat) : Int) := by
  have h1 := pw_pos o
  have h2 := pw_le ho
  have e1 : (((pw o : Nat) : Int) - 1) = ((pw o - 1 : Nat) : Int) := by omega
  have e2 : i &&& (pw o - 1) = i % pw o := by unfold pw; exact Nat.and_two_pow_sub_one_eq_mod _ _
  have h3 : i % pw o < pw o := Nat.mod_lt _ (by omega)
  rw [e1, bits_and_i64 i (pw o - 1) hi (by omega) (by rw [e2]; omega), e2]

theorem none112_no (w : World) (bb base : Nat) (v : Value) (l : List T3) (h : BR w bb base v l) (h0 : 0 < l.length) :
    Calls Try.prog 112 #[.pointer (some ⟨bb, 0, none⟩)] w fun e w' => e = .returned (.bool false) ∧ w = w' := by
  obtain ⟨a, cap, rfl, hlc, hcap⟩ := h.val
  have c0 := h.b.cell' (i := 0) rfl
  have hz : ((l.length : Int) == 0) = false := by rw [beq_eq_false_iff_ne]; omega
  go_enter Try.func112, Try.ntmps112
  go_wp2_with fail
  go_ret
  exact ⟨rfl, rfl⟩

set_option maxRecDepth 100000 in
set_option maxHeartbeats 3200000 in
theorem whole113_spec (w : World) (bb base : Nat) (v : Value) (l : List T3) (h : BR w bb base v l) :
    Calls Try.prog 113 #[.pointer (some ⟨bb, 0, none⟩)] w fun e w' => (∃ u, e = .returned u) ∧ BR w' bb base v (wholeW l 0) ∧ Ext (OwnOf v) w w' := by
  obtain ⟨a, cap, rfl, hlc, hcap⟩ := h.val
  have hn := h.n
  have hbl := h.b.lt
  have hvlt : ∀ x, OwnOf (.slice a l.length cap) x → x < w.heap.size := fun x hx => (h.p.lt x hx).2
  obtain ⟨n, hnn⟩ : ∃ n, l.length = n := ⟨_, rfl⟩
  rw [hnn] at hlc hn hvlt h ⊢
  go_enter Try.func113, Try.ntmps113
  go_wp2_with fail
  go_loopg [2] n (fun g i wr => ∃ (k : Nat) (cur : List T3), n - k ≤ g ∧ k ≤ n ∧ i = .int .i64 k ∧ cur.length = n ∧ BR wr bb base (.slice a n cap) cur ∧ Ext (OwnOf (.slice a n cap)) w wr ∧ wholeW cur k = wholeW l 0)
  case atStart => exact ⟨0, l, by omega, by omega, rfl, hnn, h, Ext.refl _ _, rfl⟩
  case round =>
    clear h
    obtain ⟨k, cur, hk, hkn, rfl, hcl, hB, hx, hw⟩ := hrel
    have hk' := Lib.hid hk
    have hcl' := Lib.hid hcl
    have hw' := Lib.hid hw
    clear hk hw
    have b0 := hB.b.cell' (i := 0) rfl
    have hbl2 := hB.b.lt
    by_cases hlt : k < n
    · clear hcl
      go_upto_block 2 with (fail)
      obtain ⟨X, hX⟩ : ∃ X, wr.heap.size = X := ⟨_, rfl⟩
      have hxa : Ext No wr (wr.alloc (.cells #[.int .i64 k, .int .i64 10] 162)) := (Ext.refl _ _).alloc _
      have hXb : Blk (wr.alloc (.cells #[.int .i64 k, .int .i64 10] 162)) X [.int .i64 k, .int .i64 10] 162 := Blk.new' hX.symm
      have hB1 := hB.extNo hxa
      have hx1 := hx.transNo hxa
      have hXw : w.heap.size ≤ X := by have := hx.size; omega
      rw [hX]
      obtain ⟨W, hW⟩ : ∃ W, wr.alloc (.cells #[.int .i64 k, .int .i64 10] 162) = W := ⟨_, rfl⟩
      rw [hW] at hXb hB1 hx1 ⊢
      clear hW hxa hB hx b0 hX
      go_wp2_with fail
      go_loopg [30] 10 (fun g u wz => ∃ o : Nat, o ≤ g ∧ o ≤ 10 ∧ Blk wz X [.int .i64 k, .int .i64 o] 162 ∧ BR wz bb base (.slice a n cap) cur ∧ Ext (OwnOf (.slice a n cap)) w wz ∧ gO n k o = gOrd n k)
      case atStart => exact ⟨10, Nat.le_refl _, by omega, hXb, hB1, hx1, rfl⟩
      case round =>
        clear hXb hB1 hx1
        obtain ⟨o, hog, ho10, hXb, hBz, hxz, hg0⟩ := hrel
        obtain ⟨wz, hwz⟩ : ∃ wz, wr = wz := ⟨_, rfl⟩
        rw [hwz] at hXb hBz hxz ⊢
        clear hwz
        have hog' := Lib.hid hog
        have hg0' := Lib.hid hg0
        clear hog hg0
        have v0 := hBz.b.cell' (i := 0) rfl
        have q0 := hXb.cell' (i := 0) rfl
        have q1 := hXb.cell' (i := 1) rfl
        have z1 := pw_pos o
        have z2 := pw_le ho10
        have hm := and_pw k o (by omega) ho10
        obtain ⟨z, hz⟩ : ∃ z, pw o = z := ⟨_, rfl⟩
        rw [hz] at z1 z2 hm
        have hz' := Lib.hid hz
        clear hz
        have z3 : (1 : Int) ≤ z := by omega
        have z4 : (z : Int) ≤ 1024 := by omega
        have hw1 : IntKind.i64.wrap ((z : Int) - 1) = (z : Int) - 1 := by rw [IntKind.wrap_i64]; omega
        have hw2 : IntKind.i64.wrap ((k : Int) + z) = (k : Int) + z := by rw [IntKind.wrap_i64]; omega
        go_wp2_with fail
        by_cases g1 : k % z = 0
        · have hb1 : ((k : Int) % (z : Int) == 0) = true := by rw [beq_iff_eq]; omega
          have hb3 : ((k : Int) % (z : Int) != 0) = false := by rw [bne, hb1]; rfl
          by_cases g2 : k + z ≤ n
          · have hd : decide ((n : Int) < (k : Int) + z) = false := decide_eq_false (by omega)
            have hok : okO n k o := by unfold okO; rw [hz'.out]; exact ⟨g1, g2⟩
            have hgo : Hid (o = gOrd n k) := by show _ = _; rw [← hg0'.out, gO_ok hok]
            clear g1 hok
            have hxd : Ext No wz wz.drew := (Ext.refl No wz).drew
            refine anyZ_begin 18 (fun w' => w'.cell? ⟨X, 0, none⟩ = some (.int .i64 k) ∧ w'.cell? ⟨X, 1, none⟩ = some (.int .i64 o) ∧ w'.cell? ⟨bb, 0, none⟩ = some (.slice a n cap)) (by kernel_rfl) ?_
            have hC : (fun w' : World => w'.cell? ⟨X, 0, none⟩ = some (.int .i64 k) ∧ w'.cell? ⟨X, 1, none⟩ = some (.int .i64 o) ∧ w'.cell? ⟨bb, 0, none⟩ = some (.slice a n cap)) wz.drew := ⟨q0, q1, v0⟩
            refine anyZ_take 0 (v := ?_) rfl (by kernel_rfl) (by kernel_rfl) (by kernel_rfl) (by kernel_rfl) (fun _ _ _ h => h) hC (Or.inl ⟨by rfl, ?_⟩) ?_
            rotate_left
            · (intro wq hq; (try dsimp only at hq); go_simp; with_reducible rfl)
            simp only [Act.put, List.setIfInBounds_toArray, List.set_cons_zero, List.set_cons_succ]
            refine anyZ_take 1 (v := ?_) rfl (by kernel_rfl) (by kernel_rfl) (by kernel_rfl) (by kernel_rfl) (fun _ _ _ h => h) hC (Or.inl ⟨by rfl, ?_⟩) ?_
            rotate_left
            · (intro wq hq; (try dsimp only at hq); go_simp; with_reducible rfl)
            simp only [Act.put, List.setIfInBounds_toArray, List.set_cons_zero, List.set_cons_succ]
            refine anyZ_step 2 rfl (by kernel_rfl) (fun K hK => ?_)
            go_simp
            refine (size141_spec _ k o (by omega)).mono ?_
            rintro e w2 ⟨rfl, hx2⟩
            rw [hz'.out]
            have hX2 := hxd.transNo hx2
            have hC2 : (fun w' : World => w'.cell? ⟨X, 0, none⟩ = some (.int .i64 k) ∧ w'.cell? ⟨X, 1, none⟩ = some (.int .i64 o) ∧ w'.cell? ⟨bb, 0, none⟩ = some (.slice a n cap)) w2 := ⟨hX2.cell q0 id, hX2.cell q1 id, hX2.cell v0 id⟩
            refine hK _ _ hC2 ?_
            clear hK K
            try simp only [Act.put, List.setIfInBounds_toArray, List.set_cons_zero, List.set_cons_succ]
            refine anyZ_take 3 (v := ?_) rfl (by kernel_rfl) (by kernel_rfl) (by kernel_rfl) (by kernel_rfl) (fun _ _ _ h => h) hC2 (Or.inl ⟨by rfl, ?_⟩) ?_
            rotate_left
            · (intro wq hq; (try dsimp only at hq); go_simp; with_reducible rfl)
            simp only [Act.put, List.setIfInBounds_toArray, List.set_cons_zero, List.set_cons_succ]
            refine anyZ_take 4 (v := ?_) rfl (by kernel_rfl) (by kernel_rfl) (by kernel_rfl) (by kernel_rfl) (fun _ _ _ h => h) hC2 (Or.inl ⟨by rfl, ?_⟩) ?_
            rotate_left
            · (intro wq hq; (try dsimp only at hq); go_simp; with_reducible rfl)
            simp only [Act.put, List.setIfInBounds_toArray, List.set_cons_zero, List.set_cons_succ]
            refine anyZ_take 5 (v := ?_) rfl (by kernel_rfl) (by kernel_rfl) (by kernel_rfl) (by kernel_rfl) (fun _ _ _ h => h) hC2 (Or.inl ⟨by rfl, ?_⟩) ?_
            rotate_left
            · (intro wq hq; (try dsimp only at hq); go_simp; with_reducible rfl)
            simp only [Act.put, List.setIfInBounds_toArray, List.set_cons_zero, List.set_cons_succ]
            refine anyZ_take 6 (v := ?_) rfl (by kernel_rfl) (by kernel_rfl) (by kernel_rfl) (by kernel_rfl) (fun _ _ _ h => h) hC2 (Or.inl ⟨by rfl, ?_⟩) ?_
            rotate_left
            · (intro wq hq; (try dsimp only at hq); go_simp; with_reducible rfl)
            simp only [Act.put, List.setIfInBounds_toArray, List.set_cons_zero, List.set_cons_succ]
            refine anyZ_take 7 (v := ?_) rfl (by kernel_rfl) (by kernel_rfl) (by kernel_rfl) (by kernel_rfl) (fun _ _ _ h => h) hC2 (Or.inl ⟨by rfl, ?_⟩) ?_
            rotate_left
            · (intro wq hq; (try dsimp only at hq); go_simp; with_reducible rfl)
            simp only [Act.put, List.setIfInBounds_toArray, List.set_cons_zero, List.set_cons_succ]
            refine anyZ_take 8 (v := ?_) rfl (by kernel_rfl) (by kernel_rfl) (by kernel_rfl) (by kernel_rfl) (fun _ _ _ h => h) hC2 (Or.inl ⟨by rfl, ?_⟩) ?_
            rotate_left
            · (intro wq hq; (try dsimp only at hq); go_simp; with_reducible rfl)
            simp only [Act.put, List.setIfInBounds_toArray, List.set_cons_zero, List.set_cons_succ]
            refine anyZ_take 11 (v := ?_) rfl (by kernel_rfl) (by kernel_rfl) (by kernel_rfl) (by kernel_rfl) (fun _ _ _ h => h) hC2 (Or.inl ⟨by rfl, ?_⟩) ?_
            rotate_left
            · (intro wq hq; (try dsimp only at hq); go_simp; with_reducible rfl)
            simp only [Act.put, List.setIfInBounds_toArray, List.set_cons_zero, List.set_cons_succ]
            refine anyZ_take 12 (v := ?_) rfl (by kernel_rfl) (by kernel_rfl) (by kernel_rfl) (by kernel_rfl) (fun _ _ _ h => h) hC2 (Or.inl ⟨by rfl, ?_⟩) ?_
            rotate_left
            · (intro wq hq; (try dsimp only at hq); go_simp; with_reducible rfl)
            simp only [Act.put, List.setIfInBounds_toArray, List.set_cons_zero, List.set_cons_succ]
            refine anyZ_take 13 (v := ?_) rfl (by kernel_rfl) (by kernel_rfl) (by kernel_rfl) (by kernel_rfl) (fun _ _ _ h => h) hC2 (Or.inl ⟨by rfl, ?_⟩) ?_
            rotate_left
            · (intro wq hq; (try dsimp only at hq); go_simp; with_reducible rfl)
            simp only [Act.put, List.setIfInBounds_toArray, List.set_cons_zero, List.set_cons_succ]
            refine anyZ_take 14 (v := ?_) rfl (by kernel_rfl) (by kernel_rfl) (by kernel_rfl) (by kernel_rfl) (fun _ _ _ h => h) hC2 (Or.inl ⟨by rfl, ?_⟩) ?_
            rotate_left
            · (intro wq hq; (try dsimp only at hq); go_simp; with_reducible rfl)
            simp only [Act.put, List.setIfInBounds_toArray, List.set_cons_zero, List.set_cons_succ]
            refine anyZ_take 15 (v := ?_) rfl (by kernel_rfl) (by kernel_rfl) (by kernel_rfl) (by kernel_rfl) (fun _ _ _ h => h) hC2 (Or.inl ⟨by rfl, ?_⟩) ?_
            rotate_left
            · (intro wq hq; (try dsimp only at hq); go_simp; with_reducible rfl)
            simp only [Act.put, List.setIfInBounds_toArray, List.set_cons_zero, List.set_cons_succ]
            refine anyZ_step 9 rfl (by kernel_rfl) (fun K hK => ?_)
            go_simp
            refine (size141_spec _ k o (by omega)).mono ?_
            rintro e w3 ⟨rfl, hx3⟩
            rw [hz'.out]
            have hX3 := hX2.transNo hx3
            have hC3 : (fun w' : World => w'.cell? ⟨X, 0, none⟩ = some (.int .i64 k) ∧ w'.cell? ⟨X, 1, none⟩ = some (.int .i64 o) ∧ w'.cell? ⟨bb, 0, none⟩ = some (.slice a n cap)) w3 := ⟨hX3.cell q0 id, hX3.cell q1 id, hX3.cell v0 id⟩
            refine hK _ _ hC3 ?_
            clear hK K
            try simp only [Act.put, List.setIfInBounds_toArray, List.set_cons_zero, List.set_cons_succ]
            refine anyZ_take 10 (v := ?_) rfl (by kernel_rfl) (by kernel_rfl) (by kernel_rfl) (by kernel_rfl) (fun _ _ _ h => h) hC3 (Or.inl ⟨by rfl, ?_⟩) ?_
            rotate_left
            · (intro wq hq; (try dsimp only at hq); go_simp; with_reducible rfl)
            simp only [Act.put, List.setIfInBounds_toArray, List.set_cons_zero, List.set_cons_succ]
            refine anyZ_take 16 (v := ?_) rfl (by kernel_rfl) (by kernel_rfl) (by kernel_rfl) (by kernel_rfl) (fun _ _ _ h => h) hC3 (Or.inl ⟨by rfl, ?_⟩) ?_
            rotate_left
            · (intro wq hq; (try dsimp only at hq); go_simp; with_reducible rfl)
            simp only [Act.put, List.setIfInBounds_toArray, List.set_cons_zero, List.set_cons_succ]
            refine anyZ_take 17 (v := ?_) rfl (by kernel_rfl) (by kernel_rfl) (by kernel_rfl) (by kernel_rfl) (fun _ _ _ h => h) hC3 (Or.inl ⟨by rfl, ?_⟩) ?_
            rotate_left
            · (intro wq hq; (try dsimp only at hq); go_simp; with_reducible rfl)
            simp only [Act.put, List.setIfInBounds_toArray, List.set_cons_zero, List.set_cons_succ]
            refine anyZ_done (by kernel_rfl) ?_ _
            clear hC hC2 hC3 hw1 hw2
            have hX3b := hXb.extNo hX3
            have s0 := hX3b.cell' (i := 0) rfl
            have s1 := hX3b.cell' (i := 1) rfl
            clear q0 q1 v0 hxd
            go_wp2_with fail
            refine (lay117_spec w3 bb base _ cur (hBz.extNo hX3) k o ho10 (by rw [hcl'.out, hz'.out]; exact g2) ⟨0, 0, 0⟩).mono ?_
            rintro e w4 ⟨⟨u4, rfl⟩, hB4, hx4⟩
            have hX4 := hX3b.ext hx4 (fun ho => by have := hvlt X ho; omega)
            clear s0 s1
            have s0 := hX4.cell' (i := 0) rfl
            have s1 := hX4.cell' (i := 1) rfl
            go_wp2_with fail
            refine (size141_spec _ k o ho10).mono ?_
            rintro e w5 ⟨rfl, hx5⟩
            rw [hz'.out]
            have hst : Hid (wholeW (setL cur k ⟨0, o, 0⟩) (k + z) = wholeW l 0) := by
              show _ = _
              rw [← hw'.out, wholeW_step (l := cur) (i := k) (by rw [hcl'.out]; exact hlt), hcl'.out, ← hgo.out, hz'.out]
            have hcs : Hid ((setL cur k ⟨0, o, 0⟩).length = n) := by show _ = _; rw [setL_len (l := cur) (i := k) (p := ⟨0, o, 0⟩) (by rw [sz_mk, hz'.out, hcl'.out]; exact g2)]; exact hcl'.out
            have hB5 := hB4.extNo hx5
            have hx5' := ((hxz.transNo hX3).transSame hx4).transNo hx5
            clear s0 s1 hB4 hx4 hx5
            go_wp2_with fail
            go_roundg (n - (k + z))
            case measure => have := hk'.out; omega
            case rel => exact ⟨k + z, _, by omega, g2, by go_num, hcs.out, hB5, hx5', hst.out⟩
          · have hd : decide ((n : Int) < (k : Int) + z) = true := decide_eq_true (by omega)
            have hno : ¬ okO n k o := by unfold okO; rw [hz'.out]; exact fun h => g2 h.2
            have ho0 : 0 < o := by
              rcases Nat.eq_zero_or_pos o with h0 | h0
              · subst h0
                have : z = 1 := by rw [← hz'.out]; rfl
                omega
              · exact h0
            have hgn : Hid (gO n k (o - 1) = gOrd n k) := by
              show _ = _
              have := hg0'.out
              obtain ⟨m, rfl⟩ : ∃ m, o = m + 1 := ⟨o - 1, by omega⟩
              rw [gO_no hno] at this; exact this
            clear g1 hno
            have hxd : Ext No wz wz.drew := (Ext.refl No wz).drew
            refine anyZ_begin 18 (fun w' => w'.cell? ⟨X, 0, none⟩ = some (.int .i64 k) ∧ w'.cell? ⟨X, 1, none⟩ = some (.int .i64 o) ∧ w'.cell? ⟨bb, 0, none⟩ = some (.slice a n cap)) (by kernel_rfl) ?_
            have hC : (fun w' : World => w'.cell? ⟨X, 0, none⟩ = some (.int .i64 k) ∧ w'.cell? ⟨X, 1, none⟩ = some (.int .i64 o) ∧ w'.cell? ⟨bb, 0, none⟩ = some (.slice a n cap)) wz.drew := ⟨q0, q1, v0⟩
            refine anyZ_take 0 (v := ?_) rfl (by kernel_rfl) (by kernel_rfl) (by kernel_rfl) (by kernel_rfl) (fun _ _ _ h => h) hC (Or.inl ⟨by rfl, ?_⟩) ?_
            rotate_left
            · (intro wq hq; (try dsimp only at hq); go_simp; with_reducible rfl)
            simp only [Act.put, List.setIfInBounds_toArray, List.set_cons_zero, List.set_cons_succ]
            refine anyZ_take 1 (v := ?_) rfl (by kernel_rfl) (by kernel_rfl) (by kernel_rfl) (by kernel_rfl) (fun _ _ _ h => h) hC (Or.inl ⟨by rfl, ?_⟩) ?_
            rotate_left
            · (intro wq hq; (try dsimp only at hq); go_simp; with_reducible rfl)
            simp only [Act.put, List.setIfInBounds_toArray, List.set_cons_zero, List.set_cons_succ]
            refine anyZ_step 2 rfl (by kernel_rfl) (fun K hK => ?_)
            go_simp
            refine (size141_spec _ k o (by omega)).mono ?_
            rintro e w2 ⟨rfl, hx2⟩
            rw [hz'.out]
            have hX2 := hxd.transNo hx2
            have hC2 : (fun w' : World => w'.cell? ⟨X, 0, none⟩ = some (.int .i64 k) ∧ w'.cell? ⟨X, 1, none⟩ = some (.int .i64 o) ∧ w'.cell? ⟨bb, 0, none⟩ = some (.slice a n cap)) w2 := ⟨hX2.cell q0 id, hX2.cell q1 id, hX2.cell v0 id⟩
            refine hK _ _ hC2 ?_
            clear hK K
            try simp only [Act.put, List.setIfInBounds_toArray, List.set_cons_zero, List.set_cons_succ]
            refine anyZ_take 3 (v := ?_) rfl (by kernel_rfl) (by kernel_rfl) (by kernel_rfl) (by kernel_rfl) (fun _ _ _ h => h) hC2 (Or.inl ⟨by rfl, ?_⟩) ?_
            rotate_left
            · (intro wq hq; (try dsimp only at hq); go_simp; with_reducible rfl)
            simp only [Act.put, List.setIfInBounds_toArray, List.set_cons_zero, List.set_cons_succ]
            refine anyZ_take 4 (v := ?_) rfl (by kernel_rfl) (by kernel_rfl) (by kernel_rfl) (by kernel_rfl) (fun _ _ _ h => h) hC2 (Or.inl ⟨by rfl, ?_⟩) ?_
            rotate_left
            · (intro wq hq; (try dsimp only at hq); go_simp; with_reducible rfl)
            simp only [Act.put, List.setIfInBounds_toArray, List.set_cons_zero, List.set_cons_succ]
            refine anyZ_take 5 (v := ?_) rfl (by kernel_rfl) (by kernel_rfl) (by kernel_rfl) (by kernel_rfl) (fun _ _ _ h => h) hC2 (Or.inl ⟨by rfl, ?_⟩) ?_
            rotate_left
            · (intro wq hq; (try dsimp only at hq); go_simp; with_reducible rfl)
            simp only [Act.put, List.setIfInBounds_toArray, List.set_cons_zero, List.set_cons_succ]
            refine anyZ_take 6 (v := ?_) rfl (by kernel_rfl) (by kernel_rfl) (by kernel_rfl) (by kernel_rfl) (fun _ _ _ h => h) hC2 (Or.inl ⟨by rfl, ?_⟩) ?_
            rotate_left
            · (intro wq hq; (try dsimp only at hq); go_simp; with_reducible rfl)
            simp only [Act.put, List.setIfInBounds_toArray, List.set_cons_zero, List.set_cons_succ]
            refine anyZ_take 7 (v := ?_) rfl (by kernel_rfl) (by kernel_rfl) (by kernel_rfl) (by kernel_rfl) (fun _ _ _ h => h) hC2 (Or.inl ⟨by rfl, ?_⟩) ?_
            rotate_left
            · (intro wq hq; (try dsimp only at hq); go_simp; with_reducible rfl)
            simp only [Act.put, List.setIfInBounds_toArray, List.set_cons_zero, List.set_cons_succ]
            refine anyZ_take 8 (v := ?_) rfl (by kernel_rfl) (by kernel_rfl) (by kernel_rfl) (by kernel_rfl) (fun _ _ _ h => h) hC2 (Or.inl ⟨by rfl, ?_⟩) ?_
            rotate_left
            · (intro wq hq; (try dsimp only at hq); go_simp; with_reducible rfl)
            simp only [Act.put, List.setIfInBounds_toArray, List.set_cons_zero, List.set_cons_succ]
            refine anyZ_take 11 (v := ?_) rfl (by kernel_rfl) (by kernel_rfl) (by kernel_rfl) (by kernel_rfl) (fun _ _ _ h => h) hC2 (Or.inl ⟨by rfl, ?_⟩) ?_
            rotate_left
            · (intro wq hq; (try dsimp only at hq); go_simp; with_reducible rfl)
            simp only [Act.put, List.setIfInBounds_toArray, List.set_cons_zero, List.set_cons_succ]
            refine anyZ_take 12 (v := ?_) rfl (by kernel_rfl) (by kernel_rfl) (by kernel_rfl) (by kernel_rfl) (fun _ _ _ h => h) hC2 (Or.inl ⟨by rfl, ?_⟩) ?_
            rotate_left
            · (intro wq hq; (try dsimp only at hq); go_simp; with_reducible rfl)
            simp only [Act.put, List.setIfInBounds_toArray, List.set_cons_zero, List.set_cons_succ]
            refine anyZ_take 13 (v := ?_) rfl (by kernel_rfl) (by kernel_rfl) (by kernel_rfl) (by kernel_rfl) (fun _ _ _ h => h) hC2 (Or.inl ⟨by rfl, ?_⟩) ?_
            rotate_left
            · (intro wq hq; (try dsimp only at hq); go_simp; with_reducible rfl)
            simp only [Act.put, List.setIfInBounds_toArray, List.set_cons_zero, List.set_cons_succ]
            refine anyZ_take 14 (v := ?_) rfl (by kernel_rfl) (by kernel_rfl) (by kernel_rfl) (by kernel_rfl) (fun _ _ _ h => h) hC2 (Or.inl ⟨by rfl, ?_⟩) ?_
            rotate_left
            · (intro wq hq; (try dsimp only at hq); go_simp; with_reducible rfl)
            simp only [Act.put, List.setIfInBounds_toArray, List.set_cons_zero, List.set_cons_succ]
            refine anyZ_take 15 (v := ?_) rfl (by kernel_rfl) (by kernel_rfl) (by kernel_rfl) (by kernel_rfl) (fun _ _ _ h => h) hC2 (Or.inl ⟨by rfl, ?_⟩) ?_
            rotate_left
            · (intro wq hq; (try dsimp only at hq); go_simp; with_reducible rfl)
            simp only [Act.put, List.setIfInBounds_toArray, List.set_cons_zero, List.set_cons_succ]
            refine anyZ_step 9 rfl (by kernel_rfl) (fun K hK => ?_)
            go_simp
            refine (size141_spec _ k o (by omega)).mono ?_
            rintro e w3 ⟨rfl, hx3⟩
            rw [hz'.out]
            have hX3 := hX2.transNo hx3
            have hC3 : (fun w' : World => w'.cell? ⟨X, 0, none⟩ = some (.int .i64 k) ∧ w'.cell? ⟨X, 1, none⟩ = some (.int .i64 o) ∧ w'.cell? ⟨bb, 0, none⟩ = some (.slice a n cap)) w3 := ⟨hX3.cell q0 id, hX3.cell q1 id, hX3.cell v0 id⟩
            refine hK _ _ hC3 ?_
            clear hK K
            try simp only [Act.put, List.setIfInBounds_toArray, List.set_cons_zero, List.set_cons_succ]
            refine anyZ_take 10 (v := ?_) rfl (by kernel_rfl) (by kernel_rfl) (by kernel_rfl) (by kernel_rfl) (fun _ _ _ h => h) hC3 (Or.inl ⟨by rfl, ?_⟩) ?_
            rotate_left
            · (intro wq hq; (try dsimp only at hq); go_simp; with_reducible rfl)
            simp only [Act.put, List.setIfInBounds_toArray, List.set_cons_zero, List.set_cons_succ]
            refine anyZ_take 16 (v := ?_) rfl (by kernel_rfl) (by kernel_rfl) (by kernel_rfl) (by kernel_rfl) (fun _ _ _ h => h) hC3 (Or.inl ⟨by rfl, ?_⟩) ?_
            rotate_left
            · (intro wq hq; (try dsimp only at hq); go_simp; with_reducible rfl)
            simp only [Act.put, List.setIfInBounds_toArray, List.set_cons_zero, List.set_cons_succ]
            refine anyZ_take 17 (v := ?_) rfl (by kernel_rfl) (by kernel_rfl) (by kernel_rfl) (by kernel_rfl) (fun _ _ _ h => h) hC3 (Or.inl ⟨by rfl, ?_⟩) ?_
            rotate_left
            · (intro wq hq; (try dsimp only at hq); go_simp; with_reducible rfl)
            simp only [Act.put, List.setIfInBounds_toArray, List.set_cons_zero, List.set_cons_succ]
            refine anyZ_done (by kernel_rfl) ?_ _
            clear hC hC2 hC3 hw1 hw2
            have hXs := hXb.extNo hX3
            have s1 := hXs.cell' (i := 1) rfl
            have t1 := hXs.frozen 1
            have hXs2 := Lib.hid (hXs.set 1 (.int .i64 ((o - 1 : Nat) : Int)))
            have ho1 : ((o : Int) - 1) = ((o - 1 : Nat) : Int) := by omega
            have hset : Ext (One X) w3 (w3.setCell ⟨X, 1, none⟩ (.int .i64 ((o - 1 : Nat) : Int))) := Ext.set1 _ _ _ _
            have hBs := (hBz.extNo hX3).ext hset (fun e : bb = X => by omega) (fun x hx' (e : x = X) => by have := hvlt x hx'; omega)
            have hxs := (hxz.transNo hX3).trans hset (fun x hx' (e : x = X) => by omega)
            clear q0 q1 v0 hxd hset
            go_wp2_with fail
            go_roundg (o - 1)
            case measure => have := hog'.out; omega
            case rel => exact ⟨o - 1, Nat.le_refl _, by omega, hXs2.out, hBs, hxs, hgn.out⟩
        · have hb1 : ((k : Int) % (z : Int) == 0) = false := by rw [beq_eq_false_iff_ne]; omega
          have hb3 : ((k : Int) % (z : Int) != 0) = true := by rw [bne, hb1]; rfl
          have hno : ¬ okO n k o := by unfold okO; rw [hz'.out]; exact fun h => g1 h.1
          have ho0 : 0 < o := by
            rcases Nat.eq_zero_or_pos o with h0 | h0
            · subst h0
              have : z = 1 := by rw [← hz'.out]; rfl
              subst this
              exact absurd (Nat.mod_one k) g1
            · exact h0
          have hgn : Hid (gO n k (o - 1) = gOrd n k) := by
            show _ = _
            have := hg0'.out
            obtain ⟨m, rfl⟩ : ∃ m, o = m + 1 := ⟨o - 1, by omega⟩
            rw [gO_no hno] at this; exact this
          clear g1 hno
          have hxd : Ext No wz wz.drew := (Ext.refl No wz).drew
          refine anyZ_begin 18 (fun w' => w'.cell? ⟨X, 0, none⟩ = some (.int .i64 k) ∧ w'.cell? ⟨X, 1, none⟩ = some (.int .i64 o) ∧ w'.cell? ⟨bb, 0, none⟩ = some (.slice a n cap)) (by kernel_rfl) ?_
          have hC : (fun w' : World => w'.cell? ⟨X, 0, none⟩ = some (.int .i64 k) ∧ w'.cell? ⟨X, 1, none⟩ = some (.int .i64 o) ∧ w'.cell? ⟨bb, 0, none⟩ = some (.slice a n cap)) wz.drew := ⟨q0, q1, v0⟩
          refine anyZ_take 0 (v := ?_) rfl (by kernel_rfl) (by kernel_rfl) (by kernel_rfl) (by kernel_rfl) (fun _ _ _ h => h) hC (Or.inl ⟨by rfl, ?_⟩) ?_
          rotate_left
          · (intro wq hq; (try dsimp only at hq); go_simp; with_reducible rfl)
          simp only [Act.put, List.setIfInBounds_toArray, List.set_cons_zero, List.set_cons_succ]
          refine anyZ_take 1 (v := ?_) rfl (by kernel_rfl) (by kernel_rfl) (by kernel_rfl) (by kernel_rfl) (fun _ _ _ h => h) hC (Or.inl ⟨by rfl, ?_⟩) ?_
          rotate_left
          · (intro wq hq; (try dsimp only at hq); go_simp; with_reducible rfl)
          simp only [Act.put, List.setIfInBounds_toArray, List.set_cons_zero, List.set_cons_succ]
          refine anyZ_step 2 rfl (by kernel_rfl) (fun K hK => ?_)
          go_simp
          refine (size141_spec _ k o (by omega)).mono ?_
          rintro e w2 ⟨rfl, hx2⟩
          rw [hz'.out]
          have hX2 := hxd.transNo hx2
          have hC2 : (fun w' : World => w'.cell? ⟨X, 0, none⟩ = some (.int .i64 k) ∧ w'.cell? ⟨X, 1, none⟩ = some (.int .i64 o) ∧ w'.cell? ⟨bb, 0, none⟩ = some (.slice a n cap)) w2 := ⟨hX2.cell q0 id, hX2.cell q1 id, hX2.cell v0 id⟩
          refine hK _ _ hC2 ?_
          clear hK K
          try simp only [Act.put, List.setIfInBounds_toArray, List.set_cons_zero, List.set_cons_succ]
          refine anyZ_take 3 (v := ?_) rfl (by kernel_rfl) (by kernel_rfl) (by kernel_rfl) (by kernel_rfl) (fun _ _ _ h => h) hC2 (Or.inl ⟨by rfl, ?_⟩) ?_
          rotate_left
          · (intro wq hq; (try dsimp only at hq); go_simp; with_reducible rfl)
          simp only [Act.put, List.setIfInBounds_toArray, List.set_cons_zero, List.set_cons_succ]
          refine anyZ_take 4 (v := ?_) rfl (by kernel_rfl) (by kernel_rfl) (by kernel_rfl) (by kernel_rfl) (fun _ _ _ h => h) hC2 (Or.inl ⟨by rfl, ?_⟩) ?_
          rotate_left
          · (intro wq hq; (try dsimp only at hq); go_simp; with_reducible rfl)
          simp only [Act.put, List.setIfInBounds_toArray, List.set_cons_zero, List.set_cons_succ]
          refine anyZ_take 5 (v := ?_) rfl (by kernel_rfl) (by kernel_rfl) (by kernel_rfl) (by kernel_rfl) (fun _ _ _ h => h) hC2 (Or.inl ⟨by rfl, ?_⟩) ?_
          rotate_left
          · (intro wq hq; (try dsimp only at hq); go_simp; with_reducible rfl)
          simp only [Act.put, List.setIfInBounds_toArray, List.set_cons_zero, List.set_cons_succ]
          refine anyZ_take 6 (v := ?_) rfl (by kernel_rfl) (by kernel_rfl) (by kernel_rfl) (by kernel_rfl) (fun _ _ _ h => h) hC2 (Or.inl ⟨by rfl, ?_⟩) ?_
          rotate_left
          · (intro wq hq; (try dsimp only at hq); go_simp; with_reducible rfl)
          simp only [Act.put, List.setIfInBounds_toArray, List.set_cons_zero, List.set_cons_succ]
          refine anyZ_take 7 (v := undef) rfl (by kernel_rfl) (by kernel_rfl) (by kernel_rfl) (by kernel_rfl) (fun _ _ _ h => h) hC2 (Or.inr ⟨by rfl, rfl⟩) ?_
          simp only [Act.put, List.setIfInBounds_toArray, List.set_cons_zero, List.set_cons_succ]
          refine anyZ_take 8 (v := undef) rfl (by kernel_rfl) (by kernel_rfl) (by kernel_rfl) (by kernel_rfl) (fun _ _ _ h => h) hC2 (Or.inr ⟨by rfl, rfl⟩) ?_
          simp only [Act.put, List.setIfInBounds_toArray, List.set_cons_zero, List.set_cons_succ]
          refine anyZ_take 9 (v := undef) rfl (by kernel_rfl) (by kernel_rfl) (by kernel_rfl) (by kernel_rfl) (fun _ _ _ h => h) hC2 (Or.inr ⟨by rfl, rfl⟩) ?_
          simp only [Act.put, List.setIfInBounds_toArray, List.set_cons_zero, List.set_cons_succ]
          refine anyZ_take 10 (v := undef) rfl (by kernel_rfl) (by kernel_rfl) (by kernel_rfl) (by kernel_rfl) (fun _ _ _ h => h) hC2 (Or.inr ⟨by rfl, rfl⟩) ?_
          simp only [Act.put, List.setIfInBounds_toArray, List.set_cons_zero, List.set_cons_succ]
          refine anyZ_take 11 (v := undef) rfl (by kernel_rfl) (by kernel_rfl) (by kernel_rfl) (by kernel_rfl) (fun _ _ _ h => h) hC2 (Or.inr ⟨by rfl, rfl⟩) ?_
          simp only [Act.put, List.setIfInBounds_toArray, List.set_cons_zero, List.set_cons_succ]
          refine anyZ_take 12 (v := undef) rfl (by kernel_rfl) (by kernel_rfl) (by kernel_rfl) (by kernel_rfl) (fun _ _ _ h => h) hC2 (Or.inr ⟨by rfl, rfl⟩) ?_
          simp only [Act.put, List.setIfInBounds_toArray, List.set_cons_zero, List.set_cons_succ]
          refine anyZ_take 13 (v := undef) rfl (by kernel_rfl) (by kernel_rfl) (by kernel_rfl) (by kernel_rfl) (fun _ _ _ h => h) hC2 (Or.inr ⟨by rfl, rfl⟩) ?_
          simp only [Act.put, List.setIfInBounds_toArray, List.set_cons_zero, List.set_cons_succ]
          refine anyZ_take 14 (v := undef) rfl (by kernel_rfl) (by kernel_rfl) (by kernel_rfl) (by kernel_rfl) (fun _ _ _ h => h) hC2 (Or.inr ⟨by rfl, rfl⟩) ?_
          simp only [Act.put, List.setIfInBounds_toArray, List.set_cons_zero, List.set_cons_succ]
          refine anyZ_take 15 (v := undef) rfl (by kernel_rfl) (by kernel_rfl) (by kernel_rfl) (by kernel_rfl) (fun _ _ _ h => h) hC2 (Or.inr ⟨by rfl, rfl⟩) ?_
          simp only [Act.put, List.setIfInBounds_toArray, List.set_cons_zero, List.set_cons_succ]
          refine anyZ_take 16 (v := undef) rfl (by kernel_rfl) (by kernel_rfl) (by kernel_rfl) (by kernel_rfl) (fun _ _ _ h => h) hC2 (Or.inr ⟨by rfl, rfl⟩) ?_
          simp only [Act.put, List.setIfInBounds_toArray, List.set_cons_zero, List.set_cons_succ]
          refine anyZ_take 17 (v := ?_) rfl (by kernel_rfl) (by kernel_rfl) (by kernel_rfl) (by kernel_rfl) (fun _ _ _ h => h) hC2 (Or.inl ⟨by rfl, ?_⟩) ?_
          rotate_left
          · (intro wq hq; (try dsimp only at hq); go_simp; with_reducible rfl)
          simp only [Act.put, List.setIfInBounds_toArray, List.set_cons_zero, List.set_cons_succ]
          refine anyZ_done (by kernel_rfl) ?_ _
          clear hC hC2 hw1 hw2
          have hXs := hXb.extNo hX2
          have s1 := hXs.cell' (i := 1) rfl
          have t1 := hXs.frozen 1
          have hXs2 := Lib.hid (hXs.set 1 (.int .i64 ((o - 1 : Nat) : Int)))
          have ho1 : ((o : Int) - 1) = ((o - 1 : Nat) : Int) := by omega
          have hset : Ext (One X) w2 (w2.setCell ⟨X, 1, none⟩ (.int .i64 ((o - 1 : Nat) : Int))) := Ext.set1 _ _ _ _
          have hBs := (hBz.extNo hX2).ext hset (fun e : bb = X => by omega) (fun x hx' (e : x = X) => by have := hvlt x hx'; omega)
          have hxs := (hxz.transNo hX2).trans hset (fun x hx' (e : x = X) => by omega)
          clear q0 q1 v0 hxd hset
          go_wp2_with fail
          go_roundg (o - 1)
          case measure => have := hog'.out; omega
          case rel => exact ⟨o - 1, Nat.le_refl _, by omega, hXs2.out, hBs, hxs, hgn.out⟩
    · have hfin : wholeW l 0 = cur := by rw [← hw'.out]; exact wholeW_out (by omega)
      have hfin' := Lib.hid hfin
      clear hfin hcl
      go_wp2_with fail
      refine bodyPost_end (results_none rfl _ _ _) rfl ⟨⟨_, rfl⟩, by rw [hfin'.out]; exact hB, hx⟩
end Go.Proofs.Ytjkknjohmekeiaa
/- Buddies in memory: the first free block of the least order. The order lies between 0 and 10. -/
namespace Go.Proofs.Ytjkknjohmekeiaa
open Go.RowKit

def frK (l : List T3) (o : Nat) : Nat → Nat → List Nat
  | 0, _ => []
  | f + 1, i => if i < l.length then if freeB l i o then i :: frK l o f (i + pw o) else frK l o f (i + pw o) else []
/-- Where free blocks of an order begin, from a place on. -/
def freesL (l : List T3) (o i : Nat) : List Nat := frK l o (l.length - i) i
theorem frK_ge (l : List T3) (o : Nat) : ∀ (f i : Nat), l.length - i ≤ f → frK l o f i = frK l o (l.length - i) i
  | 0, i, h => by rw [show l.length - i = 0 by omega]
  | f + 1, i, h => by
    by_cases hi : i < l.length
    · obtain ⟨g, hg⟩ : ∃ g, l.length - i = g + 1 := ⟨l.length - i - 1, by omega⟩
      have hp := pw_pos o
      rw [hg]
      simp only [frK]
      rw [if_pos hi, if_pos hi, frK_ge l o f _ (by omega), frK_ge l o g _ (by omega)]
    · rw [show l.length - i = 0 by omega]
      simp only [frK]
      rw [if_neg hi]
theorem frees_out {l : List T3} {o i : Nat} (h : l.length ≤ i) : freesL l o i = [] := by
  unfold freesL; rw [show l.length - i = 0 by omega]; rfl
theorem frees_yes {l : List T3} {o i : Nat} (h : i < l.length) (hf : freeB l i o = true) : freesL l o i = i :: freesL l o (i + pw o) := by
  unfold freesL
  obtain ⟨g, hg⟩ : ∃ g, l.length - i = g + 1 := ⟨l.length - i - 1, by omega⟩
  have hp := pw_pos o
  rw [hg]; simp only [frK]; rw [if_pos h, if_pos hf, frK_ge l o g _ (by omega)]
theorem frees_no {l : List T3} {o i : Nat} (h : i < l.length) (hf : freeB l i o = false) : freesL l o i = freesL l o (i + pw o) := by
  unfold freesL
  obtain ⟨g, hg⟩ : ∃ g, l.length - i = g + 1 := ⟨l.length - i - 1, by omega⟩
  have hp := pw_pos o
  rw [hg]; simp only [frK]; rw [if_pos h, if_neg (by rw [hf]; decide), frK_ge l o g _ (by omega)]

/-- A block. -/
structure Bk where
  i : Nat
  o : Nat
def leK (l : List T3) : Nat → Nat → Option Bk
  | 0, _ => none
  | f + 1, o => match freesL l o 0 with
    | i :: _ => some ⟨i, o⟩
    | [] => leK l f (o + 1)
/-- The first free block of the least order from one on. -/
def leastL (l : List T3) (o : Nat) : Option Bk := leK l (11 - o) o
theorem least_out (l : List T3) : leastL l 11 = none := rfl
theorem least_yes {l : List T3} {o i : Nat} {t : List Nat} (h : o ≤ 10) (hf : freesL l o 0 = i :: t) : leastL l o = some ⟨i, o⟩ := by
  unfold leastL
  obtain ⟨g, hg⟩ : ∃ g, 11 - o = g + 1 := ⟨10 - o, by omega⟩
  rw [hg]; simp only [leK]; rw [hf]
theorem least_no {l : List T3} {o : Nat} (h : o ≤ 10) (hf : freesL l o 0 = []) : leastL l o = leastL l (o + 1) := by
  unfold leastL
  obtain ⟨g, hg⟩ : ∃ g, 11 - o = g + 1 := ⟨10 - o, by omega⟩
  rw [hg]; simp only [leK]; rw [hf, show 11 - (o + 1) = g by omega]
def LRes (r : Option Bk) (e : Ending) : Prop := match r with
  | some b => e = .returned (.tuple #[.agg #[.int .i64 b.i, .int .i64 b.o], .bool true])
  | none => ∃ x y : Int, e = .returned (.tuple #[.agg #[.int .i64 x, .int .i64 y], .bool false])

set_option maxRecDepth 100000 in
set_option maxHeartbeats 3200000 in
theorem least118_spec (w : World) (bb base : Nat) (v : Value) (l : List T3) (h : BR w bb base v l) (o : Nat) (ho : o ≤ 10) :
    Calls Try.prog 118 #[.pointer (some ⟨bb, 0, none⟩), .int .i64 o] w fun e w' => LRes (leastL l o) e ∧ Ext No w w' := by
  obtain ⟨a, cap, rfl, hlc, hcap⟩ := h.val
  have hn := h.n
  have hbl := h.b.lt
  have hvlt : ∀ x, OwnOf (.slice a l.length cap) x → x < w.heap.size := fun x hx => (h.p.lt x hx).2
  obtain ⟨n, hnn⟩ : ∃ n, l.length = n := ⟨_, rfl⟩
  have hnn' := Lib.hid hnn
  rw [hnn] at hlc hn h hvlt
  clear hnn
  go_enter Try.func118, Try.ntmps118
  obtain ⟨X, hX⟩ : ∃ X, w.heap.size = X := ⟨_, rfl⟩
  obtain ⟨W, hW⟩ : ∃ W, w.alloc (.cells #[.int .i64 0, .int .i64 0] 162) = W := ⟨_, rfl⟩
  have hxa : Ext No w W := by rw [← hW]; exact (Ext.refl _ _).alloc _
  have hXb : Blk W X [.int .i64 0, .int .i64 0] 162 := by rw [← hW]; exact Blk.new' hX.symm
  have hB := h.extNo hxa
  have hXw : w.heap.size ≤ X := by omega
  go_wp2_with fail
  go_step3
  go_wp2_with fail
  go_step3
  go_wp2_with fail
  clear hW hX h
  go_loopg [5, 6] 11 (fun g s5 s6 wr => ∃ (k : Nat) (x y : Int), 11 - k ≤ g ∧ k ≤ 11 ∧ s5 = .bool false ∧ s6 = .int .i64 k ∧ Blk wr X [.int .i64 x, .int .i64 y] 162 ∧ BR wr bb base (.slice a n cap) l ∧ Ext No w wr ∧ leastL l o = leastL l k)
  case atStart => exact ⟨o, 0, 0, by omega, by omega, rfl, rfl, hXb, hB, hxa, rfl⟩
  case round =>
    clear hXb hB hxa
    obtain ⟨k, x, y, hk, hk11, rfl, rfl, hXb, hB, hx, hl⟩ := hrel
    have hk' := Lib.hid hk
    have hl' := Lib.hid hl
    clear hk hl
    by_cases hlt : k ≤ 10
    · have hd10 : decide ((k : Int) ≤ 10) = true := decide_eq_true (by omega)
      go_wp2_with fail
      go_loopg [5, 7] n (fun g s5 s7 wz => ∃ (i : Nat) (x y : Int), n - i ≤ g ∧ i < 4611686018427387904 ∧ s5 = .bool false ∧ s7 = .int .i64 i ∧ Blk wz X [.int .i64 x, .int .i64 y] 162 ∧ BR wz bb base (.slice a n cap) l ∧ Ext No w wz ∧ freesL l k i = freesL l k 0)
      case atStart => exact ⟨0, x, y, by omega, by omega, rfl, rfl, hXb, hB, hx, rfl⟩
      case round =>
        clear hXb hB hx
        obtain ⟨i, x, y, hi, hi2, rfl, rfl, hXb, hB, hx, hf⟩ := hrel
        obtain ⟨wz, hwz⟩ : ∃ wz, wr = wz := ⟨_, rfl⟩
        rw [hwz] at hXb hB hx ⊢
        clear hwz
        have hi' := Lib.hid hi
        have hf' := Lib.hid hf
        clear hi hf
        have v0 := hB.b.cell' (i := 0) rfl
        have hbl2 := hB.b.lt
        have hXl := hXb.lt
        by_cases hin : i < n
        · have s0 := hXb.frozen 0
          have s1 := hXb.frozen 1
          have hset : Ext (One X) wz ((wz.setCell ⟨X, 0, none⟩ (.int .i64 i)).setCell ⟨X, 1, none⟩ (.int .i64 k)) := (Ext.set1 _ _ _ _).transSame (Ext.set1 _ _ _ _)
          have hX2 : Blk ((wz.setCell ⟨X, 0, none⟩ (.int .i64 i)).setCell ⟨X, 1, none⟩ (.int .i64 k)) X [.int .i64 i, .int .i64 k] 162 := (hXb.set 0 _).set 1 _
          have hB2 := hB.ext hset (fun e : bb = X => by omega) (fun x hx' (e : x = X) => by have := hvlt x hx'; omega)
          have hx2 := hx.trans hset (fun x hx' (e : x = X) => by omega)
          have q0 := hXb.cell' (i := 0) rfl
          have q1 : (wz.setCell ⟨X, 0, none⟩ (.int .i64 i)).cell? ⟨X, 1, none⟩ = some (.int .i64 y) := (hXb.set 0 (.int .i64 i)).cell' (i := 1) rfl
          have q2 := (hXb.set 0 (.int .i64 i)).frozen 1
          go_wp2_with fail
          refine (free115_spec _ bb base _ l hB2 i k hi2).mono ?_
          rintro e w2 ⟨rfl, hx3⟩
          have hX3 := hX2.extNo hx3
          have hB3 := hB2.extNo hx3
          have hx4 := hx2.transNo hx3
          clear hB2 hX2 hx2 hset v0 s0 s1
          have y0 := hX3.cell' (i := 0) rfl
          have y1 := hX3.cell' (i := 1) rfl
          have t0 := hX3.frozen 0
          have t1 := hX3.frozen 1
          have hXl3 := hX3.lt
          have hwr := wrap_pw hlt
          have hpp := pw_le hlt
          have hsh := shl_pw hlt
          cases hb : freeB l i k
          · have hfn : Hid (freesL l k (i + pw k) = freesL l k 0) := by show _ = _; rw [← hf'.out, frees_no (by rw [hnn'.out]; exact hin) hb]
            clear hb
            go_wp2_with fail
            go_roundg (n - (i + pw k))
            case measure => have := hi'.out; have := pw_pos k; omega
            case rel => exact ⟨i + pw k, i, k, by omega, by omega, rfl, by go_num, hX3, hB3, hx4, hfn.out⟩
          · have hle : Hid (leastL l o = some ⟨i, k⟩) := by show _ = _; rw [hl'.out, least_yes hlt (by rw [← hf'.out]; exact frees_yes (by rw [hnn'.out]; exact hin) hb)]
            clear hb q1 q2
            have q1 : (w2.setCell ⟨X, 0, none⟩ (.int .i64 i)).cell? ⟨X, 1, none⟩ = some (.int .i64 k) := (hX3.set 0 (.int .i64 i)).cell' (i := 1) rfl
            have q2 := (hX3.set 0 (.int .i64 i)).frozen 1
            have hX5 : Blk ((w2.setCell ⟨X, 0, none⟩ (.int .i64 i)).setCell ⟨X, 1, none⟩ (.int .i64 k)) X [.int .i64 i, .int .i64 k] 162 := (hX3.set 0 _).set 1 _
            have z0 := hX5.cell' (i := 0) rfl
            have z1 := hX5.cell' (i := 1) rfl
            have hset2 : Ext (One X) w2 ((w2.setCell ⟨X, 0, none⟩ (.int .i64 i)).setCell ⟨X, 1, none⟩ (.int .i64 k)) := (Ext.set1 _ _ _ _).transSame (Ext.set1 _ _ _ _)
            have hx5 := hx4.trans hset2 (fun x hx' (e : x = X) => by omega)
            go_wp2_with fail
            try rw [Exit.noGoto_ret]
            refine bodyPost_ret (v := .tuple #[.agg #[.int .i64 i, .int .i64 k], .bool true]) (by simp [results, Try.results118, go_sem, z0, z1]) rfl ⟨?_, hx5⟩
            rw [hle.out]; rfl
        · have hl2 : Hid (leastL l o = leastL l (k + 1)) := by show _ = _; rw [hl'.out, least_no hlt (by rw [← hf'.out]; exact frees_out (by rw [hnn'.out]; omega))]
          go_wp2_with fail
          go_roundg (11 - (k + 1))
          case measure => have := hk'.out; omega
          case rel => exact ⟨k + 1, x, y, by omega, by omega, rfl, by go_num, hXb, hB, hx, hl2.out⟩
    · have hd10 : decide ((k : Int) ≤ 10) = false := decide_eq_false (by omega)
      have hle : Hid (leastL l o = none) := by show _ = _; rw [hl'.out, show k = 11 by omega]; rfl
      have y0 := hXb.cell' (i := 0) rfl
      have y1 := hXb.cell' (i := 1) rfl
      have t0 := hXb.frozen 0
      have t1 := hXb.frozen 1
      have hXl3 := hXb.lt
      obtain ⟨w2, hw2⟩ : ∃ w2, wr = w2 := ⟨_, rfl⟩
      rw [hw2] at hXb hB hx y0 y1 t0 t1 hXl3 ⊢
      clear hw2
      have q1 : (w2.setCell ⟨X, 0, none⟩ (.int .i64 x)).cell? ⟨X, 1, none⟩ = some (.int .i64 y) := (hXb.set 0 (.int .i64 x)).cell' (i := 1) rfl
      have q2 := (hXb.set 0 (.int .i64 x)).frozen 1
      have hX5 : Blk ((w2.setCell ⟨X, 0, none⟩ (.int .i64 x)).setCell ⟨X, 1, none⟩ (.int .i64 y)) X [.int .i64 x, .int .i64 y] 162 := (hXb.set 0 _).set 1 _
      have z0 := hX5.cell' (i := 0) rfl
      have z1 := hX5.cell' (i := 1) rfl
      have hset2 : Ext (One X) w2 ((w2.setCell ⟨X, 0, none⟩ (.int .i64 x)).setCell ⟨X, 1, none⟩ (.int .i64 y)) := (Ext.set1 _ _ _ _).transSame (Ext.set1 _ _ _ _)
      have hx5 := hx.trans hset2 (fun x hx' (e : x = X) => by omega)
      go_wp2_with fail
      try rw [Exit.noGoto_ret]
      refine bodyPost_ret (v := .tuple #[.agg #[.int .i64 x, .int .i64 y], .bool false]) (by simp [results, Try.results118, go_sem, z0, z1]) rfl ⟨?_, hx5⟩
      rw [hle.out]; exact ⟨_, _, rfl⟩
end Go.Proofs.Ytjkknjohmekeiaa
/- Near pages in memory; New, list, Has, List. No condition. -/
namespace Go.Proofs.Ytjkknjohmekeiaa
open Go.RowKit

/-- The program's near pages at block nb, its lists at lb. -/
structure NearR (w : World) (nb lb base : Nat) (vs : List Value) (ll : List (List Int)) (cap : Int) (T : TypeId := 95) : Prop where
  n : Blk w nb [.slice (some ⟨lb, 0, none⟩) ll.length ll.length, .int .i64 cap] T
  l : Blk w lb vs 25
  len : vs.length = ll.length
  rows : ∀ i, i < ll.length → w.ownsRow base 3 1 (nth vs i) (nth ll i).length ((nth ll i).map int)
  apart : ∀ i j x, i < ll.length → j < ll.length → OwnOf (nth vs i) x → OwnOf (nth vs j) x → i = j
  nums : nb ≠ lb ∧ nb < base ∧ lb < base ∧ ll.length ≤ 8
def NearF (nb lb : Nat) (vs : List Value) (x : Nat) : Prop := x = nb ∨ x = lb ∨ ∃ i, i < vs.length ∧ OwnOf (nth vs i) x

theorem NearR.ext {S : Nat → Prop} {w w' : World} {nb lb base : Nat} {vs : List Value} {ll : List (List Int)} {cap : Int} {T : TypeId} (h : NearR w nb lb base vs ll cap T) (hx : Ext S w w') (hS : ∀ x, NearF nb lb vs x → ¬ S x) : NearR w' nb lb base vs ll cap T :=
  ⟨h.n.ext hx (hS _ (.inl rfl)), h.l.ext hx (hS _ (.inr (.inl rfl))), h.len, fun i hi => ownsRow_ext (h.rows i hi) hx (fun k hk => hS k (.inr (.inr ⟨i, by rw [h.len]; exact hi, hk⟩))), h.apart, h.nums⟩
theorem NearR.rd {w : World} {nb lb base : Nat} {vs : List Value} {ll : List (List Int)} {cap : Int} {T : TypeId} (h : NearR w nb lb base vs ll cap T) : RdII (One lb) (fun x => ∃ i, i < vs.length ∧ OwnOf (nth vs i) x) w (.slice (some ⟨lb, 0, none⟩) ll.length ll.length) ll :=
  ⟨vs, h.len, by have := Rd.of_blk (n := ll.length) (sz := 1) h.l (by rw [h.len, Nat.mul_one]) (by have := h.nums; unfold maxLen; omega); exact this,
    fun i hi => (Rd.of_own (h.rows i hi)).mono (fun x hx _ => ⟨i, by rw [h.len]; exact hi, hx⟩)⟩

theorem mk_ll : MkTy 93 25 1 24 (.slice none 0 0) := .mk' (z := .slice none 0 0) (by kernel_rfl) Try.underlying93 rfl (by decide)

set_option maxRecDepth 100000 in
set_option maxHeartbeats 800000 in
theorem near_new (w : World) (cpus cap : Int) :
    Calls Try.prog 45 #[.int .i64 cpus, .int .i64 cap] w fun e w' =>
      if (1 ≤ cpus ∧ cpus ≤ 8) ∧ 0 ≤ cap ∧ cap ≤ 64 then
        (∃ nb lb, e = .returned (.tuple #[.pointer (some ⟨nb, 0, none⟩), .int .i64 0]) ∧ NearR w' nb lb w'.heap.size (List.replicate cpus.toNat (.slice none 0 0)) (List.replicate cpus.toNat []) cap ∧ w.heap.size ≤ nb ∧ w.heap.size ≤ lb) ∧ Ext No w w'
      else e = .returned (.tuple #[.pointer none, .int .i64 2]) ∧ w = w' := by
  by_cases h1 : cpus < 1
  · have hn : Hid (¬ ((1 ≤ cpus ∧ cpus ≤ 8) ∧ 0 ≤ cap ∧ cap ≤ 64)) := by show ¬ _; omega
    go_enter Try.func45, Try.ntmps45
    go_wp2_with fail
    go_ret2
    exact ⟨rfl, rfl⟩
  · by_cases h2 : 8 < cpus
    · have hn : Hid (¬ ((1 ≤ cpus ∧ cpus ≤ 8) ∧ 0 ≤ cap ∧ cap ≤ 64)) := by show ¬ _; omega
      go_enter Try.func45, Try.ntmps45
      go_wp2_with fail
      go_ret2
      exact ⟨rfl, rfl⟩
    · by_cases h3 : cap < 0
      · have hn : Hid (¬ ((1 ≤ cpus ∧ cpus ≤ 8) ∧ 0 ≤ cap ∧ cap ≤ 64)) := by show ¬ _; omega
        go_enter Try.func45, Try.ntmps45
        go_wp2_with fail
        go_ret2
        exact ⟨rfl, rfl⟩
      · by_cases h4 : 64 < cap
        · have hn : Hid (¬ ((1 ≤ cpus ∧ cpus ≤ 8) ∧ 0 ≤ cap ∧ cap ≤ 64)) := by show ¬ _; omega
          go_enter Try.func45, Try.ntmps45
          go_wp2_with fail
          go_ret2
          exact ⟨rfl, rfl⟩
        · have hy : Hid ((1 ≤ cpus ∧ cpus ≤ 8) ∧ 0 ≤ cap ∧ cap ≤ 64) := by show _ ∧ _; omega
          obtain ⟨n, rfl⟩ : ∃ n : Nat, cpus = (n : Int) := ⟨cpus.toNat, by omega⟩
          have hn8 : n ≤ 8 := by omega
          have hmk := mk_run mk_ll n (by omega) (by omega)
          rw [Nat.mul_one] at hmk
          go_enter Try.func45, Try.ntmps45
          go_wp2_with fail
          go_ret2
          have hB : Blk (w.alloc (.cells (Array.replicate n (.slice none 0 0)) 25)) w.heap.size (List.replicate n (.slice none 0 0)) 25 := by
            have := Blk.new' (w := w) (b := w.heap.size) (cs := List.replicate n (.slice none 0 0)) (T := 25) rfl
            simpa using this
          refine ⟨⟨w.heap.size + 1, rfl, w.heap.size, ⟨?_, hB.alloc _, by simp, fun i hi => ?_, fun i j x hi hj h => ?_, ?_⟩, by omega, by omega⟩, ((Ext.refl _ _).alloc _).alloc _⟩
          · simp only [List.length_replicate]
            exact Blk.new' (by simp)
          · simp only [List.length_replicate] at hi ⊢
            rw [nth_eq (by simpa using hi), nth_eq (by simpa using hi)]
            simp only [List.getElem_replicate]
            exact World.ownsRow_nil _ _ _ _
          · simp only [List.length_replicate] at hi h
            rw [nth_eq (by simpa using hi)] at h
            simp [OwnOf, Value.ownBlock] at h
          · simp; omega

/-- Where a processor's list lies; the processor is there. -/
theorem near_list_at (w : World) (nb lb base : Nat) (vs : List Value) (ll : List (List Int)) (cap : Int) (h : NearR w nb lb base vs ll cap) (c : Nat) (hc : c < ll.length) :
    Calls Try.prog 101 #[.pointer (some ⟨nb, 0, none⟩), .int .i64 c] w fun e w' => e = .returned (.pointer (some ⟨lb, c, none⟩)) ∧ w = w' := by
  have n0 := h.n.cell' (i := 0) rfl
  have hn := h.nums
  go_enter Try.func101, Try.ntmps101
  go_wp2_with fail
  go_ret
  exact ⟨by simp, rfl⟩
theorem near_list_out (w : World) (nb lb base : Nat) (vs : List Value) (ll : List (List Int)) (cap : Int) (h : NearR w nb lb base vs ll cap) (c : Int) (hc : c < 0 ∨ (ll.length : Int) ≤ c) :
    Calls Try.prog 101 #[.pointer (some ⟨nb, 0, none⟩), .int .i64 c] w fun e w' => e = .returned (.pointer none) ∧ w = w' := by
  have n0 := h.n.cell' (i := 0) rfl
  have hn := h.nums
  by_cases h0 : c < 0
  · go_enter Try.func101, Try.ntmps101
    go_wp2_with fail
    go_ret
    exact ⟨rfl, rfl⟩
  · have h1 : (ll.length : Int) ≤ c := by omega
    go_enter Try.func101, Try.ntmps101
    go_wp2_with fail
    go_ret
    exact ⟨rfl, rfl⟩

theorem near_has (w : World) (nb lb base : Nat) (vs : List Value) (ll : List (List Int)) (cap : Int) (h : NearR w nb lb base vs ll cap) (_hb : base ≤ w.heap.size) (x : Int) :
    Calls Try.prog 54 #[.pointer (some ⟨nb, 0, none⟩), .int .i64 x] w fun e w' => e = .returned (.bool (hasIn ll x)) ∧ Ext No w w' := by
  have hmf : ∀ (fn : Fn) (first cap : Array Value) (w : World), (Instr.makeFunc fn first cap).run Try.prog w = .ok (.func fn first cap) w := fun _ _ _ _ => rfl
  have n0 := h.n.cell' (i := 0) rfl
  have hn := h.nums
  have hlt := h.n.lt
  have hxa : Ext No w (w.alloc (.cells #[.int .i64 x] 3)) := (Ext.refl _ _).alloc _
  have hB : Blk (w.alloc (.cells #[.int .i64 x] 3)) w.heap.size [.int .i64 x] 3 := Blk.new _ _ _
  go_enter Try.func54, Try.ntmps54
  go_wp2_with fail
  refine (contains104_spec _ _ ll x _ _ (h.rd.ext hxa (fun _ _ => id) (fun _ _ => id)) w.heap.size (hB.cell' (i := 0) rfl)).mono ?_
  rintro e w1 ⟨rfl, rfl⟩
  go_wp2_with fail
  go_ret
  exact ⟨rfl, hxa⟩

def listIn (ll : List (List Int)) (c : Int) : List Int := if 0 ≤ c ∧ c < ll.length then nth ll c.toNat else []

theorem near_list (w : World) (nb lb base : Nat) (vs : List Value) (ll : List (List Int)) (cap : Int) (h : NearR w nb lb base vs ll cap) (c : Int) (hlen : ∀ l ∈ ll, l.length ≤ 1024) :
    Calls Try.prog 48 #[.pointer (some ⟨nb, 0, none⟩), .int .i64 c] w fun e w' => ∃ r, e = .returned r ∧ w'.ownsRow w.heap.size 3 1 r (listIn ll c).length ((listIn ll c).map int) ∧ Ext No w w' := by
  by_cases hc : 0 ≤ c ∧ c < ll.length
  · have hi : Hid (listIn ll c = nth ll c.toNat) := by show _ = _; unfold listIn; rw [if_pos hc]
    obtain ⟨k, rfl⟩ : ∃ k : Nat, c = (k : Int) := ⟨c.toNat, by omega⟩
    have hk : k < ll.length := by omega
    have hl := hlen (nth ll k) (by rw [nth_eq hk]; exact List.getElem_mem _)
    obtain ⟨av, cv, ev, hcv⟩ := ownsRow_val (h.rows k hk)
    have hrow := h.rows k hk
    rw [ev] at hrow
    have c0 := h.l.cell' (i := k) (v := nth vs k) (nth_some (by rw [h.len]; exact hk))
    rw [ev] at c0
    clear hc hlen ev
    go_enter Try.func48, Try.ntmps48
    go_wp2_with fail
    refine (near_list_at w nb lb base vs ll cap h k hk).mono ?_
    rintro e w1 ⟨rfl, rfl⟩
    go_wp2_with fail
    refine (clone102_spec _ _ (nth ll k) _ (Rd.of_own hrow) (by omega)).mono ?_
    rintro e w2 ⟨r, rfl, ho, hx⟩
    go_wp2_with fail
    go_ret
    rw [hi.out]
    exact ⟨_, rfl, ho, hx⟩
  · have hi : Hid (listIn ll c = []) := by show _ = _; unfold listIn; rw [if_neg hc]
    have hc' : c < 0 ∨ (ll.length : Int) ≤ c := by omega
    clear hc
    go_enter Try.func48, Try.ntmps48
    go_wp2_with fail
    refine (near_list_out w nb lb base vs ll cap h c hc').mono ?_
    rintro e w1 ⟨rfl, rfl⟩
    go_wp2_with fail
    go_ret
    rw [hi.out]
    exact ⟨_, rfl, World.ownsRow_nil _ _ _ _, Ext.refl _ _⟩
end Go.Proofs.Ytjkknjohmekeiaa
