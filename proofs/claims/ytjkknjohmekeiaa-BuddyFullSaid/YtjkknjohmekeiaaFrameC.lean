/- Check of a table. No condition. -/
import Derived.Test.YtjkknjohmekeiaaFrameB
namespace Go.Proofs.Ytjkknjohmekeiaa
open Go.RowKit Go.Shelf
attribute [local go_sem] Oper.semAt_some

/-- May a table be? -/
def tabOk (l : List T3) : Bool := decide (0 < l.length) && (decide (l.length ≤ 1024) && (bl l).all (fun x => decide (0 ≤ x.1)))
def chkE (l : List T3) : Int := if tabOk l then 0 else 50
def NNeg (pre : List (Int × T3)) : Prop := ∀ y ∈ pre, 0 ≤ y.1
def SNeg (pre : List (Int × T3)) : Prop := ∃ y ∈ pre, y.1 < 0
theorem NNeg.snoc {pre : List (Int × T3)} {x : Int × T3} (h : NNeg pre) (hx : 0 ≤ x.1) : NNeg (pre ++ [x]) := by
  intro y hy
  rcases List.mem_append.1 hy with h1 | h1
  · exact h y h1
  · simp only [List.mem_singleton] at h1; subst h1; exact hx
theorem ownE {β : Type} {B : Nat} {I : β → World → Prop} (h : ∀ s W W', I s W → Ext (fun x => B ≤ x) W W' → I s W') : OwnFrom B I :=
  fun s W W' row hs hg hr => h s W W' hs ((Ext.of_grownBy hg).mono (fun x _ hx => (hr x hx).1))

set_option maxRecDepth 100000 in
set_option maxHeartbeats 2000000 in
theorem check61_spec (w : World) (v : Value) (l : List T3) (G : Nat → Prop) (hv : RdT G w v l) :
    Calls Try.prog 61 #[v] w fun e w' => e = .returned (.int .i64 (chkE l)) ∧ Ext No w w' := by
  obtain ⟨a, cap, rfl, _, hcap⟩ := hv.val
  by_cases h0 : l.length = 0
  · have hr : Hid (chkE l = 50) := by show _ = _; unfold chkE tabOk; rw [decide_eq_false (by omega)]; rfl
    have hx : Ext No w (w.alloc (.cells #[.int .i64 0] 34)) := (Ext.refl _ _).alloc _
    go_enter Try.func61, Try.ntmps61
    go_wp2_with fail
    exact bodyPost_ret (v := .int .i64 50) (by simp [results, Try.results61, go_sem]) rfl ⟨by rw [hr.out], (Ext.refl _ _).alloc _⟩
  · have hz : ((l.length : Int) == 0) = false := by rw [beq_eq_false_iff_ne]; omega
    by_cases h1 : 1024 < l.length
    · have hr : Hid (chkE l = 50) := by show _ = _; unfold chkE tabOk; rw [decide_eq_false (show ¬ l.length ≤ 1024 by omega)]; simp
      have h0' : 0 < l.length := by omega
      go_enter Try.func61, Try.ntmps61
      go_wp2_with fail
      exact bodyPost_ret (v := .int .i64 50) (by simp [results, Try.results61, go_sem]) rfl ⟨by rw [hr.out], (Ext.refl _ _).alloc _⟩
    · have h1' : (l.length : Int) ≤ 1024 := by omega
      have h0' : 0 < l.length := by omega
      obtain ⟨b, off, rfl, hbw, hGb, _⟩ := hv.at h0'
      have hd : decide (1024 < (l.length : Int)) = false := decide_eq_false (by omega)
      refine (callsIn_wide (n := 3)).1 ?_
      refine callsIn_of_wp_marks Try.func61 rfl trivial ?_ rfl
      simp only [Try.ntmps61, List.size_toArray, List.length_cons, List.length_nil, Nat.reduceAdd, Nat.reduceSub, Array.replicate_succ, Array.replicate_zero, List.push_toArray, List.append_toArray, List.nil_append, List.cons_append]
      gi_wp2
      refine ⟨trivial, ?_⟩
      refine (callsIn_wide.2 (blocks111_spec _ _ _ _)).mono ?_
      rintro e w1 ⟨rfl, rfl⟩
      gi_wp2
      obtain ⟨R, hR⟩ : ∃ R, w.heap.size = R := ⟨_, rfl⟩
      obtain ⟨W1, hW1⟩ : ∃ W1, (w.alloc (.cells #[.int .i64 0] 34)).alloc (.cells #[.slice (some ⟨b, off, none⟩) l.length cap] 96) = W1 := ⟨_, rfl⟩
      have hx1 : Ext No w W1 := by rw [← hW1]; exact ((Ext.refl _ _).alloc _).alloc _
      have hBR : Blk W1 R [.int .i64 0] 34 := by rw [← hW1]; exact (Blk.new' hR.symm).alloc _
      have hBL : Blk W1 (R + 1) [.slice (some ⟨b, off, none⟩) l.length cap] 96 := by rw [← hW1]; exact Blk.new' (by simp [hR])
      have hsz : W1.heap.size = R + 2 := by rw [← hW1]; simp [hR]
      rw [hW1, hR]
      have hv1 : RdT (Iv 0 R) W1 (.slice (some ⟨b, off, none⟩) l.length cap) l := (hv.mono (G := Iv 0 R) (fun x _ hx => ⟨Nat.zero_le _, by omega⟩)).extNo hx1
      clear hW1
      refine wpIn_rangeFunc_ownG (F := Fence.wide) rfl (by omega) (gf := 138) (lb := #[.pointer (some ⟨R + 1, 0, none⟩)]) rfl trivial (enters_of Try.func138 (by kernel_rfl) rfl)
        (blocks_stops 2 (by omega) (R + 1) (R + 2) R b off cap l _ (by omega) W1 hsz (by omega) (hBL.cell' (i := 0) rfl) hv1 (fun x hx => by have := hx.2; omega) (by omega)) KS.t (KS.b (by omega)) (Below.refl _ _) (fun _ => rfl)
        (fun pre W => (NNeg pre ∧ Blk W R [.int .i64 0] 34) ∧ Ext No w W)
        (fun c pre W => (c = .ret ∧ SNeg pre ∧ Blk W R [.int .i64 50] 34) ∧ Ext No w W)
        (ownE (fun s W W' h hx => ⟨⟨h.1.1, h.1.2.ext hx (by omega)⟩, h.2.transNew hx (fun x hx => by omega)⟩))
        (fun c => ownE (fun s W W' h hx => ⟨⟨h.1.1, h.1.2.1, h.1.2.2.ext hx (by omega)⟩, h.2.transNew hx (fun x hx => by omega)⟩))
        ⟨⟨(fun y hy => by cases hy), hBR⟩, hx1⟩
        (fun x => { tmps := #[.slice (some ⟨b, off, none⟩) l.length cap, undef, .pointer (some ⟨R, 0, none⟩), .int .i64 x.1, .slice (some ⟨b, off, none⟩) l.length cap, .int .i64 l.length, .bool false, .bool false, .slice (some ⟨b, off, none⟩) l.length cap, .int .i64 l.length, .bool false, .bool false, .slice (some ⟨b, off, none⟩) l.length cap, .func (.func 138) #[] #[.pointer (some ⟨R + 1, 0, none⟩)], .int .i64 x.1, .agg #[.int .i64 x.2.a, .int .i64 x.2.b, .int .i64 x.2.c], undef, undef], defers := [] }) ?assign ?body ?done ?stop
      case assign =>
        intro l x W K hK
        simp only [encs]
        gi_wp2
        exact hK
      case body =>
        rintro ll pre x W ⟨⟨hp, hB⟩, hx⟩ _
        have c0 := hB.cell' (i := 0) rfl
        have f0 := hB.frozen 0
        have hBs := Lib.hid (hB.set 0 (.int .i64 50))
        have hset : Ext No w (W.setCell ⟨R, 0, none⟩ (.int .i64 50)) := hx.setCell _ _ (.inl (by rw [hR]; exact Nat.le_refl _))
        by_cases h : x.1 < 0
        · gi_wp2
          exact ⟨(KeepsOthers.setCell _ _ _).from _, ⟨rfl, ⟨x, by simp, h⟩, hBs.out⟩, hset⟩
        · have h' : 0 ≤ x.1 := by omega
          gi_wp2
          exact ⟨KeepsFrom.refl _ _, Ext.refl _ _, ⟨hp.snoc h', hB⟩, hx⟩
      case done =>
        rintro D ys W hD rfl ⟨⟨hne, hB⟩, hx⟩ hK
        have c0 := hB.cell' (i := 0) rfl
        have f0 := hB.frozen 0
        have hr : Hid (chkE l = 0) := by
          show _ = _
          unfold chkE tabOk
          rw [decide_eq_true h0', decide_eq_true (show l.length ≤ 1024 by omega)]
          simp only [Bool.true_and, List.all_eq_true, decide_eq_true_eq]
          rw [if_pos (fun y hy => hne y hy)]
        have hBs := Lib.hid (hB.set 0 (.int .i64 0))
        have hset : Ext No w (W.setCell ⟨R, 0, none⟩ (.int .i64 0)) := hx.setCell _ _ (.inl (by rw [hR]; exact Nat.le_refl _))
        gi_wp2
        have hK' := (KeepsOthers.setCell W ⟨R, 0, none⟩ (.int .i64 0)).same D _ hK rfl
        refine ⟨by simp, .inl ⟨_, _, rfl, run_takeDeferred hK', ?_⟩⟩
        have hE : Ext (fun x => x = D) (W.setCell ⟨R, 0, none⟩ (.int .i64 0)) ((W.setCell ⟨R, 0, none⟩ (.int .i64 0)).putObj D (.deferred none)) := (Ext.of_grownBy (grownBy_putObj' _ D (.deferred none))).mono (fun x _ h => by cases h; rfl)
        have hc5 := (hBs.out.ext hE (fun e : R = D => by omega)).cell' (i := 0) rfl
        refine ⟨.int .i64 0, ?_, by rw [hr.out], hset.transNew hE (fun x (e : x = D) => by omega)⟩
        simp [results, Try.f61, go_sem, hc5]
      case stop =>
        rintro D c pre W hD hpre ⟨⟨rfl, ⟨y, hy1, hy2⟩, hB⟩, hx⟩ hK
        have hr : Hid (chkE l = 50) := by
          show _ = _
          unfold chkE tabOk
          rw [if_neg]
          simp only [Bool.and_eq_true, List.all_eq_true, decide_eq_true_eq]
          rintro ⟨_, _, h⟩
          have := h y (hpre.subset hy1); omega
        gi_wp2
        refine ⟨by simp, .inl ⟨_, _, rfl, run_takeDeferred hK, ?_⟩⟩
        have hE : Ext (fun x => x = D) W (W.putObj D (.deferred none)) := (Ext.of_grownBy (grownBy_putObj' _ D (.deferred none))).mono (fun x _ h => by cases h; rfl)
        have hc5 := (hB.ext hE (fun e : R = D => by omega)).cell' (i := 0) rfl
        refine ⟨.int .i64 50, ?_, by rw [hr.out], hx.transNew hE (fun x (e : x = D) => by omega)⟩
        simp [results, Try.f61, go_sem, hc5]
end Go.Proofs.Ytjkknjohmekeiaa
