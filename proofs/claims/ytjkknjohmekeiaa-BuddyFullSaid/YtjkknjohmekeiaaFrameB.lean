/- The iterator over a table's blocks: its contract, for every body that keeps what lay below n₀. No condition but that the table fits into memory. -/
import Derived.Test.YtjkknjohmekeiaaFrameP
import Derived.RangeFuncNested
import Derived.RangeFuncBound
import Derived.RangeFuncCalls
import Derived.RangeFuncLeaves
import Derived.Shelf.Abstract
import Derived.Shelf.RegionOpen
import Derived.OwnWalkIn
import Derived.TacticsInMore
import Derived.LoopNIn
import Derived.LoopIn
namespace Go.Proofs.Ytjkknjohmekeiaa
open Go.RowKit Go.Shelf
attribute [local go_sem] Oper.semAt_some

def encs (x : Int × T3) : Array Value := #[.int .i64 x.1, .agg #[.int .i64 x.2.a, .int .i64 x.2.b, .int .i64 x.2.c]]

theorem Ext.of_belowN {w w' : World} {n : Nat} (h : Below n w w') : Ext (fun x => n ≤ x) w w' := ⟨h.os, h.tape, h.output, h.size, fun k _ hs => h.block k (by omega)⟩
theorem Ext.below2 {w w' : World} {n : Nat} (h : Ext No w w') (hn : n ≤ w.heap.size) : Below n w w' := h.below hn (fun _ _ => id)

/-- What a body may write: what is new since n₀, and its own block r. -/
def KS (n₀ r : Nat) : Nat → Prop := fun x => n₀ ≤ x ∨ x = r

set_option maxRecDepth 100000 in
set_option maxHeartbeats 4000000 in
theorem blocks_in (n : Nat) (hn : 1 ≤ n) (ll Bs n₀ r b off cap : Nat) (l : List T3) (G : Nat → Prop) (hreach : l.length ≤ 4611686018427387903) (J Jx : List (Int × T3) → World → Prop) (B : Nat) (hJ : AbidesFrom B J)
    (hY : ∀ pre x W, J pre W → pre ++ [x] <+: bl l → YieldAt Fence.wide (n - 1) Try.prog ll (encs x) W fun e W' =>
      (e = .returned (.bool true) ∧ J (pre ++ [x]) W' ∧ Ext (KS n₀ r) W W') ∨ (e = .returned (.bool false) ∧ Jx (pre ++ [x]) W'))
    (W : World) (hW : n₀ ≤ W.heap.size) (hBl : Bs < n₀) (hBs : W.cell? ⟨Bs, 0, none⟩ = some (.slice (some ⟨b, off, none⟩) l.length cap)) (hv : RdT G W (.slice (some ⟨b, off, none⟩) l.length cap) l) (hG : ∀ x, G x → x < n₀ ∧ x ≠ r) (hr : Bs ≠ r) (h0 : J [] W) :
    CallsIn Fence.wide n Try.prog 138 #[.func (.yield ll) #[] #[], .pointer (some ⟨Bs, 0, none⟩)] W fun e W' => (∃ v, e = .returned v) ∧
      ((∃ ys, ys = bl l ∧ J ys W') ∨ (∃ pre, pre <+: bl l ∧ Jx pre W')) := by
  obtain ⟨_, _, e9, _, hcap⟩ := hv.val
  cases e9
  have hJe : ∀ {A C : World} {pre : List (Int × T3)}, J pre A → Ext No A C → J pre C := fun {A C pre} h hx => hJ pre A C none h (hx.grownByNo none) (fun r e => by cases e)
  refine callsIn_of_wp Try.func138 rfl trivial ?_ rfl
  simp only [Try.ntmps138, List.size_toArray, List.length_cons, List.length_nil, Nat.reduceAdd, Nat.reduceSub, Array.replicate_succ, Array.replicate_zero, List.push_toArray, List.append_toArray, List.nil_append, List.cons_append]
  gi_wp2
  gi_loopw [3] (fun i wr => ∃ (k : Nat) (pre : List (Int × T3)), i = .int .i64 k ∧ k ≤ l.length ∧ bl l = pre ++ bseq l k ∧ J pre wr ∧ Ext (KS n₀ r) W wr)
    (fun i _ => l.length - (intOf i).toNat)
  case atStart => exact ⟨0, [], rfl, Nat.zero_le _, rfl, h0, Ext.refl _ _⟩
  case round =>
    obtain ⟨k, pre, rfl, hk, hpre, hJs, hnx⟩ := hrel
    have hBs' := hnx.cell hBs (fun h => by rcases h with h | h; exact absurd hBl (Nat.not_lt.2 h); exact hr h)
    have hv' := hv.ext hnx (fun x hx h => by have := hG x hx; rcases h with h | h <;> omega)
    by_cases hlt : k < l.length
    · obtain ⟨b', off', e9, _, _, x0, x1, x2⟩ := hv'.at hlt
      cases e9
      obtain ⟨s, hs1, hs2⟩ := shl_any (nth l k).b
      have hs2' := Lib.hid hs2; clear hs2
      have hxA : Ext No wr (wr.alloc (.cells #[.int .i64 (nth l k).a, .int .i64 (nth l k).b, .int .i64 (nth l k).c] 98)) := (Ext.refl _ _).alloc _
      gi_wp2
      refine ⟨trivial, ?_⟩
      refine (callsIn_wide.2 (headed_spec _ (nth l k))).mono ?_
      rintro e w2 ⟨rfl, hx2⟩
      obtain ⟨A, hA⟩ : ∃ A, wr.heap.size = A := ⟨_, rfl⟩
      rw [hA]
      have hP2 : Blk w2 A [.int .i64 (nth l k).a, .int .i64 (nth l k).b, .int .i64 (nth l k).c] 98 := (Blk.new' hA.symm).extNo hx2
      have hX2 : Ext No wr w2 := hxA.transNo hx2
      clear hA hx2 hxA
      have p0 := hP2.cell' (i := 0) rfl
      have p1 := hP2.cell' (i := 1) rfl
      have p2 := hP2.cell' (i := 2) rfl
      have q2 := hX2.cell hBs' id
      have hJ2 := hJe hJs hX2
      have hv2 := hv'.extNo hX2
      clear x0 x1 x2
      cases hh : headB (nth l k)
      · have hbad : bseq l k = [(-1, nth l k)] := bseq_bad hlt (by unfold okAt; rw [hh]; rfl)
        clear hs1 hh
        obtain ⟨fn, tmps, assign, body, hy, hR⟩ := hY pre (-1, nth l k) w2 hJ2 (by rw [hpre, hbad]; exact List.prefix_refl _)
        simp only [encs] at hy
        gi_wp2
        refine ⟨trivial, ?_⟩
        gi_wp2
        refine hR.mono ?_
        rintro e W3 (⟨rfl, hJ3, hk3⟩ | ⟨rfl, hJx3⟩)
        · gi_wp2
          refine bodyPost_ret (results_none rfl _ _ _) rfl ?_
          exact ⟨⟨_, rfl⟩, .inl ⟨_, by rw [hpre, hbad], hJ3⟩⟩
        · gi_wp2
          refine bodyPost_ret (results_none rfl _ _ _) rfl ?_
          exact ⟨⟨_, rfl⟩, .inr ⟨_, by rw [hpre, hbad]; exact List.prefix_refl _, hJx3⟩⟩
      · obtain ⟨r0, r1⟩ := headB_range hh
        have hsz : s = (sz (nth l k) : Int) := hs2'.out r0 r1
        subst hsz
        have z1 := sz_pos (nth l k)
        have z2 := sz_le hh
        have hm := and_mask k (nth l k) (by omega) hh
        have hok := okAt_iff (l := l) (i := k)
        obtain ⟨z, hz⟩ : ∃ z, sz (nth l k) = z := ⟨_, rfl⟩
        rw [hz] at z1 z2 hm
        have hok' := Lib.hid hok
        have hh' := Lib.hid hh
        have hz' := Lib.hid hz
        clear hs1 hok hh hs2'
        rw [hz]
        clear hz
        have z3 : (1 : Int) ≤ z := by omega
        have z4 : (z : Int) ≤ 1024 := by omega
        by_cases g1 : k % z = 0
        · have hb1 : ((k : Int) % (z : Int) == 0) = true := by rw [beq_iff_eq]; omega
          by_cases g2 : k + z ≤ l.length
          · have g2' : (z : Int) ≤ l.length - k := by omega
            have gl : (mid l k).length = z - 1 := by unfold mid; rw [hz'.out]; simp; omega
            have gz : k + z - (k + 1) = z - 1 := by omega
            by_cases gs0 : cap = k + 1
            · have hmid : RdT G w2 (.slice (some ⟨b, off, none⟩) (z - 1) 0) (mid l k) := by
                have hm0 : mid l k = [] := List.eq_nil_of_length_eq_zero (by rw [gl]; omega)
                have hz0 : z - 1 = 0 := by omega
                rw [hm0, hz0]; exact RdT.empty _ _ (by omega)
              have gl' := Lib.hid gl; clear gl
              gi_wp2
              refine ⟨trivial, ?_⟩
              refine (callsIn_wide.2 (contains139_spec _ _ (mid l k) G hmid)).mono ?_
              rintro e w3 ⟨rfl, hx3⟩
              have hX3 := hX2.transNo hx3
              have hP3 := hP2.extNo hx3
              have p0 := hP3.cell' (i := 0) rfl
              have p1 := hP3.cell' (i := 1) rfl
              have p2 := hP3.cell' (i := 2) rfl
              have q3 := hX3.cell hBs' id
              have hJ3' := hJe hJs hX3
              clear hJ2 hP2 hX2 q2
              cases ha : (mid l k).any notIn
              · have hok2 : okAt l k = true := by
                  have h := hok'.out
                  rw [hz'.out] at h
                  exact h.2 ⟨hh'.out, g1, g2, ha⟩
                have hgood := bseq_ok hlt hok2
                rw [hz'.out] at hgood
                obtain ⟨fn, tmps, assign, body, hy, hR⟩ := hY pre ((k : Int), nth l k) w3 hJ3' (by rw [hpre, hgood]; exact ⟨bseq l (k + z), by simp⟩)
                simp only [encs] at hy
                have hgood' := Lib.hid hgood
                have hpre' := Lib.hid hpre
                clear hok2 ha hgood hpre
                gi_wp2
                refine hR.mono ?_
                rintro e W3 (⟨rfl, hJ3, hk3⟩ | ⟨rfl, hJx3⟩)
                · gi_wp2
                  go_roundw
                  case rel => exact ⟨k + z, pre ++ [((k : Int), nth l k)], by simp, g2, by rw [hpre'.out, hgood'.out, List.append_assoc]; rfl, hJ3, (hnx.transNo hX3).transSame hk3⟩
                  case measure => simp [intOf]; omega
                · gi_wp2
                  refine bodyPost_ret (results_none rfl _ _ _) rfl ?_
                  exact ⟨⟨_, rfl⟩, .inr ⟨_, by rw [hpre'.out, hgood'.out]; exact ⟨bseq l (k + z), by simp⟩, hJx3⟩⟩
              · have hbad : bseq l k = [(-1, nth l k)] := bseq_bad hlt (by
                  have h := hok'.out
                  rw [← Bool.not_eq_true, h]; rintro ⟨_, _, _, h4⟩; rw [ha] at h4; cases h4)
                clear ha
                obtain ⟨fn, tmps, assign, body, hy, hR⟩ := hY pre (-1, nth l k) w3 hJ3' (by rw [hpre, hbad]; exact List.prefix_refl _)
                simp only [encs] at hy
                gi_wp2
                refine hR.mono ?_
                rintro e W3 (⟨rfl, hJ3, hk3⟩ | ⟨rfl, hJx3⟩)
                · gi_wp2
                  refine bodyPost_ret (results_none rfl _ _ _) rfl ?_
                  exact ⟨⟨_, rfl⟩, .inl ⟨_, by rw [hpre, hbad], hJ3⟩⟩
                · gi_wp2
                  refine bodyPost_ret (results_none rfl _ _ _) rfl ?_
                  exact ⟨⟨_, rfl⟩, .inr ⟨_, by rw [hpre, hbad]; exact List.prefix_refl _, hJx3⟩⟩
            · have hmid : RdT G w2 (.slice (some ⟨b, off + (k + 1) * 3, none⟩) (z - 1) (cap - (k + 1))) (mid l k) := by
                have := RdT.sub hv2 (lo := k + 1) (m := z - 1) (by omega)
                unfold mid
                rw [hz'.out]; exact this
              have gl' := Lib.hid gl; clear gl
              gi_wp2
              refine ⟨trivial, ?_⟩
              refine (callsIn_wide.2 (contains139_spec _ _ (mid l k) G hmid)).mono ?_
              rintro e w3 ⟨rfl, hx3⟩
              have hX3 := hX2.transNo hx3
              have hP3 := hP2.extNo hx3
              have p0 := hP3.cell' (i := 0) rfl
              have p1 := hP3.cell' (i := 1) rfl
              have p2 := hP3.cell' (i := 2) rfl
              have q3 := hX3.cell hBs' id
              have hJ3' := hJe hJs hX3
              clear hJ2 hP2 hX2 q2
              cases ha : (mid l k).any notIn
              · have hok2 : okAt l k = true := by
                  have h := hok'.out
                  rw [hz'.out] at h
                  exact h.2 ⟨hh'.out, g1, g2, ha⟩
                have hgood := bseq_ok hlt hok2
                rw [hz'.out] at hgood
                obtain ⟨fn, tmps, assign, body, hy, hR⟩ := hY pre ((k : Int), nth l k) w3 hJ3' (by rw [hpre, hgood]; exact ⟨bseq l (k + z), by simp⟩)
                simp only [encs] at hy
                have hgood' := Lib.hid hgood
                have hpre' := Lib.hid hpre
                clear hok2 ha hgood hpre
                gi_wp2
                refine hR.mono ?_
                rintro e W3 (⟨rfl, hJ3, hk3⟩ | ⟨rfl, hJx3⟩)
                · gi_wp2
                  go_roundw
                  case rel => exact ⟨k + z, pre ++ [((k : Int), nth l k)], by simp, g2, by rw [hpre'.out, hgood'.out, List.append_assoc]; rfl, hJ3, (hnx.transNo hX3).transSame hk3⟩
                  case measure => simp [intOf]; omega
                · gi_wp2
                  refine bodyPost_ret (results_none rfl _ _ _) rfl ?_
                  exact ⟨⟨_, rfl⟩, .inr ⟨_, by rw [hpre'.out, hgood'.out]; exact ⟨bseq l (k + z), by simp⟩, hJx3⟩⟩
              · have hbad : bseq l k = [(-1, nth l k)] := bseq_bad hlt (by
                  have h := hok'.out
                  rw [← Bool.not_eq_true, h]; rintro ⟨_, _, _, h4⟩; rw [ha] at h4; cases h4)
                clear ha
                obtain ⟨fn, tmps, assign, body, hy, hR⟩ := hY pre (-1, nth l k) w3 hJ3' (by rw [hpre, hbad]; exact List.prefix_refl _)
                simp only [encs] at hy
                gi_wp2
                refine hR.mono ?_
                rintro e W3 (⟨rfl, hJ3, hk3⟩ | ⟨rfl, hJx3⟩)
                · gi_wp2
                  refine bodyPost_ret (results_none rfl _ _ _) rfl ?_
                  exact ⟨⟨_, rfl⟩, .inl ⟨_, by rw [hpre, hbad], hJ3⟩⟩
                · gi_wp2
                  refine bodyPost_ret (results_none rfl _ _ _) rfl ?_
                  exact ⟨⟨_, rfl⟩, .inr ⟨_, by rw [hpre, hbad]; exact List.prefix_refl _, hJx3⟩⟩
          · have g2' : (l.length : Int) - k < z := by omega
            have hbad : bseq l k = [(-1, nth l k)] := bseq_bad hlt (by
              have h := hok'.out
              rw [hz'.out] at h
              rw [← Bool.not_eq_true, h]; rintro ⟨_, _, h3, _⟩; exact g2 h3)
            clear g1
            obtain ⟨fn, tmps, assign, body, hy, hR⟩ := hY pre (-1, nth l k) w2 hJ2 (by rw [hpre, hbad]; exact List.prefix_refl _)
            simp only [encs] at hy
            gi_wp2
            refine ⟨trivial, ?_⟩
            gi_wp2
            refine hR.mono ?_
            rintro e W3 (⟨rfl, hJ3, hk3⟩ | ⟨rfl, hJx3⟩)
            · gi_wp2
              refine bodyPost_ret (results_none rfl _ _ _) rfl ?_
              exact ⟨⟨_, rfl⟩, .inl ⟨_, by rw [hpre, hbad], hJ3⟩⟩
            · gi_wp2
              refine bodyPost_ret (results_none rfl _ _ _) rfl ?_
              exact ⟨⟨_, rfl⟩, .inr ⟨_, by rw [hpre, hbad]; exact List.prefix_refl _, hJx3⟩⟩
        · have hb1 : ((k : Int) % (z : Int) == 0) = false := by rw [beq_eq_false_iff_ne]; omega
          have hbad : bseq l k = [(-1, nth l k)] := bseq_bad hlt (by
            have h := hok'.out
            rw [hz'.out] at h
            rw [← Bool.not_eq_true, h]; rintro ⟨_, h3, _⟩; exact g1 h3)
          clear g1
          obtain ⟨fn, tmps, assign, body, hy, hR⟩ := hY pre (-1, nth l k) w2 hJ2 (by rw [hpre, hbad]; exact List.prefix_refl _)
          simp only [encs] at hy
          gi_wp2
          refine ⟨trivial, ?_⟩
          gi_wp2
          refine hR.mono ?_
          rintro e W3 (⟨rfl, hJ3, hk3⟩ | ⟨rfl, hJx3⟩)
          · gi_wp2
            refine bodyPost_ret (results_none rfl _ _ _) rfl ?_
            exact ⟨⟨_, rfl⟩, .inl ⟨_, by rw [hpre, hbad], hJ3⟩⟩
          · gi_wp2
            refine bodyPost_ret (results_none rfl _ _ _) rfl ?_
            exact ⟨⟨_, rfl⟩, .inr ⟨_, by rw [hpre, hbad]; exact List.prefix_refl _, hJx3⟩⟩
    · obtain rfl : k = l.length := by omega
      gi_wp2
      go_end0
      exact ⟨⟨_, rfl⟩, .inl ⟨_, by rw [hpre, bseq_out (Nat.le_refl _), List.append_nil], hJs⟩⟩

theorem KS.t {n₀ r : Nat} {A B C : World} (h : Ext (KS n₀ r) A B) (k : Ext (KS n₀ r) B C) : Ext (KS n₀ r) A C := h.transSame k
theorem KS.b {n₀ r : Nat} {w : World} (hn : n₀ ≤ w.heap.size) (W : World) (l : Nat) (o o' : Obj) (hl : w.heap.size ≤ l) (h : W.heap[l]? = some o) (h1 : o.isCells = false) (h2 : o.isWalk = false) : Ext (KS n₀ r) W (W.putObj l o') :=
  (Ext.of_belowN (belowK_b hn W l o o' hl h h1 h2)).mono (fun _ _ hx => .inl hx)

theorem pre_lt {α : Type} {pre ys : List α} {x : α} (h : pre ++ [x] <+: ys) : pre.length < ys.length := by
  have := h.length_le
  simp only [List.length_append, List.length_cons, List.length_nil] at this
  omega
theorem blocks_stops (n : Nat) (hn : 1 ≤ n) (Bs n₀ r b off cap : Nat) (l : List T3) (G : Nat → Prop) (hreach : l.length ≤ 4611686018427387903) (w : World) (hW : w.heap.size = n₀) (hBl : Bs < n₀) (hBs : w.cell? ⟨Bs, 0, none⟩ = some (.slice (some ⟨b, off, none⟩) l.length cap))
    (hv : RdT G w (.slice (some ⟨b, off, none⟩) l.length cap) l) (hG : ∀ x, G x → x < n₀ ∧ x ≠ r) (hr : Bs ≠ r) :
    SeqStopsK Fence.wide n Try.prog 138 #[.pointer (some ⟨Bs, 0, none⟩)] encs (Ext (KS n₀ r)) (fun ys => ys = bl l) (fun pre => pre <+: bl l) (bl l).length w := fun ll J Jx W hb hJ _ hY h0 => by
  have hx : Ext No w W := ⟨hb.os, hb.tape, hb.output, hb.size, fun k hk _ => hb.block k hk⟩
  exact blocks_in n hn ll Bs n₀ r b off cap l G hreach J Jx W.heap.size hJ (fun pre x W1 h1 h2 => hY pre x W1 h1 (pre_lt h2)) W (by have := hb.size; omega) hBl (hx.cell hBs id) (hv.extNo hx) hG hr h0

/-- The same where all blocks are known to be of a kind. -/
theorem blocks_stopsP (P : Int × T3 → Prop) (n : Nat) (hn : 1 ≤ n) (Bs n₀ r b off cap : Nat) (l : List T3) (hP : ∀ x ∈ bl l, P x) (G : Nat → Prop) (hreach : l.length ≤ 4611686018427387903) (w : World) (hW : w.heap.size = n₀) (hBl : Bs < n₀) (hBs : w.cell? ⟨Bs, 0, none⟩ = some (.slice (some ⟨b, off, none⟩) l.length cap))
    (hv : RdT G w (.slice (some ⟨b, off, none⟩) l.length cap) l) (hG : ∀ x, G x → x < n₀ ∧ x ≠ r) (hr : Bs ≠ r) :
    SeqStopsK Fence.wide n Try.prog 138 #[.pointer (some ⟨Bs, 0, none⟩)] (fun x : {x : Int × T3 // P x} => encs x.1) (Ext (KS n₀ r)) (fun ys => ys.map (·.1) = bl l) (fun pre => pre.map (·.1) <+: bl l) (bl l).length w := fun ll J Jx W hb hJ _ hY h0 => by
  have hx : Ext No w W := ⟨hb.os, hb.tape, hb.output, hb.size, fun k hk _ => hb.block k hk⟩
  refine (blocks_in n hn ll Bs n₀ r b off cap l G hreach (fun pre W => ∃ pre' : List {x : Int × T3 // P x}, pre'.map (·.1) = pre ∧ J pre' W) (fun pre W => ∃ pre' : List {x : Int × T3 // P x}, pre'.map (·.1) = pre ∧ Jx pre' W) W.heap.size
    (fun s A C row ⟨s', e, h⟩ hg hr => ⟨s', e, hJ s' A C row h hg hr⟩) (fun pre x W1 ⟨pre', e, h1⟩ h2 => ?_) W (by have := hb.size; omega) hBl (hx.cell hBs id) (hv.extNo hx) hG hr ⟨[], rfl, h0⟩).mono ?_
  · have hmem : x ∈ bl l := h2.subset (by simp)
    obtain ⟨fn, tmps, assign, body, hy, hR⟩ := hY pre' ⟨x, hP x hmem⟩ W1 h1 (by have := pre_lt h2; rw [← e, List.length_map] at this; exact this)
    refine ⟨fn, tmps, assign, body, hy, hR.mono ?_⟩
    rintro e' W' (⟨h3, h4, h5⟩ | ⟨h3, h4⟩)
    · exact .inl ⟨h3, ⟨_, by simp [e], h4⟩, h5⟩
    · exact .inr ⟨h3, ⟨_, by simp [e], h4⟩⟩
  · rintro e' W' ⟨h1, ⟨ys, rfl, ys', h2, h3⟩ | ⟨pre, h2, pre', rfl, h3⟩⟩
    · exact ⟨h1, .inl ⟨ys', h2, h3⟩⟩
    · exact ⟨h1, .inr ⟨pre', h2, h3⟩⟩
end Go.Proofs.Ytjkknjohmekeiaa
