/- Texts of ours, one behind the other (FrameB, FrameC, FrameT, FrameD, FrameE): each says in its own first lines what it proves. No condition. -/
import Derived.Test.YtjkknjohmekeiaaPackB
import Derived.RangeFuncNested
import Derived.RangeFuncBound
import Derived.RangeFuncCalls
import Derived.RangeFuncLeaves
import Derived.Shelf.Abstract
import Derived.Shelf.RegionOpen
import Derived.OwnWalkIn
import Derived.TacticsInMore
import Derived.LoopNIn
import Derived.LoopIn
/- The iterator over a table's blocks: its contract, for every body that keeps what lay below n₀. No condition but that the table fits into memory. -/
namespace Go.Proofs.Ytjkknjohmekeiaa
open Go.RowKit Go.Shelf
attribute [local go_sem] Oper.semAt_some

def encs (x : Int × T3) : Array Value := #[.int .i64 x.1, .agg #[.int .i64 x.2.a, .int .i64 x.2.b, .int .i64 x.2.c]]

theorem Ext.of_belowN {w w' : World} {n : Nat} (h : Below n w w') : Ext (fun x => n ≤ x) w w' := ⟨h.os, h.tape, h.output, h.size, fun k _ hs => h.block k (by omega)⟩
theorem Ext.below2 {w w' : World} {n : Nat} (h : Ext No w w') (hn : n ≤ w.heap.size) : Below n w w' := h.below hn (fun _ _ => id)

/-- What a body may write: what is new since n₀, and its own block r. -/
def KS (n₀ r : Nat) : Nat → Prop := fun x => n₀ ≤ x ∨ x = r

set_option maxRecDepth 100000 in
set_option maxHeartbeats 4000000 in
theorem blocks_in (n : Nat) (hn : 1 ≤ n) (ll Bs n₀ r b off cap : Nat) (l : List T3) (G : Nat → Prop) (hreach : l.length ≤ 4611686018427387903) (J Jx : List (Int × T3) → World → Prop) (B : Nat) (hJ : AbidesFrom B J)
    (hY : ∀ pre x W, J pre W → pre ++ [x] <+: bl l → YieldAt Fence.wide (n - 1) Try.prog ll (encs x) W fun e W' =>
      (e = .returned (.bool true) ∧ J (pre ++ [x]) W' ∧ Ext (KS n₀ r) W W') ∨ (e = .returned (.bool false) ∧ Jx (pre ++ [x]) W'))
    (W : World) (_hW : n₀ ≤ W.heap.size) (hBl : Bs < n₀) (hBs : W.cell? ⟨Bs, 0, none⟩ = some (.slice (some ⟨b, off, none⟩) l.length cap)) (hv : RdT G W (.slice (some ⟨b, off, none⟩) l.length cap) l) (hG : ∀ x, G x → x < n₀ ∧ x ≠ r) (hr : Bs ≠ r) (h0 : J [] W) :
    CallsIn Fence.wide n Try.prog 138 #[.func (.yield ll) #[] #[], .pointer (some ⟨Bs, 0, none⟩)] W fun e W' => (∃ v, e = .returned v) ∧
      ((∃ ys, ys = bl l ∧ J ys W') ∨ (∃ pre, pre <+: bl l ∧ Jx pre W')) := by
  obtain ⟨_, _, e9, _, hcap⟩ := hv.val
  cases e9
  have hJe : ∀ {A C : World} {pre : List (Int × T3)}, J pre A → Ext No A C → J pre C := fun {A C pre} h hx => hJ pre A C none h (hx.grownByNo none) (fun r e => by cases e)
  refine callsIn_of_wp Try.func138 rfl trivial ?_ rfl
  simp only [Try.ntmps138, List.size_toArray, List.length_cons, List.length_nil, Nat.reduceAdd, Nat.reduceSub, Array.replicate_succ, Array.replicate_zero, List.push_toArray, List.append_toArray, List.nil_append, List.cons_append]
  gi_wp2
  gi_loopw [3] (fun i wr => ∃ (k : Nat) (pre : List (Int × T3)), i = .int .i64 k ∧ k ≤ l.length ∧ bl l = pre ++ bseq l k ∧ J pre wr ∧ Ext (KS n₀ r) W wr)
    (fun i _ => l.length - (intOf i).toNat)
  case atStart => exact ⟨0, [], rfl, Nat.zero_le _, rfl, h0, Ext.refl _ _⟩
  case round =>
    obtain ⟨k, pre, rfl, hk, hpre, hJs, hnx⟩ := hrel
    have hBs' := hnx.cell hBs (fun h => by rcases h with h | h; exact absurd hBl (Nat.not_lt.2 h); exact hr h)
    have hv' := hv.ext hnx (fun x hx h => by have := hG x hx; rcases h with h | h <;> omega)
    by_cases hlt : k < l.length
    · obtain ⟨b', off', e9, _, _, x0, x1, x2⟩ := hv'.at hlt
      cases e9
      obtain ⟨s, hs1, hs2⟩ := shl_any (nth l k).b
      have hs2' := Lib.hid hs2; clear hs2
      have hxA : Ext No wr (wr.alloc (.cells #[.int .i64 (nth l k).a, .int .i64 (nth l k).b, .int .i64 (nth l k).c] 98)) := (Ext.refl _ _).alloc _
      gi_wp2
      refine ⟨trivial, ?_⟩
      refine (callsIn_wide.2 (headed_spec _ (nth l k))).mono ?_
      rintro e w2 ⟨rfl, hx2⟩
      obtain ⟨A, hA⟩ : ∃ A, wr.heap.size = A := ⟨_, rfl⟩
      rw [hA]
      have hP2 : Blk w2 A [.int .i64 (nth l k).a, .int .i64 (nth l k).b, .int .i64 (nth l k).c] 98 := (Blk.new' hA.symm).extNo hx2
      have hX2 : Ext No wr w2 := hxA.transNo hx2
      clear hA hx2 hxA
      have p0 := hP2.cell' (i := 0) rfl
      have p1 := hP2.cell' (i := 1) rfl
      have p2 := hP2.cell' (i := 2) rfl
      have q2 := hX2.cell hBs' id
      have hJ2 := hJe hJs hX2
      have hv2 := hv'.extNo hX2
      clear x0 x1 x2
      cases hh : headB (nth l k)
      · have hbad : bseq l k = [(-1, nth l k)] := bseq_bad hlt (by unfold okAt; rw [hh]; rfl)
        clear hs1 hh
        obtain ⟨fn, tmps, assign, body, hy, hR⟩ := hY pre (-1, nth l k) w2 hJ2 (by rw [hpre, hbad]; exact List.prefix_refl _)
        simp only [encs] at hy
        gi_wp2
        refine ⟨trivial, ?_⟩
        gi_wp2
        refine hR.mono ?_
        rintro e W3 (⟨rfl, hJ3, hk3⟩ | ⟨rfl, hJx3⟩)
        · gi_wp2
          refine bodyPost_ret (results_none rfl _ _ _) rfl ?_
          exact ⟨⟨_, rfl⟩, .inl ⟨_, by rw [hpre, hbad], hJ3⟩⟩
        · gi_wp2
          refine bodyPost_ret (results_none rfl _ _ _) rfl ?_
          exact ⟨⟨_, rfl⟩, .inr ⟨_, by rw [hpre, hbad]; exact List.prefix_refl _, hJx3⟩⟩
      · obtain ⟨r0, r1⟩ := headB_range hh
        have hsz : s = (sz (nth l k) : Int) := hs2'.out r0 r1
        subst hsz
        have z1 := sz_pos (nth l k)
        have z2 := sz_le hh
        have hm := and_mask k (nth l k) (by omega) hh
        have hok := okAt_iff (l := l) (i := k)
        obtain ⟨z, hz⟩ : ∃ z, sz (nth l k) = z := ⟨_, rfl⟩
        rw [hz] at z1 z2 hm
        have hok' := Lib.hid hok
        have hh' := Lib.hid hh
        have hz' := Lib.hid hz
        clear hs1 hok hh hs2'
        rw [hz]
        clear hz
        have z3 : (1 : Int) ≤ z := by omega
        have z4 : (z : Int) ≤ 1024 := by omega
        by_cases g1 : k % z = 0
        · have hb1 : ((k : Int) % (z : Int) == 0) = true := by rw [beq_iff_eq]; omega
          by_cases g2 : k + z ≤ l.length
          · have g2' : (z : Int) ≤ l.length - k := by omega
            have gl : (mid l k).length = z - 1 := by unfold mid; rw [hz'.out]; simp; omega
            have gz : k + z - (k + 1) = z - 1 := by omega
            by_cases gs0 : cap = k + 1
            · have hmid : RdT G w2 (.slice (some ⟨b, off, none⟩) (z - 1) 0) (mid l k) := by
                have hm0 : mid l k = [] := List.eq_nil_of_length_eq_zero (by rw [gl]; omega)
                have hz0 : z - 1 = 0 := by omega
                rw [hm0, hz0]; exact RdT.empty _ _ (by omega)
              have gl' := Lib.hid gl; clear gl
              gi_wp2
              refine ⟨trivial, ?_⟩
              refine (callsIn_wide.2 (contains139_spec _ _ (mid l k) G hmid)).mono ?_
              rintro e w3 ⟨rfl, hx3⟩
              have hX3 := hX2.transNo hx3
              have hP3 := hP2.extNo hx3
              have p0 := hP3.cell' (i := 0) rfl
              have p1 := hP3.cell' (i := 1) rfl
              have p2 := hP3.cell' (i := 2) rfl
              have q3 := hX3.cell hBs' id
              have hJ3' := hJe hJs hX3
              clear hJ2 hP2 hX2 q2
              cases ha : (mid l k).any notIn
              · have hok2 : okAt l k = true := by
                  have h := hok'.out
                  rw [hz'.out] at h
                  exact h.2 ⟨hh'.out, g1, g2, ha⟩
                have hgood := bseq_ok hlt hok2
                rw [hz'.out] at hgood
                obtain ⟨fn, tmps, assign, body, hy, hR⟩ := hY pre ((k : Int), nth l k) w3 hJ3' (by rw [hpre, hgood]; exact ⟨bseq l (k + z), by simp⟩)
                simp only [encs] at hy
                have hgood' := Lib.hid hgood
                have hpre' := Lib.hid hpre
                clear hok2 ha hgood hpre
                gi_wp2
                refine hR.mono ?_
                rintro e W3 (⟨rfl, hJ3, hk3⟩ | ⟨rfl, hJx3⟩)
                · gi_wp2
                  go_roundw
                  case rel => exact ⟨k + z, pre ++ [((k : Int), nth l k)], by simp, g2, by rw [hpre'.out, hgood'.out, List.append_assoc]; rfl, hJ3, (hnx.transNo hX3).transSame hk3⟩
                  case measure => simp [intOf]; omega
                · gi_wp2
                  refine bodyPost_ret (results_none rfl _ _ _) rfl ?_
                  exact ⟨⟨_, rfl⟩, .inr ⟨_, by rw [hpre'.out, hgood'.out]; exact ⟨bseq l (k + z), by simp⟩, hJx3⟩⟩
              · have hbad : bseq l k = [(-1, nth l k)] := bseq_bad hlt (by
                  have h := hok'.out
                  rw [← Bool.not_eq_true, h]; rintro ⟨_, _, _, h4⟩; rw [ha] at h4; cases h4)
                clear ha
                obtain ⟨fn, tmps, assign, body, hy, hR⟩ := hY pre (-1, nth l k) w3 hJ3' (by rw [hpre, hbad]; exact List.prefix_refl _)
                simp only [encs] at hy
                gi_wp2
                refine hR.mono ?_
                rintro e W3 (⟨rfl, hJ3, hk3⟩ | ⟨rfl, hJx3⟩)
                · gi_wp2
                  refine bodyPost_ret (results_none rfl _ _ _) rfl ?_
                  exact ⟨⟨_, rfl⟩, .inl ⟨_, by rw [hpre, hbad], hJ3⟩⟩
                · gi_wp2
                  refine bodyPost_ret (results_none rfl _ _ _) rfl ?_
                  exact ⟨⟨_, rfl⟩, .inr ⟨_, by rw [hpre, hbad]; exact List.prefix_refl _, hJx3⟩⟩
            · have hmid : RdT G w2 (.slice (some ⟨b, off + (k + 1) * 3, none⟩) (z - 1) (cap - (k + 1))) (mid l k) := by
                have := RdT.sub hv2 (lo := k + 1) (m := z - 1) (by omega)
                unfold mid
                rw [hz'.out]; exact this
              have gl' := Lib.hid gl; clear gl
              gi_wp2
              refine ⟨trivial, ?_⟩
              refine (callsIn_wide.2 (contains139_spec _ _ (mid l k) G hmid)).mono ?_
              rintro e w3 ⟨rfl, hx3⟩
              have hX3 := hX2.transNo hx3
              have hP3 := hP2.extNo hx3
              have p0 := hP3.cell' (i := 0) rfl
              have p1 := hP3.cell' (i := 1) rfl
              have p2 := hP3.cell' (i := 2) rfl
              have q3 := hX3.cell hBs' id
              have hJ3' := hJe hJs hX3
              clear hJ2 hP2 hX2 q2
              cases ha : (mid l k).any notIn
              · have hok2 : okAt l k = true := by
                  have h := hok'.out
                  rw [hz'.out] at h
                  exact h.2 ⟨hh'.out, g1, g2, ha⟩
                have hgood := bseq_ok hlt hok2
                rw [hz'.out] at hgood
                obtain ⟨fn, tmps, assign, body, hy, hR⟩ := hY pre ((k : Int), nth l k) w3 hJ3' (by rw [hpre, hgood]; exact ⟨bseq l (k + z), by simp⟩)
                simp only [encs] at hy
                have hgood' := Lib.hid hgood
                have hpre' := Lib.hid hpre
                clear hok2 ha hgood hpre
                gi_wp2
                refine hR.mono ?_
                rintro e W3 (⟨rfl, hJ3, hk3⟩ | ⟨rfl, hJx3⟩)
                · gi_wp2
                  go_roundw
                  case rel => exact ⟨k + z, pre ++ [((k : Int), nth l k)], by simp, g2, by rw [hpre'.out, hgood'.out, List.append_assoc]; rfl, hJ3, (hnx.transNo hX3).transSame hk3⟩
                  case measure => simp [intOf]; omega
                · gi_wp2
                  refine bodyPost_ret (results_none rfl _ _ _) rfl ?_
                  exact ⟨⟨_, rfl⟩, .inr ⟨_, by rw [hpre'.out, hgood'.out]; exact ⟨bseq l (k + z), by simp⟩, hJx3⟩⟩
              · have hbad : bseq l k = [(-1, nth l k)] := bseq_bad hlt (by
                  have h := hok'.out
                  rw [← Bool.not_eq_true, h]; rintro ⟨_, _, _, h4⟩; rw [ha] at h4; cases h4)
                clear ha
                obtain ⟨fn, tmps, assign, body, hy, hR⟩ := hY pre (-1, nth l k) w3 hJ3' (by rw [hpre, hbad]; exact List.prefix_refl _)
                simp only [encs] at hy
                gi_wp2
                refine hR.mono ?_
                rintro e W3 (⟨rfl, hJ3, hk3⟩ | ⟨rfl, hJx3⟩)
                · gi_wp2
                  refine bodyPost_ret (results_none rfl _ _ _) rfl ?_
                  exact ⟨⟨_, rfl⟩, .inl ⟨_, by rw [hpre, hbad], hJ3⟩⟩
                · gi_wp2
                  refine bodyPost_ret (results_none rfl _ _ _) rfl ?_
                  exact ⟨⟨_, rfl⟩, .inr ⟨_, by rw [hpre, hbad]; exact List.prefix_refl _, hJx3⟩⟩
          · have g2' : (l.length : Int) - k < z := by omega
            have hbad : bseq l k = [(-1, nth l k)] := bseq_bad hlt (by
              have h := hok'.out
              rw [hz'.out] at h
              rw [← Bool.not_eq_true, h]; rintro ⟨_, _, h3, _⟩; exact g2 h3)
            clear g1
            obtain ⟨fn, tmps, assign, body, hy, hR⟩ := hY pre (-1, nth l k) w2 hJ2 (by rw [hpre, hbad]; exact List.prefix_refl _)
            simp only [encs] at hy
            gi_wp2
            refine ⟨trivial, ?_⟩
            gi_wp2
            refine hR.mono ?_
            rintro e W3 (⟨rfl, hJ3, hk3⟩ | ⟨rfl, hJx3⟩)
            · gi_wp2
              refine bodyPost_ret (results_none rfl _ _ _) rfl ?_
              exact ⟨⟨_, rfl⟩, .inl ⟨_, by rw [hpre, hbad], hJ3⟩⟩
            · gi_wp2
              refine bodyPost_ret (results_none rfl _ _ _) rfl ?_
              exact ⟨⟨_, rfl⟩, .inr ⟨_, by rw [hpre, hbad]; exact List.prefix_refl _, hJx3⟩⟩
        · have hb1 : ((k : Int) % (z : Int) == 0) = false := by rw [beq_eq_false_iff_ne]; omega
          have hbad : bseq l k = [(-1, nth l k)] := bseq_bad hlt (by
            have h := hok'.out
            rw [hz'.out] at h
            rw [← Bool.not_eq_true, h]; rintro ⟨_, h3, _⟩; exact g1 h3)
          clear g1
          obtain ⟨fn, tmps, assign, body, hy, hR⟩ := hY pre (-1, nth l k) w2 hJ2 (by rw [hpre, hbad]; exact List.prefix_refl _)
          simp only [encs] at hy
          gi_wp2
          refine ⟨trivial, ?_⟩
          gi_wp2
          refine hR.mono ?_
          rintro e W3 (⟨rfl, hJ3, hk3⟩ | ⟨rfl, hJx3⟩)
          · gi_wp2
            refine bodyPost_ret (results_none rfl _ _ _) rfl ?_
            exact ⟨⟨_, rfl⟩, .inl ⟨_, by rw [hpre, hbad], hJ3⟩⟩
          · gi_wp2
            refine bodyPost_ret (results_none rfl _ _ _) rfl ?_
            exact ⟨⟨_, rfl⟩, .inr ⟨_, by rw [hpre, hbad]; exact List.prefix_refl _, hJx3⟩⟩
    · obtain rfl : k = l.length := by omega
      gi_wp2
      go_end0
      exact ⟨⟨_, rfl⟩, .inl ⟨_, by rw [hpre, bseq_out (Nat.le_refl _), List.append_nil], hJs⟩⟩

theorem KS.t {n₀ r : Nat} {A B C : World} (h : Ext (KS n₀ r) A B) (k : Ext (KS n₀ r) B C) : Ext (KS n₀ r) A C := h.transSame k
theorem KS.b {n₀ r : Nat} {w : World} (hn : n₀ ≤ w.heap.size) (W : World) (l : Nat) (o o' : Obj) (hl : w.heap.size ≤ l) (h : W.heap[l]? = some o) (h1 : o.isCells = false) (h2 : o.isWalk = false) : Ext (KS n₀ r) W (W.putObj l o') :=
  (Ext.of_belowN (belowK_b hn W l o o' hl h h1 h2)).mono (fun _ _ hx => .inl hx)

theorem pre_lt {α : Type} {pre ys : List α} {x : α} (h : pre ++ [x] <+: ys) : pre.length < ys.length := by
  have := h.length_le
  simp only [List.length_append, List.length_cons, List.length_nil] at this
  omega
theorem blocks_stops (n : Nat) (hn : 1 ≤ n) (Bs n₀ r b off cap : Nat) (l : List T3) (G : Nat → Prop) (hreach : l.length ≤ 4611686018427387903) (w : World) (hW : w.heap.size = n₀) (hBl : Bs < n₀) (hBs : w.cell? ⟨Bs, 0, none⟩ = some (.slice (some ⟨b, off, none⟩) l.length cap))
    (hv : RdT G w (.slice (some ⟨b, off, none⟩) l.length cap) l) (hG : ∀ x, G x → x < n₀ ∧ x ≠ r) (hr : Bs ≠ r) :
    SeqStopsK Fence.wide n Try.prog 138 #[.pointer (some ⟨Bs, 0, none⟩)] encs (Ext (KS n₀ r)) (fun ys => ys = bl l) (fun pre => pre <+: bl l) (bl l).length w := fun ll J Jx W hb hJ _ hY h0 => by
  have hx : Ext No w W := ⟨hb.os, hb.tape, hb.output, hb.size, fun k hk _ => hb.block k hk⟩
  exact blocks_in n hn ll Bs n₀ r b off cap l G hreach J Jx W.heap.size hJ (fun pre x W1 h1 h2 => hY pre x W1 h1 (pre_lt h2)) W (by have := hb.size; omega) hBl (hx.cell hBs id) (hv.extNo hx) hG hr h0

/-- The same where all blocks are known to be of a kind. -/
theorem blocks_stopsP (P : Int × T3 → Prop) (n : Nat) (hn : 1 ≤ n) (Bs n₀ r b off cap : Nat) (l : List T3) (hP : ∀ x ∈ bl l, P x) (G : Nat → Prop) (hreach : l.length ≤ 4611686018427387903) (w : World) (hW : w.heap.size = n₀) (hBl : Bs < n₀) (hBs : w.cell? ⟨Bs, 0, none⟩ = some (.slice (some ⟨b, off, none⟩) l.length cap))
    (hv : RdT G w (.slice (some ⟨b, off, none⟩) l.length cap) l) (hG : ∀ x, G x → x < n₀ ∧ x ≠ r) (hr : Bs ≠ r) :
    SeqStopsK Fence.wide n Try.prog 138 #[.pointer (some ⟨Bs, 0, none⟩)] (fun x : {x : Int × T3 // P x} => encs x.1) (Ext (KS n₀ r)) (fun ys => ys.map (·.1) = bl l) (fun pre => pre.map (·.1) <+: bl l) (bl l).length w := fun ll J Jx W hb hJ _ hY h0 => by
  have hx : Ext No w W := ⟨hb.os, hb.tape, hb.output, hb.size, fun k hk _ => hb.block k hk⟩
  refine (blocks_in n hn ll Bs n₀ r b off cap l G hreach (fun pre W => ∃ pre' : List {x : Int × T3 // P x}, pre'.map (·.1) = pre ∧ J pre' W) (fun pre W => ∃ pre' : List {x : Int × T3 // P x}, pre'.map (·.1) = pre ∧ Jx pre' W) W.heap.size
    (fun s A C row ⟨s', e, h⟩ hg hr => ⟨s', e, hJ s' A C row h hg hr⟩) (fun pre x W1 ⟨pre', e, h1⟩ h2 => ?_) W (by have := hb.size; omega) hBl (hx.cell hBs id) (hv.extNo hx) hG hr ⟨[], rfl, h0⟩).mono ?_
  · have hmem : x ∈ bl l := h2.subset (by simp)
    obtain ⟨fn, tmps, assign, body, hy, hR⟩ := hY pre' ⟨x, hP x hmem⟩ W1 h1 (by have := pre_lt h2; rw [← e, List.length_map] at this; exact this)
    refine ⟨fn, tmps, assign, body, hy, hR.mono ?_⟩
    rintro e' W' (⟨h3, h4, h5⟩ | ⟨h3, h4⟩)
    · exact .inl ⟨h3, ⟨_, by simp [e], h4⟩, h5⟩
    · exact .inr ⟨h3, ⟨_, by simp [e], h4⟩⟩
  · rintro e' W' ⟨h1, ⟨ys, rfl, ys', h2, h3⟩ | ⟨pre, h2, pre', rfl, h3⟩⟩
    · exact ⟨h1, .inl ⟨ys', h2, h3⟩⟩
    · exact ⟨h1, .inr ⟨pre', h2, h3⟩⟩
end Go.Proofs.Ytjkknjohmekeiaa
/- Check of a table. No condition. -/
namespace Go.Proofs.Ytjkknjohmekeiaa
open Go.RowKit Go.Shelf
attribute [local go_sem] Oper.semAt_some

/-- May a table be? -/
def tabOk (l : List T3) : Bool := decide (0 < l.length) && (decide (l.length ≤ 1024) && (bl l).all (fun x => decide (0 ≤ x.1)))
def chkE (l : List T3) : Int := if tabOk l then 0 else 50
def NNeg (pre : List (Int × T3)) : Prop := ∀ y ∈ pre, 0 ≤ y.1
def SNeg (pre : List (Int × T3)) : Prop := ∃ y ∈ pre, y.1 < 0
theorem NNeg.snoc {pre : List (Int × T3)} {x : Int × T3} (h : NNeg pre) (hx : 0 ≤ x.1) : NNeg (pre ++ [x]) := by
  intro y hy
  rcases List.mem_append.1 hy with h1 | h1
  · exact h y h1
  · simp only [List.mem_singleton] at h1; subst h1; exact hx
theorem ownE {β : Type} {B : Nat} {I : β → World → Prop} (h : ∀ s W W', I s W → Ext (fun x => B ≤ x) W W' → I s W') : OwnFrom B I :=
  fun s W W' _row hs hg hr => h s W W' hs ((Ext.of_grownBy hg).mono (fun x _ hx => (hr x hx).1))

set_option maxRecDepth 100000 in
set_option maxHeartbeats 2000000 in
theorem check61_spec (w : World) (v : Value) (l : List T3) (G : Nat → Prop) (hv : RdT G w v l) :
    Calls Try.prog 61 #[v] w fun e w' => e = .returned (.int .i64 (chkE l)) ∧ Ext No w w' := by
  obtain ⟨a, cap, rfl, _, hcap⟩ := hv.val
  by_cases h0 : l.length = 0
  · have hr : Hid (chkE l = 50) := by show _ = _; unfold chkE tabOk; rw [decide_eq_false (by omega)]; rfl
    have hx : Ext No w (w.alloc (.cells #[.int .i64 0] 34)) := (Ext.refl _ _).alloc _
    go_enter Try.func61, Try.ntmps61
    go_wp2_with fail
    exact bodyPost_ret (v := .int .i64 50) (by simp [results, Try.results61, go_sem]) rfl ⟨by rw [hr.out], (Ext.refl _ _).alloc _⟩
  · have hz : ((l.length : Int) == 0) = false := by rw [beq_eq_false_iff_ne]; omega
    by_cases h1 : 1024 < l.length
    · have hr : Hid (chkE l = 50) := by show _ = _; unfold chkE tabOk; rw [decide_eq_false (show ¬ l.length ≤ 1024 by omega)]; simp
      have h0' : 0 < l.length := by omega
      go_enter Try.func61, Try.ntmps61
      go_wp2_with fail
      exact bodyPost_ret (v := .int .i64 50) (by simp [results, Try.results61, go_sem]) rfl ⟨by rw [hr.out], (Ext.refl _ _).alloc _⟩
    · have h1' : (l.length : Int) ≤ 1024 := by omega
      have h0' : 0 < l.length := by omega
      obtain ⟨b, off, rfl, hbw, hGb, _⟩ := hv.at h0'
      have hd : decide (1024 < (l.length : Int)) = false := decide_eq_false (by omega)
      refine (callsIn_wide (n := 3)).1 ?_
      refine callsIn_of_wp_marks Try.func61 rfl trivial ?_ rfl
      simp only [Try.ntmps61, List.size_toArray, List.length_cons, List.length_nil, Nat.reduceAdd, Nat.reduceSub, Array.replicate_succ, Array.replicate_zero, List.push_toArray, List.append_toArray, List.nil_append, List.cons_append]
      gi_wp2
      refine ⟨trivial, ?_⟩
      refine (callsIn_wide.2 (blocks111_spec _ _ _ _)).mono ?_
      rintro e w1 ⟨rfl, rfl⟩
      gi_wp2
      obtain ⟨R, hR⟩ : ∃ R, w.heap.size = R := ⟨_, rfl⟩
      obtain ⟨W1, hW1⟩ : ∃ W1, (w.alloc (.cells #[.int .i64 0] 34)).alloc (.cells #[.slice (some ⟨b, off, none⟩) l.length cap] 96) = W1 := ⟨_, rfl⟩
      have hx1 : Ext No w W1 := by rw [← hW1]; exact ((Ext.refl _ _).alloc _).alloc _
      have hBR : Blk W1 R [.int .i64 0] 34 := by rw [← hW1]; exact (Blk.new' hR.symm).alloc _
      have hBL : Blk W1 (R + 1) [.slice (some ⟨b, off, none⟩) l.length cap] 96 := by rw [← hW1]; exact Blk.new' (by simp [hR])
      have hsz : W1.heap.size = R + 2 := by rw [← hW1]; simp [hR]
      rw [hW1, hR]
      have hv1 : RdT (Iv 0 R) W1 (.slice (some ⟨b, off, none⟩) l.length cap) l := (hv.mono (G := Iv 0 R) (fun x _ hx => ⟨Nat.zero_le _, by omega⟩)).extNo hx1
      clear hW1
      refine wpIn_rangeFunc_ownG (F := Fence.wide) rfl (by omega) (gf := 138) (lb := #[.pointer (some ⟨R + 1, 0, none⟩)]) rfl trivial (enters_of Try.func138 (by kernel_rfl) rfl)
        (blocks_stops 2 (by omega) (R + 1) (R + 2) R b off cap l _ (by omega) W1 hsz (by omega) (hBL.cell' (i := 0) rfl) hv1 (fun x hx => by have := hx.2; omega) (by omega)) KS.t (KS.b (by omega)) (Below.refl _ _) (fun _ => rfl)
        (fun pre W => (NNeg pre ∧ Blk W R [.int .i64 0] 34) ∧ Ext No w W)
        (fun c pre W => (c = .ret ∧ SNeg pre ∧ Blk W R [.int .i64 50] 34) ∧ Ext No w W)
        (ownE (fun s W W' h hx => ⟨⟨h.1.1, h.1.2.ext hx (by omega)⟩, h.2.transNew hx (fun x hx => by omega)⟩))
        (fun c => ownE (fun s W W' h hx => ⟨⟨h.1.1, h.1.2.1, h.1.2.2.ext hx (by omega)⟩, h.2.transNew hx (fun x hx => by omega)⟩))
        ⟨⟨(fun y hy => by cases hy), hBR⟩, hx1⟩
        (fun x => { tmps := #[.slice (some ⟨b, off, none⟩) l.length cap, undef, .pointer (some ⟨R, 0, none⟩), .int .i64 x.1, .slice (some ⟨b, off, none⟩) l.length cap, .int .i64 l.length, .bool false, .bool false, .slice (some ⟨b, off, none⟩) l.length cap, .int .i64 l.length, .bool false, .bool false, .slice (some ⟨b, off, none⟩) l.length cap, .func (.func 138) #[] #[.pointer (some ⟨R + 1, 0, none⟩)], .int .i64 x.1, .agg #[.int .i64 x.2.a, .int .i64 x.2.b, .int .i64 x.2.c], undef, undef], defers := [] }) ?assign ?body ?done ?stop
      case assign =>
        intro l x W K hK
        simp only [encs]
        gi_wp2
        exact hK
      case body =>
        rintro ll pre x W ⟨⟨hp, hB⟩, hx⟩ _
        have c0 := hB.cell' (i := 0) rfl
        have f0 := hB.frozen 0
        have hBs := Lib.hid (hB.set 0 (.int .i64 50))
        have hset : Ext No w (W.setCell ⟨R, 0, none⟩ (.int .i64 50)) := hx.setCell _ _ (.inl (by rw [hR]; exact Nat.le_refl _))
        by_cases h : x.1 < 0
        · gi_wp2
          exact ⟨(KeepsOthers.setCell _ _ _).from _, ⟨rfl, ⟨x, by simp, h⟩, hBs.out⟩, hset⟩
        · have h' : 0 ≤ x.1 := by omega
          gi_wp2
          exact ⟨KeepsFrom.refl _ _, Ext.refl _ _, ⟨hp.snoc h', hB⟩, hx⟩
      case done =>
        rintro D ys W hD rfl ⟨⟨hne, hB⟩, hx⟩ hK
        have c0 := hB.cell' (i := 0) rfl
        have f0 := hB.frozen 0
        have hr : Hid (chkE l = 0) := by
          show _ = _
          unfold chkE tabOk
          rw [decide_eq_true h0', decide_eq_true (show l.length ≤ 1024 by omega)]
          simp only [Bool.true_and, List.all_eq_true, decide_eq_true_eq]
          rw [if_pos (fun y hy => hne y hy)]
        have hBs := Lib.hid (hB.set 0 (.int .i64 0))
        have hset : Ext No w (W.setCell ⟨R, 0, none⟩ (.int .i64 0)) := hx.setCell _ _ (.inl (by rw [hR]; exact Nat.le_refl _))
        gi_wp2
        have hK' := (KeepsOthers.setCell W ⟨R, 0, none⟩ (.int .i64 0)).same D _ hK rfl
        refine ⟨by simp, .inl ⟨_, _, rfl, run_takeDeferred hK', ?_⟩⟩
        have hE : Ext (fun x => x = D) (W.setCell ⟨R, 0, none⟩ (.int .i64 0)) ((W.setCell ⟨R, 0, none⟩ (.int .i64 0)).putObj D (.deferred none)) := (Ext.of_grownBy (grownBy_putObj' _ D (.deferred none))).mono (fun x _ h => by cases h; rfl)
        have hc5 := (hBs.out.ext hE (fun e : R = D => by omega)).cell' (i := 0) rfl
        refine ⟨.int .i64 0, ?_, by rw [hr.out], hset.transNew hE (fun x (e : x = D) => by omega)⟩
        simp [results, Try.f61, go_sem, hc5]
      case stop =>
        rintro D c pre W hD hpre ⟨⟨rfl, ⟨y, hy1, hy2⟩, hB⟩, hx⟩ hK
        have hr : Hid (chkE l = 50) := by
          show _ = _
          unfold chkE tabOk
          rw [if_neg]
          simp only [Bool.and_eq_true, List.all_eq_true, decide_eq_true_eq]
          rintro ⟨_, _, h⟩
          have := h y (hpre.subset hy1); omega
        gi_wp2
        refine ⟨by simp, .inl ⟨_, _, rfl, run_takeDeferred hK, ?_⟩⟩
        have hE : Ext (fun x => x = D) W (W.putObj D (.deferred none)) := (Ext.of_grownBy (grownBy_putObj' _ D (.deferred none))).mono (fun x _ h => by cases h; rfl)
        have hc5 := (hB.ext hE (fun e : R = D => by omega)).cell' (i := 0) rfl
        refine ⟨.int .i64 50, ?_, by rw [hr.out], hx.transNew hE (fun x (e : x = D) => by omega)⟩
        simp [results, Try.f61, go_sem, hc5]
end Go.Proofs.Ytjkknjohmekeiaa
/- Plain: tables that may be: their blocks begin where they should; a block laid over whole blocks leaves such a table. No condition. -/
namespace Go.Proofs.Ytjkknjohmekeiaa

theorem mem_nth {α : Type} [Inhabited α] {l : List α} {k : Nat} (h : k < l.length) : nth l k ∈ l := by rw [nth_eq h]; exact List.getElem_mem _
theorem mid_iff {l : List T3} {i : Nat} (h : i + sz (nth l i) ≤ l.length) : (mid l i).any notIn = false ↔ ∀ j, i < j → j < i + sz (nth l i) → nth l j = inside := by
  have hp := sz_pos (nth l i)
  have hlen : (mid l i).length = sz (nth l i) - 1 := by unfold mid; simp; omega
  have hn : ∀ j, j < sz (nth l i) - 1 → nth (mid l i) j = nth l (i + 1 + j) := by
    intro j hj
    have e1 : nth (mid l i) j = (mid l i)[j]'(by rw [hlen]; exact hj) := nth_eq (by rw [hlen]; exact hj)
    have e2 : nth l (i + 1 + j) = l[i + 1 + j]'(by omega) := nth_eq (by omega)
    rw [e1, e2]
    unfold mid
    simp
  constructor
  · intro ha j h1 h2
    have hj : j - i - 1 < sz (nth l i) - 1 := by omega
    have h3 := hn (j - i - 1) hj
    rw [show i + 1 + (j - i - 1) = j by omega] at h3
    rw [← h3]
    have := List.any_eq_false.1 ha (nth (mid l i) (j - i - 1)) (mem_nth (by rw [hlen]; exact hj))
    unfold notIn at this
    simpa using this
  · intro ha
    rw [List.any_eq_false]
    intro x hx
    obtain ⟨j, hj, rfl⟩ := List.mem_iff_getElem.1 hx
    rw [← nth_eq hj, hn j (by rw [hlen] at hj; exact hj), ha (i + 1 + j) (by omega) (by rw [hlen] at hj; omega)]
    decide

def Ok (l : List T3) (i : Nat) : Prop := headB (nth l i) = true ∧ i % sz (nth l i) = 0 ∧ i + sz (nth l i) ≤ l.length ∧ ∀ j, i < j → j < i + sz (nth l i) → nth l j = inside
theorem ok_iff {l : List T3} {i : Nat} : okAt l i = true ↔ Ok l i := by
  rw [okAt_iff]
  unfold Ok
  constructor
  · rintro ⟨h1, h2, h3, h4⟩; exact ⟨h1, h2, h3, (mid_iff h3).1 h4⟩
  · rintro ⟨h1, h2, h3, h4⟩; exact ⟨h1, h2, h3, (mid_iff h3).2 h4⟩

/-- Where a block begins, or the last one ends. -/
inductive Rch (l : List T3) : Nat → Prop
  | zero : Rch l 0
  | step {i : Nat} : Rch l i → i < l.length → Rch l (i + sz (nth l i))
/-- All blocks may be. -/
def Va (l : List T3) : Prop := ∀ i, Rch l i → i < l.length → Ok l i

theorem bl_pre {l : List T3} (ha : ∀ x ∈ bl l, 0 ≤ x.1) : ∀ {i : Nat}, Rch l i → ∃ pre, bl l = pre ++ bseq l i ∧ ∀ x ∈ pre, ∃ j : Nat, x = ((j : Int), nth l j) ∧ Rch l j ∧ j < l.length ∧ j + sz (nth l j) ≤ i := by
  intro i hi
  induction hi with
  | zero => exact ⟨[], rfl, by simp⟩
  | @step i hr hlt ih =>
    obtain ⟨pre, h1, h2⟩ := ih
    cases ho : okAt l i
    · have := bseq_bad hlt ho
      rw [this] at h1
      have := ha (-1, nth l i) (by rw [h1]; simp)
      simp at this
    · refine ⟨pre ++ [((i : Int), nth l i)], by rw [h1, bseq_ok hlt ho]; simp, fun x hx => ?_⟩
      rcases List.mem_append.1 hx with h3 | h3
      · obtain ⟨j, e, h4, h5, h6⟩ := h2 x h3
        exact ⟨j, e, h4, h5, by omega⟩
      · simp only [List.mem_singleton] at h3
        exact ⟨i, h3, hr, hlt, Nat.le_refl _⟩
theorem va_all {l : List T3} (h : Va l) : ∀ (n i : Nat), l.length - i ≤ n → Rch l i → ∀ x ∈ bseq l i, 0 ≤ x.1
  | 0, i, hn, hr => by rw [bseq_out (by omega)]; simp
  | n + 1, i, hn, hr => by
    by_cases hi : i < l.length
    · have hok := h i hr hi
      rw [bseq_ok hi (ok_iff.2 hok)]
      have hp := sz_pos (nth l i)
      intro x hx
      rcases List.mem_cons.1 hx with h1 | h1
      · subst h1; show (0 : Int) ≤ (i : Int); omega
      · exact va_all h n _ (by omega) (hr.step hi) x h1
    · rw [bseq_out (by omega)]; simp
theorem tab_iff {l : List T3} : tabOk l = true ↔ 0 < l.length ∧ l.length ≤ 1024 ∧ Va l := by
  unfold tabOk
  simp only [Bool.and_eq_true, decide_eq_true_eq, List.all_eq_true]
  constructor
  · rintro ⟨h1, h2, h3⟩
    refine ⟨h1, h2, fun i hr hi => ?_⟩
    obtain ⟨pre, e, _⟩ := bl_pre h3 hr
    cases ho : okAt l i
    · rw [bseq_bad hi ho] at e
      have := h3 (-1, nth l i) (by rw [e]; simp)
      simp at this
    · exact ok_iff.1 ho
  · rintro ⟨h1, h2, h3⟩
    exact ⟨h1, h2, va_all h3 l.length 0 (by omega) .zero⟩

theorem Rch.le {l : List T3} (h : Va l) {i : Nat} (hr : Rch l i) : i ≤ l.length := by
  cases hr with
  | zero => omega
  | step hr hi => exact (h _ hr hi).2.2.1
theorem rch_sep {l : List T3} (n : Nat) : ∀ h', h' ≤ n → Rch l h' → ∀ h, Rch l h → h < h' → h + sz (nth l h) ≤ h' := by
  induction n with
  | zero => intro h' hn _ h _ hlt; omega
  | succ n ih =>
    intro h' hn hr' h hr hlt
    cases hr' with
    | zero => omega
    | @step i hri hi =>
      have hp := sz_pos (nth l i)
      rcases Nat.lt_trichotomy h i with h1 | h1 | h1
      · have := ih i (by omega) hri h hr h1; omega
      · subst h1; exact Nat.le_refl _
      · have := ih h (by omega) hr i hri h1; omega
theorem Rch.sep {l : List T3} {h h' : Nat} (hr : Rch l h) (hr' : Rch l h') (hlt : h < h') : h + sz (nth l h) ≤ h' := rch_sep h' h' (Nat.le_refl _) hr' h hr hlt
theorem rch_at {l : List T3} (hv : Va l) : ∀ n, n ≤ l.length → ∃ h, Rch l h ∧ h ≤ n ∧ (n < h + sz (nth l h) ∨ (h = n ∧ n = l.length))
  | 0, hn => ⟨0, .zero, Nat.le_refl _, .inl (by have := sz_pos (nth l 0); omega)⟩
  | n + 1, hn => by
    obtain ⟨h, hr, h1, h2⟩ := rch_at hv n (by omega)
    rcases h2 with h2 | ⟨h2, h3⟩
    · by_cases h4 : n + 1 < h + sz (nth l h)
      · exact ⟨h, hr, by omega, .inl h4⟩
      · have h5 : n + 1 = h + sz (nth l h) := by omega
        have hs := hr.step (show h < l.length by omega)
        rw [← h5] at hs
        refine ⟨n + 1, hs, Nat.le_refl _, ?_⟩
        by_cases h6 : n + 1 = l.length
        · exact .inr ⟨rfl, h6⟩
        · exact .inl (by have := sz_pos (nth l (n + 1)); omega)
    · omega
/-- A page's head. -/
structure Hd (l : List T3) (page h : Nat) : Prop where
  r : Rch l h
  le : h ≤ page
  lt : page < h + sz (nth l h)
theorem hd_ex {l : List T3} (hv : Va l) {page : Nat} (hp : page < l.length) : ∃ h, Hd l page h := by
  obtain ⟨h, h1, h2, h3⟩ := rch_at hv page (by omega)
  exact ⟨h, h1, h2, by omega⟩
theorem Hd.uniq {l : List T3} {page h h' : Nat} (a : Hd l page h) (b : Hd l page h') : h = h' := by
  rcases Nat.lt_trichotomy h h' with h1 | h1 | h1
  · have := a.r.sep b.r h1; have := a.lt; have := b.le; omega
  · exact h1
  · have := b.r.sep a.r h1; have := b.lt; have := a.le; omega
theorem Hd.start {l : List T3} {h : Nat} (hr : Rch l h) : Hd l h h := ⟨hr, Nat.le_refl _, by have := sz_pos (nth l h); omega⟩
theorem Hd.hlt {l : List T3} {page h : Nat} (a : Hd l page h) (hp : page < l.length) : h < l.length := by have := a.le; omega

def headF (l : List T3) (page : Int) : Int := match (bl l).find? (fun x => decide (page < x.1 + sz x.2)) with
  | some x => x.1
  | none => 0
theorem headF_eq {l : List T3} (hv : Va l) {page h : Nat} (hp : page < l.length) (a : Hd l page h) : headF l page = h := by
  have ha := va_all hv l.length 0 (by omega) .zero
  obtain ⟨pre, e, h2⟩ := bl_pre ha a.r
  have hh := a.hlt hp
  rw [bseq_ok hh (ok_iff.2 (hv h a.r hh))] at e
  unfold headF
  rw [e, List.find?_append]
  have hn : pre.find? (fun x => decide ((page : Int) < x.1 + sz x.2)) = none := by
    rw [List.find?_eq_none]
    intro x hx
    obtain ⟨j, rfl, _, _, h6⟩ := h2 x hx
    have := a.le
    simp only [decide_eq_true_eq]; omega
  rw [hn]
  have := a.lt
  simp only [Option.none_or, List.find?_cons]
  rw [decide_eq_true (by omega)]

/-! ### Powers -/
theorem sz_dvd {p q : T3} (h : p.b ≤ q.b) : sz p ∣ sz q := Nat.pow_dvd_pow 2 (by omega)
theorem sz_dvd' {p q : T3} (h : sz p ≤ sz q) : sz p ∣ sz q := by
  unfold sz at *
  exact Nat.pow_dvd_pow 2 ((Nat.pow_le_pow_iff_right (by omega)).1 h)
theorem dvd_lt {d a b : Nat} (hd : 0 < d) (ha : d ∣ a) (hb : d ∣ b) (h1 : a ≤ b) (h2 : b < a + d) : a = b := by
  obtain ⟨x, rfl⟩ := ha
  obtain ⟨y, rfl⟩ := hb
  have : y < x + 1 := by
    apply Nat.lt_of_mul_lt_mul_left (a := d)
    rw [Nat.mul_add, Nat.mul_one]; exact h2
  have : x ≤ y := Nat.le_of_mul_le_mul_left h1 hd
  rw [show x = y by omega]
theorem dvd_room {d a b : Nat} (ha : d ∣ a) (hb : d ∣ b) (h1 : a < b) : a + d ≤ b := by
  obtain ⟨x, rfl⟩ := ha
  obtain ⟨y, rfl⟩ := hb
  have : x < y := Nat.lt_of_mul_lt_mul_left h1
  calc d * x + d = d * (x + 1) := by rw [Nat.mul_add, Nat.mul_one]
    _ ≤ d * y := Nat.mul_le_mul_left _ this

/-! ### A block laid -/
/-- The table in which pages are a block. -/
def setL (l : List T3) (i : Nat) (p : T3) : List T3 := l.take i ++ (p :: List.replicate (sz p - 1) inside) ++ l.drop (i + sz p)
theorem setL_len {l : List T3} {i : Nat} {p : T3} (h : i + sz p ≤ l.length) : (setL l i p).length = l.length := by
  have := sz_pos p
  unfold setL; simp; omega
theorem setL_nth {l : List T3} {i : Nat} {p : T3} (h : i + sz p ≤ l.length) {j : Nat} (hj : j < l.length) : nth (setL l i p) j = if j = i then p else if i < j ∧ j < i + sz p then inside else nth l j := by
  have hp := sz_pos p
  rw [nth_eq (by rw [setL_len h]; exact hj), nth_eq hj]
  unfold setL
  by_cases h1 : j < i
  · rw [List.getElem_append_left (by simp; omega), List.getElem_append_left (by simp; omega)]
    rw [if_neg (by omega), if_neg (by omega)]; simp
  · by_cases h2 : j < i + sz p
    · rw [List.getElem_append_left (by simp; omega), List.getElem_append_right (by simp; omega)]
      by_cases h3 : j = i
      · rw [if_pos h3]; simp [h3]
        have : i - min i l.length = 0 := by omega
        simp [this]
      · rw [if_neg h3, if_pos (by omega)]
        obtain ⟨k, hk⟩ : ∃ k, j - (l.take i).length = k + 1 := ⟨j - i - 1, by simp; omega⟩
        simp only [hk, List.getElem_cons_succ, List.getElem_replicate]
    · rw [List.getElem_append_right (by simp; omega), if_neg (by omega), if_neg (by omega)]
      simp only [List.getElem_drop]
      congr 1
      simp; omega

/-- Pages that a block may take: it begins where it should, and whole blocks lie below it. -/
structure May (l : List T3) (i : Nat) (p : T3) : Prop where
  head : headB p = true
  al : i % sz p = 0
  fit : i + sz p ≤ l.length
  small : ∀ h, Hd l i h → sz (nth l h) ≤ sz p
theorem May.begins {l : List T3} {i : Nat} {p : T3} (hv : Va l) (m : May l i p) : Rch l i := by
  have hp := sz_pos p
  have hf := m.fit
  obtain ⟨h, hh⟩ := hd_ex hv (show i < l.length by omega)
  have hs := m.small h hh
  have hok := hv h hh.r (hh.hlt (by omega))
  have e : h = i := dvd_lt (sz_pos _) (Nat.dvd_of_mod_eq_zero hok.2.1) (Nat.dvd_trans (sz_dvd' hs) (Nat.dvd_of_mod_eq_zero m.al)) hh.le hh.lt
  rw [← e]; exact hh.r
theorem May.inner {l : List T3} {i : Nat} {p : T3} (hv : Va l) (m : May l i p) {s : Nat} (hr : Rch l s) (h1 : i ≤ s) (h2 : s < i + sz p) : s + sz (nth l s) ≤ i + sz p := by
  have hb := m.begins hv
  have hf := m.fit
  have hok := hv s hr (by omega)
  rcases Nat.le_total (sz (nth l s)) (sz p) with h3 | h3
  · exact dvd_room (Nat.dvd_of_mod_eq_zero hok.2.1) (Nat.dvd_add (Nat.dvd_trans (sz_dvd' h3) (Nat.dvd_of_mod_eq_zero m.al)) (sz_dvd' h3)) h2
  · have e : i = s := dvd_lt (sz_pos p) (Nat.dvd_of_mod_eq_zero m.al) (Nat.dvd_trans (sz_dvd' h3) (Nat.dvd_of_mod_eq_zero hok.2.1)) h1 h2
    subst e
    have := m.small i (.start hr)
    omega
theorem May.ends {l : List T3} {i : Nat} {p : T3} (hv : Va l) (m : May l i p) : Rch l (i + sz p) := by
  have hp := sz_pos p
  have hf := m.fit
  have hb := m.begins hv
  obtain ⟨h, hh⟩ := hd_ex hv (show i + sz p - 1 < l.length by omega)
  have h1 : i ≤ h := by
    rcases Nat.lt_or_ge h i with h2 | h2
    · have := hh.r.sep hb h2; have := hh.lt; omega
    · exact h2
  have h3 := m.inner hv hh.r h1 (by have := hh.le; omega)
  have := hh.lt
  have hs := hh.r.step (hh.hlt (by omega))
  rw [show h + sz (nth l h) = i + sz p by omega] at hs
  exact hs
theorem May.back {l : List T3} {i : Nat} {p : T3} (hv : Va l) (m : May l i p) {s : Nat} (hr : Rch (setL l i p) s) : Rch l s ∧ (s ≤ i ∨ i + sz p ≤ s) := by
  have hp := sz_pos p
  have hb := m.begins hv
  induction hr with
  | zero => exact ⟨.zero, .inl (Nat.zero_le _)⟩
  | @step s hr hlt ih =>
    rw [setL_len m.fit] at hlt
    obtain ⟨h1, h2⟩ := ih
    rw [setL_nth m.fit hlt]
    by_cases e : s = i
    · subst e
      rw [if_pos rfl]
      exact ⟨m.ends hv, .inr (Nat.le_refl _)⟩
    · rw [if_neg e, if_neg (by omega)]
      refine ⟨h1.step hlt, ?_⟩
      rcases Nat.lt_or_ge s i with h3 | h3
      · exact .inl (h1.sep hb h3)
      · have := sz_pos (nth l s); right; omega
theorem May.forth {l : List T3} {i : Nat} {p : T3} (hv : Va l) (m : May l i p) {s : Nat} (hr : Rch l s) : (s ≤ i ∨ i + sz p ≤ s) → Rch (setL l i p) s := by
  have hp := sz_pos p
  have hb := m.begins hv
  have hlow : ∀ {s : Nat}, Rch l s → s ≤ i → Rch (setL l i p) s := by
    intro s hr
    induction hr with
    | zero => intro _; exact .zero
    | @step s hr hlt ih =>
      intro hle
      have h1 := sz_pos (nth l s)
      have hs := ih (by omega)
      have e : nth (setL l i p) s = nth l s := by rw [setL_nth m.fit hlt, if_neg (by omega), if_neg (by omega)]
      have := hs.step (by rw [setL_len m.fit]; exact hlt)
      rwa [e] at this
  have hend : Rch (setL l i p) (i + sz p) := by
    have hf := m.fit
    have := (hlow hb (Nat.le_refl _)).step (by rw [setL_len m.fit]; omega)
    rwa [setL_nth m.fit (by omega), if_pos rfl] at this
  induction hr with
  | zero => intro _; exact .zero
  | @step s hr hlt ih =>
    intro h
    rcases h with h | h
    · exact hlow (hr.step hlt) h
    · by_cases e : i + sz p = s + sz (nth l s)
      · rw [← e]; exact hend
      · have h2 : i + sz p ≤ s := by
          rcases Nat.lt_or_ge s (i + sz p) with h3 | h3
          · rcases Nat.lt_or_ge s i with h4 | h4
            · have := hr.sep hb h4; omega
            · have := m.inner hv hr h4 h3; omega
          · exact h3
        have hs := ih (.inr h2)
        have e2 : nth (setL l i p) s = nth l s := by rw [setL_nth m.fit hlt, if_neg (by omega), if_neg (by omega)]
        have := hs.step (by rw [setL_len m.fit]; exact hlt)
        rwa [e2] at this
theorem May.va {l : List T3} {i : Nat} {p : T3} (hv : Va l) (m : May l i p) : Va (setL l i p) := by
  have hp := sz_pos p
  have hb := m.begins hv
  intro s hr hlt
  rw [setL_len m.fit] at hlt
  obtain ⟨h1, h2⟩ := m.back hv hr
  have hok := hv s h1 hlt
  unfold Ok
  rw [setL_len m.fit, setL_nth m.fit hlt]
  by_cases e : s = i
  · subst e
    rw [if_pos rfl]
    refine ⟨m.head, m.al, m.fit, fun j h3 h4 => ?_⟩
    have hf := m.fit
    rw [setL_nth m.fit (by omega), if_neg (by omega), if_pos ⟨h3, h4⟩]
  · rw [if_neg e, if_neg (by omega)]
    refine ⟨hok.1, hok.2.1, hok.2.2.1, fun j h3 h4 => ?_⟩
    have := hok.2.2.1
    rw [setL_nth m.fit (by omega), if_neg, if_neg]
    · exact hok.2.2.2 j h3 h4
    · rcases Nat.lt_or_ge s i with h5 | h5
      · have := h1.sep hb h5; omega
      · omega
    · rcases Nat.lt_or_ge s i with h5 | h5
      · have := h1.sep hb h5; omega
      · omega
end Go.Proofs.Ytjkknjohmekeiaa
/- The head of a page. The table may be. -/
namespace Go.Proofs.Ytjkknjohmekeiaa
open Go.RowKit Go.Shelf
attribute [local go_sem] Oper.semAt_some

/-- What is known of each block of a table that may be. -/
def IsBlk (x : Int × T3) : Prop := headB x.2 = true ∧ 0 ≤ x.1 ∧ x.1 ≤ 1024
theorem shl_ord {p : T3} (h : headB p = true) : (∀ w, (Op.shift .shl .i64 1 .i64 p.b).run Try.prog w = .ok (.int .i64 (sz p : Int)) w) ∧ (1 : Int) ≤ sz p ∧ (sz p : Int) ≤ 1024 := by
  obtain ⟨h0, h1⟩ := headB_range h
  have z1 := sz_pos p
  have z2 := sz_le h
  refine ⟨fun w => ?_, by omega, by omega⟩
  rw [shift_shl_i64 (yk := .i64) (x := 1) (y := p.b) (by omega) (by omega)]
  have e : (1 * 2 ^ p.b.toNat : Int) = ((2 ^ p.b.toNat : Nat) : Int) := by rw [Int.one_mul]; norm_cast
  have e2 : IntKind.i64.wrap (1 * 2 ^ p.b.toNat) = (sz p : Int) := by
    rw [e, IntKind.wrap_i64]
    unfold sz at z2 ⊢
    obtain ⟨z, hz⟩ : ∃ z : Nat, 2 ^ p.b.toNat = z := ⟨_, rfl⟩
    rw [hz] at z2 ⊢
    omega
  rw [e2]; rfl
theorem tab_blk {l : List T3} (h : tabOk l = true) : ∀ x ∈ bl l, IsBlk x ∧ ∃ j : Nat, x = ((j : Int), nth l j) ∧ Rch l j ∧ j < l.length := by
  obtain ⟨h1, h2, hv⟩ := tab_iff.1 h
  have ha := va_all hv l.length 0 (by omega) .zero
  obtain ⟨e, hr, h3, h4⟩ := rch_at hv l.length (Nat.le_refl _)
  have h5 : e = l.length := by
    rcases h4 with h4 | h4
    · rcases Nat.lt_or_ge e l.length with h6 | h6
      · have := (hv e hr h6).2.2.1; omega
      · omega
    · exact h4.1
  obtain ⟨pre, e1, e2⟩ := bl_pre ha hr
  rw [bseq_out (by omega), List.append_nil] at e1
  intro x hx
  rw [e1] at hx
  obtain ⟨j, rfl, g1, g2, g3⟩ := e2 x hx
  exact ⟨⟨(hv j g1 g2).1, by show (0 : Int) ≤ (j : Int); omega, by show (j : Int) ≤ 1024; omega⟩, j, rfl, g1, g2⟩

theorem Blk.grown {W W' : World} {b T : Nat} {cs : List Value} {row : Option Nat} (h : Blk W b cs T) (hg : W.grownBy W' row) (hr : ∀ r, row = some r → ∃ o : Obj, W.heap[r]? = some o ∧ o.isCells = false) : Blk W' b cs T := by
  refine (hg.block b h.lt (fun e => ?_)).trans h
  obtain ⟨o, h1, h2⟩ := hr b e.symm
  rw [show W.heap[b]? = _ from h] at h1
  cases h1
  simp [Obj.isCells] at h2
abbrev KB := {x : Int × T3 // IsBlk x}
/-- None of these has the page. -/
def NotYet (page : Int) (pre : List KB) : Prop := ∀ y ∈ pre, y.1.1 + sz y.1.2 ≤ page
theorem NotYet.snoc {page : Int} {pre : List KB} {x : KB} (h : NotYet page pre) (hx : x.1.1 + sz x.1.2 ≤ page) : NotYet page (pre ++ [x]) := by
  intro y hy
  rcases List.mem_append.1 hy with h1 | h1
  · exact h y h1
  · simp only [List.mem_singleton] at h1; subst h1; exact hx
/-- The last one has the page, none before. -/
def Found (page : Int) (pre : List KB) (k : Int) : Prop := ∃ ini last, pre = ini ++ [last] ∧ NotYet page ini ∧ page < last.1.1 + sz last.1.2 ∧ k = last.1.1

set_option maxRecDepth 100000 in
set_option maxHeartbeats 2000000 in
theorem head109_spec (w : World) (v : Value) (l : List T3) (G : Nat → Prop) (hv : RdT G w v l) (ht : tabOk l = true) (page : Int) :
    Calls Try.prog 109 #[v, .int .i64 page] w fun e w' => e = .returned (.int .i64 (headF l page)) ∧ Ext No w w' := by
  obtain ⟨a, cap, rfl, _, hcap⟩ := hv.val
  obtain ⟨h0, h1, hva⟩ := tab_iff.1 ht
  obtain ⟨b, off, rfl, hbw, hGb, _⟩ := hv.at h0
  refine (callsIn_wide (n := 3)).1 ?_
  refine callsIn_of_wp_marks Try.func109 rfl trivial ?_ rfl
  simp only [Try.ntmps109, List.size_toArray, List.length_cons, List.length_nil, Nat.reduceAdd, Nat.reduceSub, Array.replicate_succ, Array.replicate_zero, List.push_toArray, List.append_toArray, List.nil_append, List.cons_append]
  gi_wp2
  refine ⟨trivial, ?_⟩
  refine (callsIn_wide.2 (blocks111_spec _ _ _ _)).mono ?_
  rintro e w1 ⟨rfl, rfl⟩
  gi_wp2
  obtain ⟨R, hR⟩ : ∃ R, w.heap.size = R := ⟨_, rfl⟩
  obtain ⟨W1, hW1⟩ : ∃ W1, ((w.alloc (.cells #[.int .i64 page] 3)).alloc (.cells #[.int .i64 0] 3)).alloc (.cells #[.slice (some ⟨b, off, none⟩) l.length cap] 96) = W1 := ⟨_, rfl⟩
  have hx1 : Ext No w W1 := by rw [← hW1]; exact (((Ext.refl _ _).alloc _).alloc _).alloc _
  have hB0 : Blk W1 R [.int .i64 page] 3 := by rw [← hW1]; exact ((Blk.new' hR.symm).alloc _).alloc _
  have hB1 : Blk W1 (R + 1) [.int .i64 0] 3 := by rw [← hW1]; exact (Blk.new' (by simp [hR])).alloc _
  have hB2 : Blk W1 (R + 2) [.slice (some ⟨b, off, none⟩) l.length cap] 96 := by rw [← hW1]; exact Blk.new' (by simp [hR])
  have hsz : W1.heap.size = R + 3 := by rw [← hW1]; simp [hR]
  rw [hW1, hR]
  have hv1 : RdT (Iv 0 R) W1 (.slice (some ⟨b, off, none⟩) l.length cap) l := (hv.mono (G := Iv 0 R) (fun x _ hx => ⟨Nat.zero_le _, by omega⟩)).extNo hx1
  clear hW1
  refine wpIn_rangeFunc_ownH (α := KB) (F := Fence.wide) rfl (by omega) (gf := 138) (lb := #[.pointer (some ⟨R + 2, 0, none⟩)]) rfl trivial (enters_of Try.func138 (by kernel_rfl) rfl)
    (blocks_stopsP IsBlk 2 (by omega) (R + 2) (R + 3) (R + 1) b off cap l (fun x hx => (tab_blk ht x hx).1) _ (by omega) W1 hsz (by omega) (hB2.cell' (i := 0) rfl) hv1 (fun x hx => by have := hx.2; omega) (by omega)) KS.t (KS.b (by omega)) (Below.refl _ _) (fun _ => rfl)
    (fun pre W => (NotYet page pre ∧ Blk W R [.int .i64 page] 3 ∧ Blk W (R + 1) [.int .i64 0] 3) ∧ Ext No w W)
    (fun c pre W => (c = .ret ∧ ∃ k, Found page pre k ∧ Blk W (R + 1) [.int .i64 k] 3) ∧ Ext No w W)
    (ownE (fun s W W' h hx => ⟨⟨h.1.1, h.1.2.1.ext hx (by omega), h.1.2.2.ext hx (by omega)⟩, h.2.transNew hx (fun x hx => by omega)⟩))
    (fun c => ownE (fun s W W' h hx => ⟨⟨h.1.1, h.1.2.choose, h.1.2.choose_spec.1, h.1.2.choose_spec.2.ext hx (by omega)⟩, h.2.transNew hx (fun x hx => by omega)⟩))
    ⟨⟨(fun y hy => by cases hy), hB0, hB1⟩, hx1⟩
    (fun x a' W => ∃ B, R + 2 ≤ B ∧ Blk W B [.int .i64 x.1.2.a, .int .i64 x.1.2.b, .int .i64 x.1.2.c] 98 ∧ a' = { tmps := #[.slice (some ⟨b, off, none⟩) l.length cap, .int .i64 page, undef, .pointer (some ⟨R, 0, none⟩), .pointer (some ⟨R + 1, 0, none⟩), .int .i64 x.1.1, .pointer (some ⟨B, 0, none⟩), .slice (some ⟨b, off, none⟩) l.length cap, .func (.func 138) #[] #[.pointer (some ⟨R + 2, 0, none⟩)], .int .i64 x.1.1, .agg #[.int .i64 x.1.2.a, .int .i64 x.1.2.b, .int .i64 x.1.2.c], undef, undef, undef, undef, undef, undef, undef, undef], defers := [] })
    (fun x a' s W W' row ⟨B, h1, h2, h3⟩ hg hr => ⟨B, h1, h2.grown hg (fun r e => (hr r e).2), h3⟩) ?assign ?body ?done ?stop
  case assign =>
    rintro ll pre x W K ⟨⟨hp, hB0, hB1⟩, hx⟩ hK
    simp only [encs]
    gi_wp2
    have ha : Ext No W (W.alloc (.cells #[.int .i64 x.1.2.a, .int .i64 x.1.2.b, .int .i64 x.1.2.c] 98)) := (Ext.refl _ _).alloc _
    exact hK _ _ ((KeepsOthers.alloc _ _).from _) (ha.of_no) ⟨⟨hp, hB0.alloc _, hB1.alloc _⟩, hx.transNo ha⟩ ⟨W.heap.size, hB1.lt, Blk.new' rfl, rfl⟩
  case body =>
    rintro ll pre x a' W hl hex ⟨⟨hp, hB0, hB1⟩, hx⟩ ⟨B, hB, hBX, rfl⟩ _
    have q0 := hB0.cell' (i := 0) rfl
    have q1 := hB1.cell' (i := 0) rfl
    have f1 := hB1.frozen 0
    have q2 := hBX.cell' (i := 1) rfl
    obtain ⟨hsh, z1, z2⟩ := shl_ord x.2.1
    have y1 := x.2.2.1
    have y2 := x.2.2.2
    have hmx : Try.prog.follows .mixedOrders = true := by kernel_rfl
    have hk : (k : Int) → Ext No w (W.drew.setCell ⟨R + 1, 0, none⟩ (.int .i64 k)) := fun k => hx.drew.setCell _ _ (.inl (by rw [hR]; exact Nat.le_succ _))
    have hBs : (k : Int) → Blk (W.drew.setCell ⟨R + 1, 0, none⟩ (.int .i64 k)) (R + 1) [.int .i64 k] 3 := fun k => hB1.drew.set 0 (.int .i64 k)
    have hk' := Lib.hid hk; clear hk
    have hBs' := Lib.hid hBs; clear hBs
    have hwr : IntKind.i64.wrap (x.1.1 + (sz x.1.2 : Int)) = x.1.1 + sz x.1.2 := by rw [IntKind.wrap_i64]; omega
    by_cases h : page < x.1.1 + sz x.1.2
    · gi_wp2
      gi_region_with_o (fail)
      all_goals
        clear hwr
        gi_wp2
        exact ⟨((KeepsOthers.drew _).trans (KeepsOthers.setCell _ _ _)).from _, ⟨rfl, _, ⟨pre, x, rfl, hp, h, rfl⟩, hBs'.out _⟩, hk'.out _⟩
    · have h' : x.1.1 + sz x.1.2 ≤ page := by omega
      have hd : decide (page < x.1.1 + (sz x.1.2 : Int)) = false := decide_eq_false h
      gi_wp2
      gi_region_with_o (fail)
      all_goals
        clear hwr
        gi_wp2
        exact ⟨(KeepsOthers.drew _).from _, (Ext.refl _ _).drew, ⟨hp.snoc h', hB0.drew, hB1.drew⟩, hx.drew⟩
  case done =>
    rintro D ys W hD hys ⟨⟨hne, hB0, hB1⟩, hx⟩ hK
    have c0 := hB1.cell' (i := 0) rfl
    have f0 := hB1.frozen 0
    have hr : Hid (headF l page = 0) := by
      show _ = _
      unfold headF
      rw [List.find?_eq_none.2]
      intro x hxm
      rw [← hys] at hxm
      obtain ⟨y, hy, rfl⟩ := List.mem_map.1 hxm
      have := hne y hy
      simp only [decide_eq_true_eq]; omega
    have hBs := Lib.hid (hB1.set 0 (.int .i64 0))
    have hset : Ext No w (W.setCell ⟨R + 1, 0, none⟩ (.int .i64 0)) := hx.setCell _ _ (.inl (by rw [hR]; exact Nat.le_succ _))
    clear hys
    gi_wp2
    have hK' := (KeepsOthers.setCell W ⟨R + 1, 0, none⟩ (.int .i64 0)).same D _ hK rfl
    refine ⟨by simp, .inl ⟨_, _, rfl, run_takeDeferred hK', ?_⟩⟩
    have hE : Ext (fun x => x = D) (W.setCell ⟨R + 1, 0, none⟩ (.int .i64 0)) ((W.setCell ⟨R + 1, 0, none⟩ (.int .i64 0)).putObj D (.deferred none)) := (Ext.of_grownBy (grownBy_putObj' _ D (.deferred none))).mono (fun x _ h => by cases h; rfl)
    have hc5 := (hBs.out.ext hE (fun e : R + 1 = D => by omega)).cell' (i := 0) rfl
    refine ⟨.int .i64 0, ?_, by rw [hr.out], hset.transNew hE (fun x (e : x = D) => by omega)⟩
    simp [results, Try.f109, go_sem, hc5]
  case stop =>
    rintro D c pre W hD hpre ⟨⟨rfl, k, ⟨ini, last, rfl, hni, hlt, rfl⟩, hB⟩, hx⟩ hK
    have hr : Hid (headF l page = last.1.1) := by
      show _ = _
      obtain ⟨t, ht⟩ := hpre
      unfold headF
      rw [← ht, List.find?_append]
      have h1 : (ini ++ [last]).map (·.1) = ini.map (·.1) ++ [last.1] := by simp
      rw [h1, List.find?_append]
      have h2 : (ini.map (·.1)).find? (fun x => decide (page < x.1 + sz x.2)) = none := by
        rw [List.find?_eq_none]
        intro x hxm
        obtain ⟨y, hy, rfl⟩ := List.mem_map.1 hxm
        have := hni y hy
        simp only [decide_eq_true_eq]; omega
      rw [h2, Option.none_or, List.find?_cons, decide_eq_true hlt]
      rfl
    gi_wp2
    refine ⟨by simp, .inl ⟨_, _, rfl, run_takeDeferred hK, ?_⟩⟩
    have hE : Ext (fun x => x = D) W (W.putObj D (.deferred none)) := (Ext.of_grownBy (grownBy_putObj' _ D (.deferred none))).mono (fun x _ h => by cases h; rfl)
    have hc5 := (hB.ext hE (fun e : R + 1 = D => by omega)).cell' (i := 0) rfl
    refine ⟨.int .i64 last.1.1, ?_, by rw [hr.out], hx.transNew hE (fun x (e : x = D) => by omega)⟩
    simp [results, Try.f109, go_sem, hc5]
end Go.Proofs.Ytjkknjohmekeiaa
/- Head, Free, Clone of a table. No condition but that a table that is cloned fits into memory. -/
namespace Go.Proofs.Ytjkknjohmekeiaa
open Go.RowKit Go.Shelf
attribute [local go_sem] Oper.semAt_some

def inT (l : List T3) (page : Int) : Bool := decide (0 ≤ page) && decide (page < l.length)
def headE (l : List T3) (page : Int) : Int := if tabOk l then if inT l page then 0 else 9 else 50
def headR (l : List T3) (page : Int) : Int := if tabOk l then if inT l page then headF l page else 0 else 0
theorem chk_ok {l : List T3} (h : tabOk l = true) : chkE l = 0 := by unfold chkE; rw [h]; rfl
theorem chk_bad {l : List T3} (h : tabOk l = false) : chkE l = 50 := by unfold chkE; rw [h]; rfl

set_option maxHeartbeats 800000 in
theorem head63_spec (w : World) (v : Value) (l : List T3) (G : Nat → Prop) (hv : RdT G w v l) (page : Int) :
    Calls Try.prog 63 #[v, .int .i64 page] w fun e w' => e = .returned (.tuple #[.int .i64 (headR l page), .int .i64 (headE l page)]) ∧ Ext No w w' := by
  obtain ⟨a, cap, rfl, _, hcap⟩ := hv.val
  cases ht : tabOk l
  · have h1 : Hid (headR l page = 0) := by show _ = _; unfold headR; rw [ht]; rfl
    have h2 : Hid (headE l page = 50) := by show _ = _; unfold headE; rw [ht]; rfl
    have hc := Lib.hid (chk_bad ht)
    clear ht
    go_enter Try.func63, Try.ntmps63
    go_wp2_with fail
    refine (check61_spec w _ l G hv).mono ?_
    rintro e w1 ⟨rfl, hx⟩
    rw [hc.out]
    go_wp2_with fail
    go_ret2
    exact ⟨by rw [h1.out, h2.out]; rfl, hx⟩
  · have hc := Lib.hid (chk_ok ht)
    have ht' := Lib.hid ht
    by_cases hp : page < 0
    · have h0 : inT l page = false := by unfold inT; rw [decide_eq_false (show ¬ 0 ≤ page by omega)]; rfl
      have h1 : Hid (headR l page = 0) := by show _ = _; unfold headR; rw [ht, h0]; rfl
      have h2 : Hid (headE l page = 9) := by show _ = _; unfold headE; rw [ht, h0]; rfl
      clear ht h0
      go_enter Try.func63, Try.ntmps63
      go_wp2_with fail
      refine (check61_spec w _ l G hv).mono ?_
      rintro e w1 ⟨rfl, hx⟩
      rw [hc.out]
      go_wp2_with fail
      go_ret2
      exact ⟨by rw [h1.out, h2.out]; rfl, hx⟩
    · have hp' : 0 ≤ page := by omega
      by_cases hq : page < l.length
      · have h0 : inT l page = true := by unfold inT; rw [decide_eq_true hp', decide_eq_true hq]; rfl
        have h1 : Hid (headR l page = headF l page) := by show _ = _; unfold headR; rw [ht, h0]; rfl
        have h2 : Hid (headE l page = 0) := by show _ = _; unfold headE; rw [ht, h0]; rfl
        have hd : decide ((l.length : Int) ≤ page) = false := decide_eq_false (by omega)
        clear ht h0 hp
        go_enter Try.func63, Try.ntmps63
        go_wp2_with fail
        refine (check61_spec w _ l G hv).mono ?_
        rintro e w1 ⟨rfl, hx⟩
        rw [hc.out]
        go_wp2_with fail
        refine (head109_spec w1 _ l G (hv.extNo hx) ht'.out page).mono ?_
        rintro e w2 ⟨rfl, hx2⟩
        go_wp2_with fail
        go_ret2
        exact ⟨by rw [h1.out, h2.out]; rfl, hx.transNo hx2⟩
      · have h0 : inT l page = false := by unfold inT; rw [decide_eq_false hq, Bool.and_false]
        have h1 : Hid (headR l page = 0) := by show _ = _; unfold headR; rw [ht, h0]; rfl
        have h2 : Hid (headE l page = 9) := by show _ = _; unfold headE; rw [ht, h0]; rfl
        have hq' : (l.length : Int) ≤ page := by omega
        clear ht h0 hp hq
        go_enter Try.func63, Try.ntmps63
        go_wp2_with fail
        refine (check61_spec w _ l G hv).mono ?_
        rintro e w1 ⟨rfl, hx⟩
        rw [hc.out]
        go_wp2_with fail
        go_ret2
        exact ⟨by rw [h1.out, h2.out]; rfl, hx⟩

theorem ty_page : SlTy 96 98 3 24 := .mk' (z := .agg #[.int .i64 0, .int .i64 0, .int .i64 0]) (by kernel_rfl) Try.underlying96 rfl (by decide)
theorem own_new3 {w : World} {base e b : Nat} (h : Blk w b [] e) (hb : base ≤ b) : w.ownsRow base e 3 (.slice (some ⟨b, 0, none⟩) 0 0) 0 [] :=
  ⟨rfl, .inr ⟨b, 0, #[], rfl, hb, h, Nat.le_refl _, by unfold maxLen; omega, rfl, rfl⟩⟩
theorem own_rdT {w : World} {base e : Nat} {v : Value} {l : List T3} (h : w.ownsRow base e 3 v l.length (t3sCells l)) : RdT (OwnOf v) w v l := Rd.of_own h

set_option maxRecDepth 100000 in
set_option maxHeartbeats 800000 in
theorem clone110_spec (w : World) (v : Value) (l : List T3) (F : Nat → Prop) (hv : RdT F w v l) (hlen : l.length * 24 ≤ 140737488355328) :
    Calls Try.prog 110 #[v] w fun e w' => ∃ r, e = .returned r ∧ w'.ownsRow w.heap.size 98 3 r l.length (t3sCells l) ∧ Ext No w w' := by
  obtain ⟨a, cap, rfl, _, _⟩ := hv.val
  cases a with
  | none =>
    have hl : l.length = 0 := by
      rcases Nat.eq_zero_or_pos l.length with h | h
      · exact h
      · obtain ⟨b, off, e, _⟩ := hv.at h
        cases e
    obtain rfl : l = [] := List.eq_nil_of_length_eq_zero hl
    have he : ∀ (n c : Nat) (w : World), (binOp .eql 96 (.slice none n c) (.slice none 0 0)).run Try.prog w = .ok (.bool true) w := fun _ _ _ => rfl
    go_enter Try.func110, Try.ntmps110
    go_wp2_with fail
    go_ret
    exact ⟨_, rfl, World.ownsRow_nil w w.heap.size 98 3, Ext.refl _ _⟩
  | some p =>
    have he : ∀ (n c : Nat) (w : World), (binOp .eql 96 (.slice (some p) n c) (.slice none 0 0)).run Try.prog w = .ok (.bool false) w := fun _ _ _ => rfl
    go_enter Try.func110, Try.ntmps110
    go_wp2_with (at_builtin; refine stop_here ?_)
    refine Stop.mk ?_
    have hxa : Ext No w (w.alloc (.cells #[] 98)) := (Ext.refl _ _).alloc _
    have hBa : Blk (w.alloc (.cells #[] 98)) w.heap.size [] 98 := Blk.new _ _ _
    have hown0 : (w.alloc (.cells #[] 98)).ownsRow w.heap.size 98 3 (.slice (some ⟨w.heap.size, 0, none⟩) 0 0) 0 [] := own_new3 hBa (Nat.le_refl _)
    refine wpList_app (v := .slice (some ⟨w.heap.size, 0, none⟩) 0 0) ty_page rfl _ _ rfl rfl hown0 rfl (hv.extNo hxa) (t3s_one l) (by omega) (by unfold maxLen; omega) (by simp only [World.size_alloc]; omega) ?_
    intro v' w' hown hx _ hfr
    simp only [Nat.zero_add, List.nil_append] at hown
    go_wp2_with fail
    go_ret
    exact ⟨_, rfl, hown, hxa.trans hx (fun x hx' hs => by have := (hown0.lt x hs).1; omega)⟩

/-! ### Free -/
def freeS : List (Int × T3) → Int
  | [] => 0
  | x :: r => (if x.2.a == 0 then (sz x.2 : Int) else 0) + freeS r
def freeF (l : List T3) : Int := if tabOk l then freeS (bl l) else 0
theorem freeS_snoc (pre : List (Int × T3)) (x : Int × T3) : freeS (pre ++ [x]) = freeS pre + (if x.2.a == 0 then (sz x.2 : Int) else 0) := by
  induction pre with
  | nil => simp [freeS]
  | cons y r ih => simp only [List.cons_append, freeS, ih]; omega
def frees (pre : List KB) : Int := freeS (pre.map (·.1))
theorem frees_snoc (pre : List KB) (x : KB) : frees (pre ++ [x]) = frees pre + (if x.1.2.a == 0 then (sz x.1.2 : Int) else 0) := by
  unfold frees; rw [List.map_append]; exact freeS_snoc _ _
theorem frees_bd : ∀ (pre : List KB), 0 ≤ frees pre ∧ frees pre ≤ 1024 * pre.length
  | [] => by simp [frees, freeS]
  | x :: r => by
    have ih := frees_bd r
    have h1 := sz_le x.2.1
    unfold frees at ih ⊢
    simp only [List.map_cons, freeS, List.length_cons]
    split <;> omega
theorem bseqF_len (l : List T3) : ∀ f i, (bseqF l f i).length ≤ f
  | 0, i => by simp [bseqF]
  | f + 1, i => by
    simp only [bseqF]
    split
    · split
      · have := bseqF_len l f (i + sz (nth l i)); simp only [List.length_cons]; omega
      · simp
    · simp
theorem bl_len (l : List T3) : (bl l).length ≤ l.length := bseqF_len l l.length 0

set_option maxRecDepth 100000 in
set_option maxHeartbeats 2000000 in
theorem free64_spec (w : World) (v : Value) (l : List T3) (G : Nat → Prop) (hv : RdT G w v l) :
    Calls Try.prog 64 #[v] w fun e w' => e = .returned (.int .i64 (freeF l)) ∧ Ext No w w' := by
  obtain ⟨a, cap, rfl, _, hcap⟩ := hv.val
  cases ht : tabOk l
  · have hr : Hid (freeF l = 0) := by show _ = _; unfold freeF; rw [ht]; rfl
    have hc := Lib.hid (chk_bad ht)
    clear ht
    obtain ⟨R, hR⟩ : ∃ R, w.heap.size = R := ⟨_, rfl⟩
    have hxa : Ext No w (w.alloc (.cells #[.int .i64 0] 3)) := (Ext.refl _ _).alloc _
    have hB : Blk (w.alloc (.cells #[.int .i64 0] 3)) R [.int .i64 0] 3 := Blk.new' hR.symm
    go_enter Try.func64, Try.ntmps64
    go_wp2_with fail
    try rw [hR]
    refine (check61_spec _ _ l G (hv.extNo hxa)).mono ?_
    rintro e w1 ⟨rfl, hx⟩
    rw [hc.out]
    have hB1 := hB.extNo hx
    have c0 := hB1.cell' (i := 0) rfl
    have f0 := hB1.frozen 0
    have hset : Ext No w (w1.setCell ⟨R, 0, none⟩ (.int .i64 0)) := (hxa.transNo hx).setCell _ _ (.inl (by rw [hR]; exact Nat.le_refl _))
    have hc5 := (hB1.set 0 (.int .i64 0)).cell' (i := 0) rfl
    have hc5' := Lib.hid hc5; clear hc5
    go_wp2_with fail
    have hc5 := hc5'.out
    refine bodyPost_ret (v := .int .i64 0) ?_ rfl ⟨by rw [hr.out], hset⟩
    simp [results, Try.results64, go_sem, hc5]
  · obtain ⟨h0, h1, hva⟩ := tab_iff.1 ht
    obtain ⟨b, off, rfl, hbw, hGb, _⟩ := hv.at h0
    have hc := Lib.hid (chk_ok ht)
    have hblk := fun x hx => (tab_blk ht x hx).1
    have hr : Hid (freeF l = freeS (bl l)) := by show _ = _; unfold freeF; rw [ht]; rfl
    have hbl := bl_len l
    clear ht
    refine (callsIn_wide (n := 3)).1 ?_
    refine callsIn_of_wp_marks Try.func64 rfl trivial ?_ rfl
    simp only [Try.ntmps64, List.size_toArray, List.length_cons, List.length_nil, Nat.reduceAdd, Nat.reduceSub, Array.replicate_succ, Array.replicate_zero, List.push_toArray, List.append_toArray, List.nil_append, List.cons_append]
    gi_wp2
    refine ⟨trivial, ?_⟩
    have hxa : Ext No w (w.alloc (.cells #[.int .i64 0] 3)) := (Ext.refl _ _).alloc _
    refine (callsIn_wide.2 (check61_spec _ _ l G (hv.extNo hxa))).mono ?_
    rintro e w1 ⟨rfl, hx⟩
    rw [hc.out]
    obtain ⟨R, hR⟩ : ∃ R, w.heap.size = R := ⟨_, rfl⟩
    have hB1 : Blk w1 R [.int .i64 0] 3 := (Blk.new' hR.symm).extNo hx
    rw [hR]
    gi_wp2
    refine ⟨trivial, ?_⟩
    refine (callsIn_wide.2 (blocks111_spec _ _ _ _)).mono ?_
    rintro e w2 ⟨rfl, rfl⟩
    gi_wp2
    obtain ⟨L, hL⟩ : ∃ L, w1.heap.size = L := ⟨_, rfl⟩
    have hRL : R < L := by have := hB1.lt; omega
    obtain ⟨W1, hW1⟩ : ∃ W1, w1.alloc (.cells #[.slice (some ⟨b, off, none⟩) l.length cap] 96) = W1 := ⟨_, rfl⟩
    have hx0 : Ext No w w1 := hxa.transNo hx
    have hx1 : Ext No w W1 := by rw [← hW1]; exact hx0.alloc _
    have hBR : Blk W1 R [.int .i64 0] 3 := by rw [← hW1]; exact hB1.alloc _
    have hBL : Blk W1 L [.slice (some ⟨b, off, none⟩) l.length cap] 96 := by rw [← hW1]; exact Blk.new' hL.symm
    have hsz : W1.heap.size = L + 1 := by rw [← hW1]; simp [hL]
    rw [hW1, hL]
    have hv1 : RdT (Iv 0 R) W1 (.slice (some ⟨b, off, none⟩) l.length cap) l := (hv.mono (G := Iv 0 R) (fun x _ hx => ⟨Nat.zero_le _, by omega⟩)).extNo hx1
    clear hW1 hL hB1 hx hxa hx0
    refine wpIn_rangeFunc_ownH (α := KB) (F := Fence.wide) rfl (by omega) (gf := 138) (lb := #[.pointer (some ⟨L, 0, none⟩)]) rfl trivial (enters_of Try.func138 (by kernel_rfl) rfl)
      (blocks_stopsP IsBlk 2 (by omega) L (L + 1) R b off cap l hblk _ (by omega) W1 hsz (by omega) (hBL.cell' (i := 0) rfl) hv1 (fun x hx => by have := hx.2; omega) (by omega)) KS.t (KS.b (by omega)) (Below.refl _ _) (fun _ => rfl)
      (fun pre W => Blk W R [.int .i64 (frees pre)] 3 ∧ Ext No w W)
      (fun _ _ _ => False)
      (ownE (fun s W W' h hx => ⟨h.1.ext hx (by omega), h.2.transNew hx (fun x hx => by omega)⟩))
      (fun c => ownE (fun s W W' h hx => h.elim))
      ⟨hBR, hx1⟩
      (fun x a' W => ∃ B, R < B ∧ Blk W B [.int .i64 x.1.2.a, .int .i64 x.1.2.b, .int .i64 x.1.2.c] 98 ∧ a' = { tmps := #[.slice (some ⟨b, off, none⟩) l.length cap, undef, .pointer (some ⟨R, 0, none⟩), undef, .pointer (some ⟨B, 0, none⟩), .slice (some ⟨b, off, none⟩) l.length cap, .int .i64 0, .bool false, .slice (some ⟨b, off, none⟩) l.length cap, .func (.func 138) #[] #[.pointer (some ⟨L, 0, none⟩)], .int .i64 x.1.1, .agg #[.int .i64 x.1.2.a, .int .i64 x.1.2.b, .int .i64 x.1.2.c], undef, undef, undef, undef, undef, undef, undef, undef, undef], defers := [] })
      (fun x a' s W W' row ⟨B, h1, h2, h3⟩ hg hr => ⟨B, h1, h2.grown hg (fun r e => (hr r e).2), h3⟩) ?assign ?body ?done ?stop
    case assign =>
      rintro ll pre x W K ⟨hB, hx⟩ hK
      simp only [encs]
      gi_wp2
      have ha : Ext No W (W.alloc (.cells #[.int .i64 x.1.2.a, .int .i64 x.1.2.b, .int .i64 x.1.2.c] 98)) := (Ext.refl _ _).alloc _
      exact hK _ _ ((KeepsOthers.alloc _ _).from _) (ha.of_no) ⟨hB.alloc _, hx.transNo ha⟩ ⟨W.heap.size, hB.lt, Blk.new' rfl, rfl⟩
    case body =>
      rintro ll pre x a' W hl hex ⟨hB0, hx⟩ ⟨B, hB, hBX, rfl⟩ hlt
      have q0 := hB0.cell' (i := 0) rfl
      have f0 := hB0.frozen 0
      have q1 := hBX.cell' (i := 0) rfl
      have q2 := hBX.cell' (i := 1) rfl
      obtain ⟨hsh, z1, z2⟩ := shl_ord x.2.1
      have hmx : Try.prog.follows .mixedOrders = true := by kernel_rfl
      obtain ⟨n0, n1⟩ := frees_bd pre
      have hwr : IntKind.i64.wrap (frees pre + (sz x.1.2 : Int)) = frees pre + sz x.1.2 := by rw [IntKind.wrap_i64]; omega
      cases hk : (x.1.2.a == 0)
      · have hsn : Hid (frees (pre ++ [x]) = frees pre) := by show _ = _; rw [frees_snoc, hk]; simp
        clear hwr
        gi_wp2
        exact ⟨KeepsFrom.refl _ _, Ext.refl _ _, by rw [hsn.out]; exact hB0, hx⟩
      · have hsn : Hid (frees (pre ++ [x]) = frees pre + sz x.1.2) := by show _ = _; rw [frees_snoc, hk]; rfl
        have hBs : Hid (Blk (W.drew.setCell ⟨R, 0, none⟩ (.int .i64 (frees pre + sz x.1.2))) R [.int .i64 (frees pre + sz x.1.2)] 3) := hB0.drew.set 0 _
        have hst : Hid (Ext No w (W.drew.setCell ⟨R, 0, none⟩ (.int .i64 (frees pre + sz x.1.2)))) := hx.drew.setCell _ _ (.inl (by rw [hR]; exact Nat.le_refl _))
        gi_wp2
        gi_region_with_o (fail)
        all_goals
          clear hwr
          gi_wp2
          exact ⟨((KeepsOthers.setCell _ _ _).trans (KeepsOthers.drew _)).from _, ((Ext.refl _ _).setCell _ _ (.inr (.inr rfl))).drew, by rw [hsn.out]; exact hBs.out, hst.out⟩
    case done =>
      rintro D ys W hD hys ⟨hB, hx⟩ hK
      have c0 := hB.cell' (i := 0) rfl
      have f0 := hB.frozen 0
      have hfr : Hid (frees ys = freeS (bl l)) := by show _ = _; unfold frees; rw [hys]
      have hBs := Lib.hid (hB.set 0 (.int .i64 (frees ys)))
      have hset : Ext No w (W.setCell ⟨R, 0, none⟩ (.int .i64 (frees ys))) := hx.setCell _ _ (.inl (by rw [hR]; exact Nat.le_refl _))
      clear hys
      gi_wp2
      have hK' := (KeepsOthers.setCell W ⟨R, 0, none⟩ (.int .i64 (frees ys))).same D _ hK rfl
      refine ⟨by simp, .inl ⟨_, _, rfl, run_takeDeferred hK', ?_⟩⟩
      have hE : Ext (fun x => x = D) (W.setCell ⟨R, 0, none⟩ (.int .i64 (frees ys))) ((W.setCell ⟨R, 0, none⟩ (.int .i64 (frees ys))).putObj D (.deferred none)) := (Ext.of_grownBy (grownBy_putObj' _ D (.deferred none))).mono (fun x _ h => by cases h; rfl)
      have hc5 := (hBs.out.ext hE (fun e : R = D => by omega)).cell' (i := 0) rfl
      refine ⟨.int .i64 (frees ys), ?_, by rw [hr.out, hfr.out], hset.transNew hE (fun x (e : x = D) => by omega)⟩
      simp [results, Try.f64, go_sem, hc5]
    case stop =>
      rintro D c pre W hD hpre h hK
      exact h.elim
end Go.Proofs.Ytjkknjohmekeiaa
