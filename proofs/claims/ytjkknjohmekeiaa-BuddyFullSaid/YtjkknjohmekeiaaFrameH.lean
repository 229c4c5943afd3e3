/- The chapter's tables are as the chapter says. No condition. -/
import Derived.Test.YtjkknjohmekeiaaFrameG
namespace Go.Proofs.Ytjkknjohmekeiaa
open Go.RowKit

theorem k1 : chkE [⟨0, 1, 0⟩, ⟨1, 0, 0⟩, ⟨0, 0, 0⟩] = 0 := by decide
theorem k2 : chkE [⟨0, 0, 0⟩, ⟨0, 1, 0⟩, ⟨1, 0, 0⟩] = 50 := by decide
theorem k3 : chkE [⟨0, 0, 0⟩, ⟨1, 0, 0⟩] = 50 := by decide
theorem k4 : chkE [] = 50 := by decide
theorem k5 : headR [⟨2, 1, 1⟩, ⟨1, 0, 0⟩, ⟨0, 0, 0⟩] 1 = 0 ∧ headE [⟨2, 1, 1⟩, ⟨1, 0, 0⟩, ⟨0, 0, 0⟩] 1 = 0 := by decide
theorem k6 : freeF [⟨2, 1, 1⟩, ⟨1, 0, 0⟩, ⟨0, 0, 0⟩] = 1 := by decide
theorem k7 : tabOk [⟨0, 0, 0⟩, ⟨0, 0, 0⟩, ⟨0, 0, 0⟩] = true := by decide
theorem k8 : setL [⟨0, 0, 0⟩, ⟨0, 0, 0⟩, ⟨0, 0, 0⟩] 0 ⟨2, 1, 1⟩ = [⟨2, 1, 1⟩, ⟨1, 0, 0⟩, ⟨0, 0, 0⟩] := by decide
theorem k9 : tabOk [⟨0, 1, 0⟩, ⟨1, 0, 0⟩, ⟨0, 0, 0⟩] = true := by decide

/-- The chapter's four pages, in blocks of their own. -/
structure Four (w : World) (A : Nat) : Prop where
  b0 : Blk w A [.int .i64 0, .int .i64 0, .int .i64 0] 98
  b1 : Blk w (A + 1) [.int .i64 1, .int .i64 0, .int .i64 0] 98
  b2 : Blk w (A + 1 + 1) [.int .i64 0, .int .i64 1, .int .i64 0] 98
  b3 : Blk w (A + 1 + 1 + 1) [.int .i64 2, .int .i64 1, .int .i64 1] 98
theorem Four.ext {w w' : World} {A : Nat} (h : Four w A) (hx : Ext No w w') : Four w' A := ⟨h.b0.extNo hx, h.b1.extNo hx, h.b2.extNo hx, h.b3.extNo hx⟩

theorem rdT_new {w : World} (l : List T3) (n : Nat) (hn : l.length = n) (hm : n ≤ 1024) : RdT (One w.heap.size) (w.alloc (.cells (t3sCells l).toArray 98)) (.slice (some ⟨w.heap.size, 0, none⟩) n n) l := by
  subst hn
  exact Rd.of_blk (Blk.new w (t3sCells l) 98) (t3sCells_len l) (by unfold maxLen; omega)

set_option maxRecDepth 100000 in
set_option maxHeartbeats 6400000 in
theorem works59_spec (w : World) :
    Calls Try.prog 59 #[] w fun e w' => e = .returned (.bool true) ∧ Ext No w w' := by
  go_enter Try.func59, Try.ntmps59
  go_wp2_with fail
  have hx0 : Ext No w ((((w.alloc (.cells #[.int .i64 0, .int .i64 0, .int .i64 0] 98)).alloc (.cells #[.int .i64 1, .int .i64 0, .int .i64 0] 98)).alloc (.cells #[.int .i64 0, .int .i64 1, .int .i64 0] 98)).alloc (.cells #[.int .i64 2, .int .i64 1, .int .i64 1] 98)) := ((((Ext.refl _ _).alloc _).alloc _).alloc _).alloc _
  obtain ⟨A, hA⟩ : ∃ A, w.heap.size = A := ⟨_, rfl⟩
  have hF : Four ((((w.alloc (.cells #[.int .i64 0, .int .i64 0, .int .i64 0] 98)).alloc (.cells #[.int .i64 1, .int .i64 0, .int .i64 0] 98)).alloc (.cells #[.int .i64 0, .int .i64 1, .int .i64 0] 98)).alloc (.cells #[.int .i64 2, .int .i64 1, .int .i64 1] 98)) A :=
    ⟨(((Blk.new' hA.symm).alloc _).alloc _).alloc _, ((Blk.new' (by simp [hA])).alloc _).alloc _, (Blk.new' (by simp [hA])).alloc _, Blk.new' (by simp [hA])⟩
  have hs0 : ((((w.alloc (.cells #[.int .i64 0, .int .i64 0, .int .i64 0] 98)).alloc (.cells #[.int .i64 1, .int .i64 0, .int .i64 0] 98)).alloc (.cells #[.int .i64 0, .int .i64 1, .int .i64 0] 98)).alloc (.cells #[.int .i64 2, .int .i64 1, .int .i64 1] 98)).heap.size = A + 1 + 1 + 1 + 1 := by simp [hA]
  obtain ⟨W, hW⟩ : ∃ W, (((w.alloc (.cells #[.int .i64 0, .int .i64 0, .int .i64 0] 98)).alloc (.cells #[.int .i64 1, .int .i64 0, .int .i64 0] 98)).alloc (.cells #[.int .i64 0, .int .i64 1, .int .i64 0] 98)).alloc (.cells #[.int .i64 2, .int .i64 1, .int .i64 1] 98) = W := ⟨_, rfl⟩
  rw [hW] at hx0 hF hs0 ⊢
  rw [hA, ← hs0]
  clear hW hs0 hA
  have ha1 : Ext No W (W.alloc (.cells #[.int .i64 0, .int .i64 1, .int .i64 0, .int .i64 1, .int .i64 0, .int .i64 0, .int .i64 0, .int .i64 0, .int .i64 0] 98)) := (Ext.refl _ _).alloc _
  have hr1 : RdT (One W.heap.size) (W.alloc (.cells #[.int .i64 0, .int .i64 1, .int .i64 0, .int .i64 1, .int .i64 0, .int .i64 0, .int .i64 0, .int .i64 0, .int .i64 0] 98)) (.slice (some ⟨W.heap.size, 0, none⟩) 3 3) [⟨0, 1, 0⟩, ⟨1, 0, 0⟩, ⟨0, 0, 0⟩] := rdT_new [⟨0, 1, 0⟩, ⟨1, 0, 0⟩, ⟨0, 0, 0⟩] 3 rfl (by decide)
  refine (check61_spec _ _ [⟨0, 1, 0⟩, ⟨1, 0, 0⟩, ⟨0, 0, 0⟩] _ hr1).mono ?_
  rintro e w1 ⟨rfl, hx1⟩
  rw [k1]
  have hx0 := (hx0.transNo ha1).transNo hx1
  have hF := (hF.ext ha1).ext hx1
  have c00 := hF.b0.cell' (i := 0) rfl
  have c01 := hF.b0.cell' (i := 1) rfl
  have c02 := hF.b0.cell' (i := 2) rfl
  have c10 := hF.b1.cell' (i := 0) rfl
  have c11 := hF.b1.cell' (i := 1) rfl
  have c12 := hF.b1.cell' (i := 2) rfl
  have c20 := hF.b2.cell' (i := 0) rfl
  have c21 := hF.b2.cell' (i := 1) rfl
  have c22 := hF.b2.cell' (i := 2) rfl
  have c30 := hF.b3.cell' (i := 0) rfl
  have c31 := hF.b3.cell' (i := 1) rfl
  have c32 := hF.b3.cell' (i := 2) rfl
  have l0 := hF.b0.lt
  have l1 := hF.b1.lt
  have l2 := hF.b2.lt
  have l3 := hF.b3.lt
  go_wp2_with fail
  clear l0 l1 l2 l3 c00 c01 c02 c10 c11 c12 c20 c21 c22 c30 c31 c32
  have ha2 : Ext No w1 (w1.alloc (.cells #[.int .i64 0, .int .i64 0, .int .i64 0, .int .i64 0, .int .i64 1, .int .i64 0, .int .i64 1, .int .i64 0, .int .i64 0] 98)) := (Ext.refl _ _).alloc _
  have hr2 : RdT (One w1.heap.size) (w1.alloc (.cells #[.int .i64 0, .int .i64 0, .int .i64 0, .int .i64 0, .int .i64 1, .int .i64 0, .int .i64 1, .int .i64 0, .int .i64 0] 98)) (.slice (some ⟨w1.heap.size, 0, none⟩) 3 3) [⟨0, 0, 0⟩, ⟨0, 1, 0⟩, ⟨1, 0, 0⟩] := rdT_new [⟨0, 0, 0⟩, ⟨0, 1, 0⟩, ⟨1, 0, 0⟩] 3 rfl (by decide)
  refine (check61_spec _ _ [⟨0, 0, 0⟩, ⟨0, 1, 0⟩, ⟨1, 0, 0⟩] _ hr2).mono ?_
  rintro e w2 ⟨rfl, hx2⟩
  rw [k2]
  have hx0 := (hx0.transNo ha2).transNo hx2
  have hF := (hF.ext ha2).ext hx2
  have c00 := hF.b0.cell' (i := 0) rfl
  have c01 := hF.b0.cell' (i := 1) rfl
  have c02 := hF.b0.cell' (i := 2) rfl
  have c10 := hF.b1.cell' (i := 0) rfl
  have c11 := hF.b1.cell' (i := 1) rfl
  have c12 := hF.b1.cell' (i := 2) rfl
  have c20 := hF.b2.cell' (i := 0) rfl
  have c21 := hF.b2.cell' (i := 1) rfl
  have c22 := hF.b2.cell' (i := 2) rfl
  have c30 := hF.b3.cell' (i := 0) rfl
  have c31 := hF.b3.cell' (i := 1) rfl
  have c32 := hF.b3.cell' (i := 2) rfl
  have l0 := hF.b0.lt
  have l1 := hF.b1.lt
  have l2 := hF.b2.lt
  have l3 := hF.b3.lt
  go_wp2_with fail
  clear l0 l1 l2 l3 c00 c01 c02 c10 c11 c12 c20 c21 c22 c30 c31 c32
  have ha3 : Ext No w2 (w2.alloc (.cells #[.int .i64 0, .int .i64 0, .int .i64 0, .int .i64 1, .int .i64 0, .int .i64 0] 98)) := (Ext.refl _ _).alloc _
  have hr3 : RdT (One w2.heap.size) (w2.alloc (.cells #[.int .i64 0, .int .i64 0, .int .i64 0, .int .i64 1, .int .i64 0, .int .i64 0] 98)) (.slice (some ⟨w2.heap.size, 0, none⟩) 2 2) [⟨0, 0, 0⟩, ⟨1, 0, 0⟩] := rdT_new [⟨0, 0, 0⟩, ⟨1, 0, 0⟩] 2 rfl (by decide)
  refine (check61_spec _ _ [⟨0, 0, 0⟩, ⟨1, 0, 0⟩] _ hr3).mono ?_
  rintro e w3 ⟨rfl, hx3⟩
  rw [k3]
  have hx0 := (hx0.transNo ha3).transNo hx3
  have hF := (hF.ext ha3).ext hx3
  have c00 := hF.b0.cell' (i := 0) rfl
  have c01 := hF.b0.cell' (i := 1) rfl
  have c02 := hF.b0.cell' (i := 2) rfl
  have c10 := hF.b1.cell' (i := 0) rfl
  have c11 := hF.b1.cell' (i := 1) rfl
  have c12 := hF.b1.cell' (i := 2) rfl
  have c20 := hF.b2.cell' (i := 0) rfl
  have c21 := hF.b2.cell' (i := 1) rfl
  have c22 := hF.b2.cell' (i := 2) rfl
  have c30 := hF.b3.cell' (i := 0) rfl
  have c31 := hF.b3.cell' (i := 1) rfl
  have c32 := hF.b3.cell' (i := 2) rfl
  have l0 := hF.b0.lt
  have l1 := hF.b1.lt
  have l2 := hF.b2.lt
  have l3 := hF.b3.lt
  go_wp2_with fail
  clear l0 l1 l2 l3 c00 c01 c02 c10 c11 c12 c20 c21 c22 c30 c31 c32
  refine (check61_spec _ _ [] No (Rd.nil _ _ _)).mono ?_
  rintro e w4 ⟨rfl, hx4⟩
  rw [k4]
  have hx0 := hx0.transNo hx4
  have hF := hF.ext hx4
  have c00 := hF.b0.cell' (i := 0) rfl
  have c01 := hF.b0.cell' (i := 1) rfl
  have c02 := hF.b0.cell' (i := 2) rfl
  have c10 := hF.b1.cell' (i := 0) rfl
  have c11 := hF.b1.cell' (i := 1) rfl
  have c12 := hF.b1.cell' (i := 2) rfl
  have c20 := hF.b2.cell' (i := 0) rfl
  have c21 := hF.b2.cell' (i := 1) rfl
  have c22 := hF.b2.cell' (i := 2) rfl
  have c30 := hF.b3.cell' (i := 0) rfl
  have c31 := hF.b3.cell' (i := 1) rfl
  have c32 := hF.b3.cell' (i := 2) rfl
  have l0 := hF.b0.lt
  have l1 := hF.b1.lt
  have l2 := hF.b2.lt
  have l3 := hF.b3.lt
  go_wp2_with fail
  clear l0 l1 l2 l3 c00 c01 c02 c10 c11 c12 c20 c21 c22 c30 c31 c32
  have ha5 : Ext No w4 (w4.alloc (.cells #[.int .i64 2, .int .i64 1, .int .i64 1, .int .i64 1, .int .i64 0, .int .i64 0, .int .i64 0, .int .i64 0, .int .i64 0] 98)) := (Ext.refl _ _).alloc _
  have hr5 : RdT (One w4.heap.size) (w4.alloc (.cells #[.int .i64 2, .int .i64 1, .int .i64 1, .int .i64 1, .int .i64 0, .int .i64 0, .int .i64 0, .int .i64 0, .int .i64 0] 98)) (.slice (some ⟨w4.heap.size, 0, none⟩) 3 3) [⟨2, 1, 1⟩, ⟨1, 0, 0⟩, ⟨0, 0, 0⟩] := rdT_new [⟨2, 1, 1⟩, ⟨1, 0, 0⟩, ⟨0, 0, 0⟩] 3 rfl (by decide)
  refine (head63_spec _ _ [⟨2, 1, 1⟩, ⟨1, 0, 0⟩, ⟨0, 0, 0⟩] _ hr5 1).mono ?_
  rintro e w5 ⟨rfl, hx5⟩
  rw [k5.1, k5.2]
  have hx0 := (hx0.transNo ha5).transNo hx5
  have hF := (hF.ext ha5).ext hx5
  have c00 := hF.b0.cell' (i := 0) rfl
  have c01 := hF.b0.cell' (i := 1) rfl
  have c02 := hF.b0.cell' (i := 2) rfl
  have c10 := hF.b1.cell' (i := 0) rfl
  have c11 := hF.b1.cell' (i := 1) rfl
  have c12 := hF.b1.cell' (i := 2) rfl
  have c20 := hF.b2.cell' (i := 0) rfl
  have c21 := hF.b2.cell' (i := 1) rfl
  have c22 := hF.b2.cell' (i := 2) rfl
  have c30 := hF.b3.cell' (i := 0) rfl
  have c31 := hF.b3.cell' (i := 1) rfl
  have c32 := hF.b3.cell' (i := 2) rfl
  have l0 := hF.b0.lt
  have l1 := hF.b1.lt
  have l2 := hF.b2.lt
  have l3 := hF.b3.lt
  go_wp2_with fail
  clear l0 l1 l2 l3 c00 c01 c02 c10 c11 c12 c20 c21 c22 c30 c31 c32
  have ha6 : Ext No w5 (w5.alloc (.cells #[.int .i64 0, .int .i64 0, .int .i64 0, .int .i64 0, .int .i64 0, .int .i64 0, .int .i64 0, .int .i64 0, .int .i64 0] 98)) := (Ext.refl _ _).alloc _
  have hr6 : RdT (One w5.heap.size) (w5.alloc (.cells #[.int .i64 0, .int .i64 0, .int .i64 0, .int .i64 0, .int .i64 0, .int .i64 0, .int .i64 0, .int .i64 0, .int .i64 0] 98)) (.slice (some ⟨w5.heap.size, 0, none⟩) 3 3) [⟨0, 0, 0⟩, ⟨0, 0, 0⟩, ⟨0, 0, 0⟩] := rdT_new [⟨0, 0, 0⟩, ⟨0, 0, 0⟩, ⟨0, 0, 0⟩] 3 rfl (by decide)
  refine (set60_good _ _ [⟨0, 0, 0⟩, ⟨0, 0, 0⟩, ⟨0, 0, 0⟩] _ hr6 0 ⟨2, 1, 1⟩ k7 (by decide) (by decide) (by decide) (by decide)).mono ?_
  rintro e w6 ⟨r6, rfl, ho6, hx6⟩
  rw [k8] at ho6
  have hx0 := (hx0.transNo ha6).transNo hx6
  have hF := (hF.ext ha6).ext hx6
  have hR := own_rdT (l := [⟨2, 1, 1⟩, ⟨1, 0, 0⟩, ⟨0, 0, 0⟩]) ho6
  obtain ⟨ar, cr, rfl, _, _⟩ := hR.val
  have c00 := hF.b0.cell' (i := 0) rfl
  have c01 := hF.b0.cell' (i := 1) rfl
  have c02 := hF.b0.cell' (i := 2) rfl
  have c10 := hF.b1.cell' (i := 0) rfl
  have c11 := hF.b1.cell' (i := 1) rfl
  have c12 := hF.b1.cell' (i := 2) rfl
  have c20 := hF.b2.cell' (i := 0) rfl
  have c21 := hF.b2.cell' (i := 1) rfl
  have c22 := hF.b2.cell' (i := 2) rfl
  have c30 := hF.b3.cell' (i := 0) rfl
  have c31 := hF.b3.cell' (i := 1) rfl
  have c32 := hF.b3.cell' (i := 2) rfl
  have l0 := hF.b0.lt
  have l1 := hF.b1.lt
  have l2 := hF.b2.lt
  have l3 := hF.b3.lt
  go_wp2_with fail
  clear l0 l1 l2 l3 c00 c01 c02 c10 c11 c12 c20 c21 c22 c30 c31 c32
  have ha7 : Ext No w6 (w6.alloc (.cells #[.int .i64 0, .int .i64 1, .int .i64 0, .int .i64 1, .int .i64 0, .int .i64 0, .int .i64 0, .int .i64 0, .int .i64 0] 98)) := (Ext.refl _ _).alloc _
  have hr7 : RdT (One w6.heap.size) (w6.alloc (.cells #[.int .i64 0, .int .i64 1, .int .i64 0, .int .i64 1, .int .i64 0, .int .i64 0, .int .i64 0, .int .i64 0, .int .i64 0] 98)) (.slice (some ⟨w6.heap.size, 0, none⟩) 3 3) [⟨0, 1, 0⟩, ⟨1, 0, 0⟩, ⟨0, 0, 0⟩] := rdT_new [⟨0, 1, 0⟩, ⟨1, 0, 0⟩, ⟨0, 0, 0⟩] 3 rfl (by decide)
  refine (set60_frame _ _ [⟨0, 1, 0⟩, ⟨1, 0, 0⟩, ⟨0, 0, 0⟩] _ hr7 0 ⟨0, 0, 0⟩ k9 (by decide) (by decide) (by decide) (by decide)).mono ?_
  rintro e w7 ⟨rfl, hx7⟩
  have hR := (hR.extNo ha7).extNo hx7
  have hx0 := (hx0.transNo ha7).transNo hx7
  have hF := (hF.ext ha7).ext hx7
  have c00 := hF.b0.cell' (i := 0) rfl
  have c01 := hF.b0.cell' (i := 1) rfl
  have c02 := hF.b0.cell' (i := 2) rfl
  have c10 := hF.b1.cell' (i := 0) rfl
  have c11 := hF.b1.cell' (i := 1) rfl
  have c12 := hF.b1.cell' (i := 2) rfl
  have c20 := hF.b2.cell' (i := 0) rfl
  have c21 := hF.b2.cell' (i := 1) rfl
  have c22 := hF.b2.cell' (i := 2) rfl
  have c30 := hF.b3.cell' (i := 0) rfl
  have c31 := hF.b3.cell' (i := 1) rfl
  have c32 := hF.b3.cell' (i := 2) rfl
  have l0 := hF.b0.lt
  have l1 := hF.b1.lt
  have l2 := hF.b2.lt
  have l3 := hF.b3.lt
  go_wp2_with fail
  clear l0 l1 l2 l3 c00 c01 c02 c10 c11 c12 c20 c21 c22 c30 c31 c32
  have ha8 : Ext No w7 (w7.alloc (.cells #[.int .i64 2, .int .i64 1, .int .i64 1, .int .i64 1, .int .i64 0, .int .i64 0, .int .i64 0, .int .i64 0, .int .i64 0] 98)) := (Ext.refl _ _).alloc _
  have hr8 : RdT (One w7.heap.size) (w7.alloc (.cells #[.int .i64 2, .int .i64 1, .int .i64 1, .int .i64 1, .int .i64 0, .int .i64 0, .int .i64 0, .int .i64 0, .int .i64 0] 98)) (.slice (some ⟨w7.heap.size, 0, none⟩) 3 3) [⟨2, 1, 1⟩, ⟨1, 0, 0⟩, ⟨0, 0, 0⟩] := rdT_new [⟨2, 1, 1⟩, ⟨1, 0, 0⟩, ⟨0, 0, 0⟩] 3 rfl (by decide)
  refine (free64_spec _ _ [⟨2, 1, 1⟩, ⟨1, 0, 0⟩, ⟨0, 0, 0⟩] _ hr8).mono ?_
  rintro e w8 ⟨rfl, hx8⟩
  rw [k6]
  have hR := (hR.extNo ha8).extNo hx8
  have hx0 := (hx0.transNo ha8).transNo hx8
  have hF := (hF.ext ha8).ext hx8
  have c00 := hF.b0.cell' (i := 0) rfl
  have c01 := hF.b0.cell' (i := 1) rfl
  have c02 := hF.b0.cell' (i := 2) rfl
  have c10 := hF.b1.cell' (i := 0) rfl
  have c11 := hF.b1.cell' (i := 1) rfl
  have c12 := hF.b1.cell' (i := 2) rfl
  have c20 := hF.b2.cell' (i := 0) rfl
  have c21 := hF.b2.cell' (i := 1) rfl
  have c22 := hF.b2.cell' (i := 2) rfl
  have c30 := hF.b3.cell' (i := 0) rfl
  have c31 := hF.b3.cell' (i := 1) rfl
  have c32 := hF.b3.cell' (i := 2) rfl
  have l0 := hF.b0.lt
  have l1 := hF.b1.lt
  have l2 := hF.b2.lt
  have l3 := hF.b3.lt
  go_wp2_with fail
  clear l0 l1 l2 l3 c00 c01 c02 c10 c11 c12 c20 c21 c22 c30 c31 c32
  have ha9 : Ext No w8 (w8.alloc (.cells #[.int .i64 2, .int .i64 1, .int .i64 1, .int .i64 1, .int .i64 0, .int .i64 0, .int .i64 0, .int .i64 0, .int .i64 0] 98)) := (Ext.refl _ _).alloc _
  have hr9 : RdT (One w8.heap.size) (w8.alloc (.cells #[.int .i64 2, .int .i64 1, .int .i64 1, .int .i64 1, .int .i64 0, .int .i64 0, .int .i64 0, .int .i64 0, .int .i64 0] 98)) (.slice (some ⟨w8.heap.size, 0, none⟩) 3 3) [⟨2, 1, 1⟩, ⟨1, 0, 0⟩, ⟨0, 0, 0⟩] := rdT_new [⟨2, 1, 1⟩, ⟨1, 0, 0⟩, ⟨0, 0, 0⟩] 3 rfl (by decide)
  refine (same62_spec _ _ _ [⟨2, 1, 1⟩, ⟨1, 0, 0⟩, ⟨0, 0, 0⟩] [⟨2, 1, 1⟩, ⟨1, 0, 0⟩, ⟨0, 0, 0⟩] _ _ (hR.extNo ha9) hr9).mono ?_
  rintro e w9 ⟨rfl, hx9⟩
  have hx0 := (hx0.transNo ha9).transNo hx9
  have hF := (hF.ext ha9).ext hx9
  rw [decide_eq_true rfl]
  go_wp2_with fail
  go_ret
  exact ⟨rfl, hx0⟩
end Go.Proofs.Ytjkknjohmekeiaa
