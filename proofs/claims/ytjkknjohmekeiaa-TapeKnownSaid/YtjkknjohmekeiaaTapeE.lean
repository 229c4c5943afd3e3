/- The chapter's scripts are as the chapter says. No condition. -/
import Derived.Test.YtjkknjohmekeiaaTapeC
import Derived.Test.YtjkknjohmekeiaaTapeD
namespace Go.Proofs.Ytjkknjohmekeiaa
open Go.RowKit

theorem script_nil : script [] = ⟨1, 1, [[]], []⟩ := by decide
theorem script_b : script [0, 0, 7, 1, 15, 2, 1, 0, 3, 9, 4] = ⟨1, 8, [[⟨1, 2, 256, 3⟩]], [9, 4]⟩ := by decide
theorem script_c : script [9, 4, 0] = ⟨2, 1, [[], []], []⟩ := by decide

theorem RdS.open_ {F : Nat → Prop} {w : World} {v : Value} {s : Scr} (h : RdS F w v s) :
    ∃ ac kc ap kp, v = .agg #[.int .i64 s.cpus, .int .i64 s.pages, .slice ac s.calls.length kc, .slice ap s.picks.length kp] ∧
      RdCC F F w (.slice ac s.calls.length kc) s.calls ∧ RdI F w (.slice ap s.picks.length kp) s.picks := by
  obtain ⟨vc, vp, h1, h2, h3⟩ := h
  obtain ⟨ac, kc, rfl, _, _⟩ := h2.val
  obtain ⟨ap, kp, rfl, _, _⟩ := Rd.val h3
  exact ⟨ac, kc, ap, kp, h1, h2, h3⟩

theorem script_rd (w : World) (v : Value) (l : List Nat) (hb : RdB (Iv 0 w.heap.size) w v l) :
    Calls Try.prog 25 #[v] w fun e w' => ∃ r, e = .returned r ∧ RdS (Iv w.heap.size w'.heap.size) w' r (script l) ∧ Ext No w w' :=
  (script_spec w v l hb).mono fun _ _ ⟨r, h1, h2, h3⟩ => ⟨r, h1, h2.rd, h3⟩

set_option maxRecDepth 100000 in
set_option maxHeartbeats 1600000 in
theorem works29_spec (w : World) :
    Calls Try.prog 29 #[] w fun e w' => e = .returned (.bool true) ∧ Ext No w w' := by
  go_enter Try.func29, Try.ntmps29
  go_wp2_with fail
  refine (script_rd _ _ [] ⟨Rd.nil _ _ _, by simp⟩).mono ?_
  rintro e w1 ⟨r1, rfl, hs1, hx1⟩
  rw [script_nil] at hs1
  obtain ⟨ac1, kc1, ap1, kp1, rfl, hc1, hp1⟩ := hs1.open_
  simp only [List.length_cons, List.length_nil, Nat.zero_add] at hc1 hp1
  clear hs1
  go_wp2_with fail
  obtain ⟨A, hA⟩ : ∃ A, w1.heap.size = A := ⟨_, rfl⟩
  have hAle : w.heap.size ≤ A := by have := hx1.size; omega
  rw [hA] at hc1 hp1 ⊢
  refine (script_rd _ _ [0, 0, 7, 1, 15, 2, 1, 0, 3, 9, 4] ⟨(Rd.of_blk (n := 11) (Blk.new' (by simp [hA])) rfl (by decide)).mono (fun x (e : x = A + 1) _ => by simp [Iv, hA]; omega), by decide⟩).mono ?_
  rintro e w2 ⟨r2, rfl, hs2, hx2⟩
  rw [script_b] at hs2
  obtain ⟨ac2, kc2, ap2, kp2, rfl, hc2, hp2⟩ := hs2.open_
  simp only [List.length_cons, List.length_nil, Nat.zero_add, Nat.reduceAdd] at hc2 hp2
  have hA2 : Blk w2 A [.int .i64 1, .int .i64 1, .slice ac1 1 kc1, .slice ap1 0 kp1] 27 := ((Blk.new' hA.symm).alloc _).extNo hx2
  have hX12 : Ext No w1 w2 := (((Ext.refl _ _).alloc _).alloc _).transNo hx2
  have hX2 : Ext No w w2 := hx1.transNo hX12
  have hc1 := hc1.ext hX12 (fun _ _ => id) (fun _ _ => id)
  have hz2 := hX12.size
  rw [hA] at hz2
  have hA' := Lib.hid hA
  clear hs2 hx2 hX12 hA hx1 hp1
  go_wp2_with fail
  obtain ⟨B, hB⟩ : ∃ B, w2.heap.size = B := ⟨_, rfl⟩
  rw [hB]
  refine (script_rd _ _ [9, 4, 0] ⟨(Rd.of_blk (n := 3) (Blk.new' (by simp [hB])) rfl (by decide)).mono (fun x (e : x = B + 1) _ => by simp [Iv, hB]; omega), by decide⟩).mono ?_
  rintro e w3 ⟨r3, rfl, hs3, hx3⟩
  rw [script_c] at hs3
  obtain ⟨ac3, kc3, ap3, kp3, rfl, hc3, hp3⟩ := hs3.open_
  simp only [List.length_cons, List.length_nil, Nat.zero_add, Nat.reduceAdd] at hc3 hp3
  have hX23 : Ext No w2 w3 := (((Ext.refl _ _).alloc _).alloc _).transNo hx3
  have hA3 := hA2.extNo hX23
  have hB3 : Blk w3 B [.int .i64 1, .int .i64 8, .slice ac2 1 kc2, .slice ap2 2 kp2] 27 := ((Blk.new' hB.symm).alloc _).extNo hx3
  have hX3 : Ext No w w3 := hX2.transNo hX23
  have hc1 := hc1.ext hX23 (fun _ _ => id) (fun _ _ => id)
  have hc2 := hc2.ext hX23 (fun _ _ => id) (fun _ _ => id)
  have hp2 := hp2.extNo hX23
  have hz3 := hX23.size
  rw [hB] at hz3
  have hB' := Lib.hid hB
  clear hs3 hx3 hX23 hA2 hB hX2 hc3 hp3
  go_wp2_with fail
  obtain ⟨D, hD⟩ : ∃ D, w3.heap.size = D := ⟨_, rfl⟩
  rw [hD]
  obtain ⟨W, hW⟩ : ∃ W, w3.alloc (.cells #[.int .i64 2, .int .i64 1, .slice ac3 2 kc3, .slice ap3 0 kp3] 27) = W := ⟨_, rfl⟩
  have hXW : Ext No w3 W := by rw [← hW]; exact (Ext.refl _ _).alloc _
  have hDW : Blk W D [.int .i64 2, .int .i64 1, .slice ac3 2 kc3, .slice ap3 0 kp3] 27 := by rw [← hW]; exact Blk.new' hD.symm
  rw [hW]
  have hAW := hA3.extNo hXW
  have hBW := hB3.extNo hXW
  have hc1 := hc1.ext hXW (fun _ _ => id) (fun _ _ => id)
  have hc2 := hc2.ext hXW (fun _ _ => id) (fun _ _ => id)
  have hp2 := hp2.extNo hXW
  have hXF := hX3.transNo hXW
  clear hW hD hA3 hB3 hX3 hXW
  obtain ⟨b1, o1, ai1, ci1, rfl, q1, _, _, _⟩ := hc1.at (i := 0) (by simp)
  obtain ⟨b2, o2, ai2, ci2, rfl, q2, q2c, _, _⟩ := hc2.at (i := 0) (by simp)
  obtain ⟨b3, o3, rfl, _, _, y0, y1, y2, y3⟩ := q2c.at (k := 0) (by simp [nth])
  simp only [nth, List.getD_cons_zero, List.length_nil, List.length_cons, Nat.zero_add, Nat.add_zero, Nat.zero_mul] at q1 q2 y0 y1 y2 y3
  have a0 := hAW.cell' (i := 0) rfl
  have a1 := hAW.cell' (i := 1) rfl
  have a2 := hAW.cell' (i := 2) rfl
  have a3 := hAW.cell' (i := 3) rfl
  have b0 := hBW.cell' (i := 0) rfl
  have bb1 := hBW.cell' (i := 1) rfl
  have bb2 := hBW.cell' (i := 2) rfl
  have bb3 := hBW.cell' (i := 3) rfl
  have d0 := hDW.cell' (i := 0) rfl
  have d1 := hDW.cell' (i := 1) rfl
  have d2 := hDW.cell' (i := 2) rfl
  have d3 := hDW.cell' (i := 3) rfl
  go_quiet (fail)
  go_wp2_with fail
  have hXq : Ext No W ((W.drewN nq).alloc (.cells #[.int .i64 9, .int .i64 4] 3)) := ((Ext.refl No W).drewN nq).alloc _
  have hrd : RdI (One W.heap.size) ((W.drewN nq).alloc (.cells #[.int .i64 9, .int .i64 4] 3)) (.slice (some ⟨W.heap.size, 0, none⟩) 2 2) [9, 4] :=
    Rd.of_blk (n := 2) (cs := [.int .i64 9, .int .i64 4]) (Blk.new' rfl) rfl (by decide)
  refine (eqInts_spec _ _ _ [9, 4] [9, 4] _ _ (hp2.extNo hXq) hrd).mono ?_
  rintro e w5 ⟨rfl, m, hw5⟩
  have hX5 : Ext No W w5 := by rw [hw5]; exact hXq.drewN m
  have hD5 := hDW.extNo hX5
  clear a0 a1 a2 a3 b0 bb1 bb2 bb3 d0 d1 d2 d3 hXq hrd hw5
  have d0 := hD5.cell' (i := 0) rfl
  have d1 := hD5.cell' (i := 1) rfl
  have d2 := hD5.cell' (i := 2) rfl
  have d3 := hD5.cell' (i := 3) rfl
  rw [show decide (([9, 4] : List Int) = [9, 4]) = true from by decide]
  go_wp2_with fail
  go_ret
  exact ⟨rfl, hXF.transNo hX5⟩
end Go.Proofs.Ytjkknjohmekeiaa
