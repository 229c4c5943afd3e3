/- Buddies in memory: Alloc. No condition. -/
import Derived.Test.YtjkknjohmekeiaaBuddyG
import Derived.Test.YtjkknjohmekeiaaBuddyE
namespace Go.Proofs.Ytjkknjohmekeiaa
open Go.RowKit

theorem lres_some {b : Bk} {e : Ending} (h : LRes (some b) e) : e = .returned (.tuple #[.agg #[.int .i64 b.i, .int .i64 b.o], .bool true]) := h
theorem lres_none {e : Ending} (h : LRes none e) : ∃ x y : Int, e = .returned (.tuple #[.agg #[.int .i64 x, .int .i64 y], .bool false]) := h

/-- Alloc of what may be asked. -/
theorem splitK_len {l : List T3} {i t : Nat} : ∀ d, (i % pw (t + d) = 0) → i + pw (t + d) ≤ l.length → (splitL l i t d).length = l.length := by
  intro d
  induction d generalizing l with
  | zero => intros; rfl
  | succ d ih =>
    intro h1 h2
    have hs := pw_succ (t + d)
    have ho := oth_lo (i := i) (k := t + d) (by rw [show t + d + 1 = t + (d + 1) by omega]; exact h1)
    have e : pw (t + (d + 1)) = 2 * pw (t + d) := by rw [show t + (d + 1) = t + d + 1 by omega]; exact hs
    simp only [splitL]
    have hl : (setL l (oth i (t + d)) ⟨0, (t + d : Nat), 0⟩).length = l.length := setL_len (by rw [sz_mk, ho]; omega)
    rw [ih (al_down (by omega) h1) (by rw [hl]; omega), hl]

set_option maxRecDepth 100000 in
set_option maxHeartbeats 6400000 in
theorem alloc72_spec (w : World) (bb base : Nat) (v : Value) (l : List T3) (h : BR w bb base v l) (h0 : 0 < l.length) (hv : Va l) (order cache : Nat) (ho : order ≤ 10) (hc : cache ≤ 8) :
    Calls Try.prog 72 #[.pointer (some ⟨bb, 0, none⟩), .int .i64 order, .int .i64 cache] w fun e w' => e = .returned (.tuple #[.int .i64 (allocX l order), .int .i64 (allocE l order)]) ∧ BR w' bb base v (allocL l order cache) ∧ Ext (OwnOf v) w w' := by
  obtain ⟨a, cap, rfl, hlc, hcap⟩ := h.val
  have hn := h.n
  have hbl := h.b.lt
  have hvlt : ∀ x, OwnOf (.slice a l.length cap) x → x < w.heap.size := fun x hx => (h.p.lt x hx).2
  have hno := none112_no w bb base _ l h h0
  cases hl : leastL l order with
  | none =>
    have hX : Hid (allocX l order = 0) := by show _ = _; unfold allocX; rw [hl]
    have hE : Hid (allocE l order = 7) := by show _ = _; unfold allocE; rw [hl]
    have hA : Hid (allocL l order cache = l) := by show _ = _; unfold allocL; rw [hl]
    have hle := least118_spec w bb base _ l h order ho
    rw [hl] at hle
    clear hl
    go_enter Try.func72, Try.ntmps72
    go_wp2_with fail
    refine hno.mono ?_
    rintro e w1 ⟨rfl, rfl⟩
    go_wp2_with fail
    refine hle.mono ?_
    rintro e w2 ⟨he, hx⟩
    obtain ⟨x, y, rfl⟩ := lres_none he
    clear he
    go_wp2_with fail
    go_ret2
    rw [hX.out, hE.out, hA.out]
    exact ⟨rfl, h.extNo (hx.transNo ((Ext.refl _ _).alloc _)), ((hx.transNo ((Ext.refl _ _).alloc _))).of_no⟩
  | some b =>
    have hX : Hid (allocX l order = b.i) := by show _ = _; unfold allocX; rw [hl]
    have hE : Hid (allocE l order = 0) := by show _ = _; unfold allocE; rw [hl]
    have hA : Hid (allocL l order cache = setL (splitL l b.i order (b.o - order)) b.i ⟨2, order, cache⟩) := by show _ = _; unfold allocL; rw [hl]
    obtain ⟨hb1, hb2, hb3, hb4, hb5⟩ := least_some (11 - order) order (Nat.le_refl _) b hl
    obtain ⟨_, _, _, hb6⟩ := free_ok hv hb5
    have hle := least118_spec w bb base _ l h order ho
    rw [hl] at hle
    clear hl hb5
    obtain ⟨i, k⟩ := b
    dsimp only at hX hA hb1 hb2 hb3 hb4 hb6
    obtain ⟨n, hnn⟩ : ∃ n, l.length = n := ⟨_, rfl⟩
    have hnn' := Lib.hid hnn
    rw [hnn] at hlc hn h hvlt hb4 hb6 ⊢
    clear hnn
    have hb3' := Lib.hid hb3
    have hb6' := Lib.hid hb6
    clear hb3 hb6
    go_enter Try.func72, Try.ntmps72
    go_wp2_with fail
    refine hno.mono ?_
    rintro e w1 ⟨rfl, rfl⟩
    go_wp2_with fail
    refine hle.mono ?_
    rintro e w2 ⟨he, hx⟩
    have he := lres_some he
    subst he
    dsimp only
    obtain ⟨X, hX1⟩ : ∃ X, w2.heap.size = X := ⟨_, rfl⟩
    have hXw : w.heap.size ≤ X := by have := hx.size; omega
    obtain ⟨W, hW⟩ : ∃ W, w2.alloc (.cells #[.int .i64 i, .int .i64 k] 162) = W := ⟨_, rfl⟩
    have hxa : Ext No w W := by rw [← hW]; exact hx.alloc _
    have hXb : Blk W X [.int .i64 i, .int .i64 k] 162 := by rw [← hW]; exact Blk.new' hX1.symm
    have hB := h.extNo hxa
    go_wp2_with fail
    clear hX1 hW hx hno hle
    go_loopg [] (k - order) (fun g wr => ∃ (m : Nat) (cur : List T3), m - order ≤ g ∧ order ≤ m ∧ m ≤ k ∧ cur.length = n ∧ Blk wr X [.int .i64 i, .int .i64 m] 162 ∧ BR wr bb base (.slice a n cap) cur ∧ Ext (OwnOf (.slice a n cap)) w wr ∧ splitL cur i order (m - order) = splitL l i order (k - order))
    case atStart => exact ⟨k, l, by omega, by omega, by omega, hnn'.out, hXb, hB, hxa.of_no, rfl⟩
    case round =>
      clear hXb hB hxa
      obtain ⟨m, cur, hm, hm1, hm2, hcl, hXb, hB, hx, hs⟩ := hrel
      obtain ⟨wz, hwz⟩ : ∃ wz, wr = wz := ⟨_, rfl⟩
      rw [hwz] at hXb hB hx ⊢
      clear hwz
      have hm' := Lib.hid hm
      have hcl' := Lib.hid hcl
      have hs' := Lib.hid hs
      clear hm hcl hs
      have v0 := hB.b.cell' (i := 0) rfl
      have hbl2 := hB.b.lt
      have hXl := hXb.lt
      have y0 := hXb.cell' (i := 0) rfl
      have y1 := hXb.cell' (i := 1) rfl
      have t1 := hXb.frozen 1
      by_cases hmo : order < m
      · obtain ⟨q, rfl⟩ : ∃ q, m = q + 1 := ⟨m - 1, by omega⟩
        have hoth : Hid (oth i q = i + pw q) := oth_lo (al_down hm2 hb3'.out)
        have hfit : Hid (i + pw q + pw q ≤ n) := by
          show _ ≤ _
          have h1 := Nat.le_of_dvd (by have := pw_pos k; omega) (pw_dvd hm2)
          have h2 := pw_succ q
          have := hb6'.out; omega
        have hoq : oth i q < 4611686018427387904 := by rw [hoth.out]; have := hfit.out; omega
        have hset : Ext (One X) wz (wz.setCell ⟨X, 1, none⟩ (.int .i64 q)) := Ext.set1 _ _ _ _
        have hX2 := hXb.set 1 (.int .i64 q)
        have hB2 := hB.ext hset (fun e : bb = X => by omega) (fun x hx' (e : x = X) => by have := hvlt x hx'; omega)
        have hx2 := hx.trans hset (fun x hx' (e : x = X) => by omega)
        have hq1 : ((q + 1 : Nat) : Int) - 1 = q := by omega
        go_wp2_with fail
        refine (other116_spec _ i q (by omega) (by omega) hoq).mono ?_
        rintro e w3 ⟨rfl, hx3⟩
        have hX3 := hX2.extNo hx3
        have hB3 := hB2.extNo hx3
        have hx3' := hx2.transNo hx3
        clear hB2 hX2 hx2 hset v0 y0 y1 t1
        go_wp2_with fail
        refine (lay117_spec w3 bb base _ cur hB3 (oth i q) q (by omega) (by rw [hcl'.out, hoth.out]; exact hfit.out) ⟨0, 0, 0⟩).mono ?_
        rintro e w4 ⟨⟨u4, rfl⟩, hB4, hx4⟩
        have hX4 := hX3.ext hx4 (fun ho => by have := hvlt X ho; omega)
        have hx4' := hx3'.transSame hx4
        have hl4 : Hid ((setL cur (oth i q) ⟨0, (q : Nat), 0⟩).length = n) := by show _ = _; rw [setL_len (l := cur) (i := oth i q) (p := ⟨0, (q : Nat), 0⟩) (by rw [sz_mk, hcl'.out, hoth.out]; exact hfit.out)]; exact hcl'.out
        have hsp : Hid (splitL (setL cur (oth i q) ⟨0, (q : Nat), 0⟩) i order (q - order) = splitL l i order (k - order)) := by
          show _ = _
          rw [← hs'.out]
          obtain ⟨d, rfl⟩ : ∃ d, q = order + d := ⟨q - order, by omega⟩
          rw [show order + d + 1 - order = d + 1 by omega, show order + d - order = d by omega]
          rfl
        clear hB3 hx4 hX3 hx3'
        go_wp2_with fail
        go_roundg (q - order)
        case measure => have := hm'.out; omega
        case rel => exact ⟨q, _, Nat.le_refl _, by omega, by omega, hl4.out, hX4, hB4, hx4', hsp.out⟩
      · obtain rfl : m = order := by omega
        have hfit : Hid (i + pw m ≤ n) := by
          show _ ≤ _
          have h1 := Nat.le_of_dvd (by have := pw_pos k; omega) (pw_dvd hm2)
          have := hb6'.out; omega
        have hfin : Hid (cur = splitL l i m (k - m)) := by show _ = _; rw [← hs'.out, Nat.sub_self]; rfl
        go_wp2_with fail
        refine (lay117_spec wz bb base _ cur hB i m ho (by rw [hcl'.out]; exact hfit.out) ⟨2, 0, cache⟩).mono ?_
        rintro e w4 ⟨⟨u4, rfl⟩, hB4, hx4⟩
        have hX4 := hXb.ext hx4 (fun ho => by have := hvlt X ho; omega)
        have y0 := hX4.cell' (i := 0) rfl
        have hx4' := hx.transSame hx4
        clear hB hx4 hXb hx
        go_wp2_with fail
        go_ret2
        rw [hX.out, hE.out, hA.out, ← hfin.out]
        exact ⟨rfl, hB4, hx4'⟩
end Go.Proofs.Ytjkknjohmekeiaa
