/- The document's Check of a script. No condition. -/
import Derived.Test.YtjkknjohmekeiaaTapeH
namespace Go.Proofs.Ytjkknjohmekeiaa
open Go.RowKit

theorem okB_calls {s : Scr} (h : s.calls.all listOk = false) : errOf (okB s) = 2 := by simp [okB, h, errOf]
theorem okB_pk {s : Scr} (h : (s.picks.all fun n => wtn n 0 255) = false) : errOf (okB s) = 2 := by simp [okB, h, errOf]
theorem all_take_false {α : Type} {l : List α} {p : α → Bool} {k : Nat} (h : (l.take k).all p = false) : l.all p = false := by
  rw [List.all_eq_false] at h ⊢
  obtain ⟨x, hx, hp⟩ := h
  exact ⟨x, List.mem_of_mem_take hx, hp⟩
theorem all_take_succ {α : Type} [Inhabited α] {l : List α} {p : α → Bool} {k : Nat} (hk : k < l.length) : (l.take (k + 1)).all p = ((l.take k).all p && p (nth l k)) := by
  rw [take_nth hk, List.all_append]; simp

set_option maxRecDepth 100000 in
set_option maxHeartbeats 1600000 in
theorem check2_bad (w : World) (v : Value) (s : Scr) (F : Nat → Prop) (hv : RdS F w v s) (hb : headOk s = false) :
    Calls Try.prog 34 #[v] w fun e w' => e = .returned (.int .i64 (errOf (okB s))) ∧ Ext No w w' := by
  obtain ⟨ac, kc, ap, kp, rfl, hc, hp⟩ := hv.openR
  have hr := Lib.hid (okB_head hb)
  have hX : Ext No w (w.alloc (.cells #[.int .i64 s.cpus, .int .i64 s.pages, .slice ac s.calls.length kc, .slice ap s.picks.length kp] 27)) := (Ext.refl _ _).alloc _
  have hA : Blk (w.alloc (.cells #[.int .i64 s.cpus, .int .i64 s.pages, .slice ac s.calls.length kc, .slice ap s.picks.length kp] 27)) w.heap.size [.int .i64 s.cpus, .int .i64 s.pages, .slice ac s.calls.length kc, .slice ap s.picks.length kp] 27 := Blk.new _ _ _
  go_enter Try.func34, Try.ntmps34
  go_wp2_with fail
  obtain ⟨W, hW⟩ : ∃ W, w.alloc (.cells #[.int .i64 s.cpus, .int .i64 s.pages, .slice ac s.calls.length kc, .slice ap s.picks.length kp] 27) = W := ⟨_, rfl⟩
  rw [hW] at hX hA ⊢
  clear hW
  have a0 := hA.cell' (i := 0) rfl
  have a1 := hA.cell' (i := 1) rfl
  have a2 := hA.cell' (i := 2) rfl
  have a3 := hA.cell' (i := 3) rfl
  refine (within2_spec _ s.cpus 1 8).mono ?_
  rintro e w1 ⟨rfl, rfl⟩
  rcases head_cases s with ⟨h1, _⟩ | ⟨h1, h2, _⟩ | ⟨h1, h2, h3, _⟩ | ⟨h1, h2, h3, h4, _⟩ | ⟨h1, h2, h3, h4, h5⟩
  · rw [h1]
    clear h1 hb
    go_wp2_with fail
    clear a0 a1 a2 a3
    go_loopg [3, 4] 0 (fun g b i wr => b = .bool false ∧ i = .int .i64 0 ∧ Ext No W wr)
    case atStart => exact ⟨rfl, rfl, Ext.refl _ _⟩
    case round =>
      obtain ⟨rfl, rfl, hxy⟩ := hrel
      have hAy := hA.extNo hxy
      have y2 := hAy.cell' (i := 2) rfl
      rcases Nat.eq_zero_or_pos s.calls.length with hy0 | hy0
      · have hyy := congrArg (fun n : Nat => (n : Int)) hy0
        clear hy0
        go_wp2_with fail
        go_loopg [3, 7] 0 (fun g b i wr => b = .bool false ∧ i = .int .i64 0 ∧ Ext No W wr)
        case atStart => exact ⟨rfl, rfl, hxy⟩
        case round =>
          obtain ⟨rfl, rfl, hxz⟩ := hrel
          have hAz := hA.extNo hxz
          have z3 := hAz.cell' (i := 3) rfl
          rcases Nat.eq_zero_or_pos s.picks.length with hz0 | hz0
          · have hzz := congrArg (fun n : Nat => (n : Int)) hz0
            clear hz0
            go_wp2_with fail
            go_ret
            exact ⟨by rw [hr.out]; rfl, hX.transNo hxz⟩
          · have hzz : (0 : Int) < (s.picks.length : Int) := by omega
            clear hz0
            go_wp2_with fail
            go_ret
            exact ⟨by rw [hr.out]; rfl, hX.transNo hxz⟩

      · have hyy : (0 : Int) < (s.calls.length : Int) := by omega
        clear hy0
        go_wp2_with fail
        go_loopg [3, 7] 0 (fun g b i wr => b = .bool false ∧ i = .int .i64 0 ∧ Ext No W wr)
        case atStart => exact ⟨rfl, rfl, hxy⟩
        case round =>
          obtain ⟨rfl, rfl, hxz⟩ := hrel
          have hAz := hA.extNo hxz
          have z3 := hAz.cell' (i := 3) rfl
          rcases Nat.eq_zero_or_pos s.picks.length with hz0 | hz0
          · have hzz := congrArg (fun n : Nat => (n : Int)) hz0
            clear hz0
            go_wp2_with fail
            go_ret
            exact ⟨by rw [hr.out]; rfl, hX.transNo hxz⟩
          · have hzz : (0 : Int) < (s.picks.length : Int) := by omega
            clear hz0
            go_wp2_with fail
            go_ret
            exact ⟨by rw [hr.out]; rfl, hX.transNo hxz⟩


  · have g2 := Lib.hid h2
    rw [h1]
    clear h1 h2 hb
    go_wp2_with fail
    refine (within2_spec _ s.pages 1 1024).mono ?_
    rintro e w1 ⟨rfl, rfl⟩
    rw [g2.out]
    go_wp2_with fail
    clear a0 a1 a2 a3
    go_loopg [3, 4] 0 (fun g b i wr => b = .bool false ∧ i = .int .i64 0 ∧ Ext No W wr)
    case atStart => exact ⟨rfl, rfl, Ext.refl _ _⟩
    case round =>
      obtain ⟨rfl, rfl, hxy⟩ := hrel
      have hAy := hA.extNo hxy
      have y2 := hAy.cell' (i := 2) rfl
      rcases Nat.eq_zero_or_pos s.calls.length with hy0 | hy0
      · have hyy := congrArg (fun n : Nat => (n : Int)) hy0
        clear hy0
        go_wp2_with fail
        go_loopg [3, 7] 0 (fun g b i wr => b = .bool false ∧ i = .int .i64 0 ∧ Ext No W wr)
        case atStart => exact ⟨rfl, rfl, hxy⟩
        case round =>
          obtain ⟨rfl, rfl, hxz⟩ := hrel
          have hAz := hA.extNo hxz
          have z3 := hAz.cell' (i := 3) rfl
          rcases Nat.eq_zero_or_pos s.picks.length with hz0 | hz0
          · have hzz := congrArg (fun n : Nat => (n : Int)) hz0
            clear hz0
            go_wp2_with fail
            go_ret
            exact ⟨by rw [hr.out]; rfl, hX.transNo hxz⟩
          · have hzz : (0 : Int) < (s.picks.length : Int) := by omega
            clear hz0
            go_wp2_with fail
            go_ret
            exact ⟨by rw [hr.out]; rfl, hX.transNo hxz⟩

      · have hyy : (0 : Int) < (s.calls.length : Int) := by omega
        clear hy0
        go_wp2_with fail
        go_loopg [3, 7] 0 (fun g b i wr => b = .bool false ∧ i = .int .i64 0 ∧ Ext No W wr)
        case atStart => exact ⟨rfl, rfl, hxy⟩
        case round =>
          obtain ⟨rfl, rfl, hxz⟩ := hrel
          have hAz := hA.extNo hxz
          have z3 := hAz.cell' (i := 3) rfl
          rcases Nat.eq_zero_or_pos s.picks.length with hz0 | hz0
          · have hzz := congrArg (fun n : Nat => (n : Int)) hz0
            clear hz0
            go_wp2_with fail
            go_ret
            exact ⟨by rw [hr.out]; rfl, hX.transNo hxz⟩
          · have hzz : (0 : Int) < (s.picks.length : Int) := by omega
            clear hz0
            go_wp2_with fail
            go_ret
            exact ⟨by rw [hr.out]; rfl, hX.transNo hxz⟩


  · have g2 := Lib.hid h2
    have g3 : ((s.calls.length : Int) == s.cpus) = false := by simpa using h3
    rw [h1]
    clear h1 h2 h3 hb
    go_wp2_with fail
    refine (within2_spec _ s.pages 1 1024).mono ?_
    rintro e w1 ⟨rfl, rfl⟩
    rw [g2.out]
    go_wp2_with fail
    clear a0 a1 a2 a3
    go_loopg [3, 4] 0 (fun g b i wr => b = .bool false ∧ i = .int .i64 0 ∧ Ext No W wr)
    case atStart => exact ⟨rfl, rfl, Ext.refl _ _⟩
    case round =>
      obtain ⟨rfl, rfl, hxy⟩ := hrel
      have hAy := hA.extNo hxy
      have y2 := hAy.cell' (i := 2) rfl
      rcases Nat.eq_zero_or_pos s.calls.length with hy0 | hy0
      · have hyy := congrArg (fun n : Nat => (n : Int)) hy0
        clear hy0
        go_wp2_with fail
        go_loopg [3, 7] 0 (fun g b i wr => b = .bool false ∧ i = .int .i64 0 ∧ Ext No W wr)
        case atStart => exact ⟨rfl, rfl, hxy⟩
        case round =>
          obtain ⟨rfl, rfl, hxz⟩ := hrel
          have hAz := hA.extNo hxz
          have z3 := hAz.cell' (i := 3) rfl
          rcases Nat.eq_zero_or_pos s.picks.length with hz0 | hz0
          · have hzz := congrArg (fun n : Nat => (n : Int)) hz0
            clear hz0
            go_wp2_with fail
            go_ret
            exact ⟨by rw [hr.out]; rfl, hX.transNo hxz⟩
          · have hzz : (0 : Int) < (s.picks.length : Int) := by omega
            clear hz0
            go_wp2_with fail
            go_ret
            exact ⟨by rw [hr.out]; rfl, hX.transNo hxz⟩

      · have hyy : (0 : Int) < (s.calls.length : Int) := by omega
        clear hy0
        go_wp2_with fail
        go_loopg [3, 7] 0 (fun g b i wr => b = .bool false ∧ i = .int .i64 0 ∧ Ext No W wr)
        case atStart => exact ⟨rfl, rfl, hxy⟩
        case round =>
          obtain ⟨rfl, rfl, hxz⟩ := hrel
          have hAz := hA.extNo hxz
          have z3 := hAz.cell' (i := 3) rfl
          rcases Nat.eq_zero_or_pos s.picks.length with hz0 | hz0
          · have hzz := congrArg (fun n : Nat => (n : Int)) hz0
            clear hz0
            go_wp2_with fail
            go_ret
            exact ⟨by rw [hr.out]; rfl, hX.transNo hxz⟩
          · have hzz : (0 : Int) < (s.picks.length : Int) := by omega
            clear hz0
            go_wp2_with fail
            go_ret
            exact ⟨by rw [hr.out]; rfl, hX.transNo hxz⟩


  · have g2 := Lib.hid h2
    have g3 : ((s.calls.length : Int) == s.cpus) = true := by simpa using h3
    have g4 : decide ((s.picks.length : Int) ≤ 4096) = false := by simp; omega
    rw [h1]
    clear h1 h2 h3 h4 hb
    go_wp2_with fail
    refine (within2_spec _ s.pages 1 1024).mono ?_
    rintro e w1 ⟨rfl, rfl⟩
    rw [g2.out]
    go_wp2_with fail
    clear a0 a1 a2 a3
    go_loopg [3, 4] 0 (fun g b i wr => b = .bool false ∧ i = .int .i64 0 ∧ Ext No W wr)
    case atStart => exact ⟨rfl, rfl, Ext.refl _ _⟩
    case round =>
      obtain ⟨rfl, rfl, hxy⟩ := hrel
      have hAy := hA.extNo hxy
      have y2 := hAy.cell' (i := 2) rfl
      rcases Nat.eq_zero_or_pos s.calls.length with hy0 | hy0
      · have hyy := congrArg (fun n : Nat => (n : Int)) hy0
        clear hy0
        go_wp2_with fail
        go_loopg [3, 7] 0 (fun g b i wr => b = .bool false ∧ i = .int .i64 0 ∧ Ext No W wr)
        case atStart => exact ⟨rfl, rfl, hxy⟩
        case round =>
          obtain ⟨rfl, rfl, hxz⟩ := hrel
          have hAz := hA.extNo hxz
          have z3 := hAz.cell' (i := 3) rfl
          rcases Nat.eq_zero_or_pos s.picks.length with hz0 | hz0
          · have hzz := congrArg (fun n : Nat => (n : Int)) hz0
            clear hz0
            go_wp2_with fail
            go_ret
            exact ⟨by rw [hr.out]; rfl, hX.transNo hxz⟩
          · have hzz : (0 : Int) < (s.picks.length : Int) := by omega
            clear hz0
            go_wp2_with fail
            go_ret
            exact ⟨by rw [hr.out]; rfl, hX.transNo hxz⟩

      · have hyy : (0 : Int) < (s.calls.length : Int) := by omega
        clear hy0
        go_wp2_with fail
        go_loopg [3, 7] 0 (fun g b i wr => b = .bool false ∧ i = .int .i64 0 ∧ Ext No W wr)
        case atStart => exact ⟨rfl, rfl, hxy⟩
        case round =>
          obtain ⟨rfl, rfl, hxz⟩ := hrel
          have hAz := hA.extNo hxz
          have z3 := hAz.cell' (i := 3) rfl
          rcases Nat.eq_zero_or_pos s.picks.length with hz0 | hz0
          · have hzz := congrArg (fun n : Nat => (n : Int)) hz0
            clear hz0
            go_wp2_with fail
            go_ret
            exact ⟨by rw [hr.out]; rfl, hX.transNo hxz⟩
          · have hzz : (0 : Int) < (s.picks.length : Int) := by omega
            clear hz0
            go_wp2_with fail
            go_ret
            exact ⟨by rw [hr.out]; rfl, hX.transNo hxz⟩


  · rw [h5] at hb; cases hb

set_option maxRecDepth 100000 in
set_option maxHeartbeats 1600000 in
theorem check2_good (w : World) (v : Value) (s : Scr) (F : Nat → Prop) (hv : RdS F w v s) (hb : headOk s = true) :
    Calls Try.prog 34 #[v] w fun e w' => e = .returned (.int .i64 (errOf (okB s))) ∧ Ext No w w' := by
  obtain ⟨ac, kc, ap, kp, rfl, hc, hp⟩ := hv.openR
  have hX : Ext No w (w.alloc (.cells #[.int .i64 s.cpus, .int .i64 s.pages, .slice ac s.calls.length kc, .slice ap s.picks.length kp] 27)) := (Ext.refl _ _).alloc _
  have hA : Blk (w.alloc (.cells #[.int .i64 s.cpus, .int .i64 s.pages, .slice ac s.calls.length kc, .slice ap s.picks.length kp] 27)) w.heap.size [.int .i64 s.cpus, .int .i64 s.pages, .slice ac s.calls.length kc, .slice ap s.picks.length kp] 27 := Blk.new _ _ _
  rcases head_cases s with ⟨h1, h5⟩ | ⟨h1, h2, h5⟩ | ⟨h1, h2, h3, h5⟩ | ⟨h1, h2, h3, h4, h5⟩ | ⟨h1, h2, h3, h4, _⟩
  · rw [h5] at hb; cases hb
  · rw [h5] at hb; cases hb
  · rw [h5] at hb; cases hb
  · rw [h5] at hb; cases hb
  go_enter Try.func34, Try.ntmps34
  go_wp2_with fail
  obtain ⟨W, hW⟩ : ∃ W, w.alloc (.cells #[.int .i64 s.cpus, .int .i64 s.pages, .slice ac s.calls.length kc, .slice ap s.picks.length kp] 27) = W := ⟨_, rfl⟩
  rw [hW] at hX hA ⊢
  clear hW
  have a0 := hA.cell' (i := 0) rfl
  have a1 := hA.cell' (i := 1) rfl
  have a2 := hA.cell' (i := 2) rfl
  have a3 := hA.cell' (i := 3) rfl
  refine (within2_spec _ s.cpus 1 8).mono ?_
  rintro e w1 ⟨rfl, rfl⟩
  have g2 := Lib.hid h2
  have g3 : ((s.calls.length : Int) == s.cpus) = true := by simpa using h3
  have g4 : decide ((s.picks.length : Int) ≤ 4096) = true := by simp; omega
  have hbH := Lib.hid hb
  have hl8 : s.calls.length ≤ 8 := by have := wtn_iff.1 h1; omega
  have h46 := h4
  rw [h1]
  clear h1 h2 h3 h4 hb
  go_wp2_with fail
  refine (within2_spec _ s.pages 1 1024).mono ?_
  rintro e w1 ⟨rfl, rfl⟩
  rw [g2.out]
  go_wp2_with fail
  clear a0 a1 a2 a3 g2 g3 g4
  have hc := hc.ext hX (fun _ _ => id) (fun _ _ => id)
  have hp := hp.extNo hX
  go_loopg [3, 4] s.calls.length (fun g b i wr => ∃ (k : Nat) (q : Bool), k + g = s.calls.length ∧ b = .bool q ∧ q = (s.calls.take k).all listOk ∧ i = .int .i64 k ∧ Ext No W wr)
  case atStart => exact ⟨0, true, by omega, rfl, by simp, rfl, Ext.refl _ _⟩
  case round =>
    obtain ⟨k, q, hk, rfl, hq, rfl, hx⟩ := hrel
    have hk' := Lib.hid hk; have hq' := Lib.hid hq
    have hkn : k ≤ s.calls.length := by omega
    clear hk hq
    have hAr := hA.extNo hx
    have a2 := hAr.cell' (i := 2) rfl
    cases q
    · have hr : Hid (errOf (okB s) = 2) := okB_calls (all_take_false hq'.out.symm)
      clear hbH
      by_cases hlt : k < s.calls.length
      · go_wp2_with fail
        clear a2
        go_loopg [3, 7] 0 (fun g b i wr => b = .bool false ∧ i = .int .i64 0 ∧ Ext No W wr)
        case atStart => exact ⟨rfl, rfl, hx⟩
        case round =>
          obtain ⟨rfl, rfl, hxz⟩ := hrel
          have hAz := hA.extNo hxz
          have z3 := hAz.cell' (i := 3) rfl
          rcases Nat.eq_zero_or_pos s.picks.length with hz0 | hz0
          · have hzz := congrArg (fun n : Nat => (n : Int)) hz0
            clear hz0
            go_wp2_with fail
            go_ret
            exact ⟨by rw [hr.out]; rfl, hX.transNo hxz⟩
          · have hzz : (0 : Int) < (s.picks.length : Int) := by omega
            clear hz0
            go_wp2_with fail
            go_ret
            exact ⟨by rw [hr.out]; rfl, hX.transNo hxz⟩

      · go_wp2_with fail
        clear a2
        go_loopg [3, 7] 0 (fun g b i wr => b = .bool false ∧ i = .int .i64 0 ∧ Ext No W wr)
        case atStart => exact ⟨rfl, rfl, hx⟩
        case round =>
          obtain ⟨rfl, rfl, hxz⟩ := hrel
          have hAz := hA.extNo hxz
          have z3 := hAz.cell' (i := 3) rfl
          rcases Nat.eq_zero_or_pos s.picks.length with hz0 | hz0
          · have hzz := congrArg (fun n : Nat => (n : Int)) hz0
            clear hz0
            go_wp2_with fail
            go_ret
            exact ⟨by rw [hr.out]; rfl, hX.transNo hxz⟩
          · have hzz : (0 : Int) < (s.picks.length : Int) := by omega
            clear hz0
            go_wp2_with fail
            go_ret
            exact ⟨by rw [hr.out]; rfl, hX.transNo hxz⟩

    · by_cases hlt : k < s.calls.length
      · obtain ⟨b1, o1, ai, ci, rfl, r1, q1, _, _⟩ := (hc.ext hx (fun _ _ => id) (fun _ _ => id)).at hlt
        go_wp2_with fail
        clear a2
        go_loopg [3, 5] (nth s.calls k).length (fun g b i wr => ∃ (m : Nat) (q : Bool), m + g = (nth s.calls k).length ∧ b = .bool q ∧ q = (decide (((nth s.calls k).length : Int) ≤ 64) && ((nth s.calls k).take m).all callOk) ∧ i = .int .i64 m ∧ Ext No W wr)
        case atStart => exact ⟨0, _, by omega, rfl, by simp, rfl, hx⟩
        case round =>
          obtain ⟨m, q2, hm, rfl, hq2, rfl, hxr⟩ := hrel
          have hm' := Lib.hid hm; have hq2' := Lib.hid hq2
          have hmn : m ≤ (nth s.calls k).length := by omega
          clear hm hq2
          have hAs := hA.extNo hxr
          have a2 := hAs.cell' (i := 2) rfl
          have r1 := (hc.ext hxr (fun _ _ => id) (fun _ _ => id)).at hlt
          obtain ⟨b1', o1', ai', ci', eb, r1, q1, _, _⟩ := r1
          cases eb
          by_cases hlt3 : m < (nth s.calls k).length
          · cases q2
            · have hlo : Hid (listOk (nth s.calls k) = false) := by
                have e := hq2'.out
                show _ = _
                unfold listOk
                rcases hd : decide ((nth s.calls k).length ≤ 64)
                · rfl
                · have hd2 : decide (((nth s.calls k).length : Int) ≤ 64) = true := by simp at hd ⊢; omega
                  rw [hd2, Bool.true_and] at e
                  rw [all_take_false e.symm]; rfl
              go_wp2_with fail
              go_roundg (s.calls.length - (k + 1))
              case measure => have := hk'.out; omega
              case rel =>
                refine ⟨k + 1, _, by omega, rfl, ?_, by go_num, hxr⟩
                rw [all_take_succ hlt, ← hq'.out, hlo.out]; rfl
            · obtain ⟨bc, oc, rfl, _, fc, x0, x1, x2, x3⟩ := q1.at hlt3
              go_wp2_with fail
              clear a2 r1 x0 x1 x2 x3
              obtain ⟨c, hcdef⟩ : ∃ c, nth (nth s.calls k) m = c := ⟨_, rfl⟩
              have hcdef' := Lib.hid hcdef
              rw [hcdef]
              clear hcdef
              refine (within2_spec _ c.op 0 13).mono ?_
              rintro e w9 ⟨rfl, rfl⟩
              cases e1 : wtn c.op 0 13
              · have hok : Hid (callOk c = false) := by show _ = _; simp [callOk, e1]
                clear e1
                go_wp2_with fail
                go_roundg ((nth s.calls k).length - (m + 1))
                case measure => have := hm'.out; omega
                case rel =>
                  refine ⟨m + 1, _, by omega, rfl, ?_, by go_num, (hxr.alloc _)⟩
                  rw [all_take_succ hlt3, ← Bool.and_assoc, ← hq2'.out, hcdef'.out, hok.out]
                  rfl

              · have e1H := Lib.hid e1
                go_wp2_with fail
                refine (within2_spec _ c.a 0 255).mono ?_
                rintro e w9 ⟨rfl, rfl⟩
                cases e2 : wtn c.a 0 255
                · have hok : Hid (callOk c = false) := by show _ = _; simp [callOk, e1, e2]
                  clear e1 e2
                  go_wp2_with fail
                  go_roundg ((nth s.calls k).length - (m + 1))
                  case measure => have := hm'.out; omega
                  case rel =>
                    refine ⟨m + 1, _, by omega, rfl, ?_, by go_num, (hxr.alloc _)⟩
                    rw [all_take_succ hlt3, ← Bool.and_assoc, ← hq2'.out, hcdef'.out, hok.out]
                    rfl

                · have e2H := Lib.hid e2
                  go_wp2_with fail
                  refine (within2_spec _ c.b 0 65535).mono ?_
                  rintro e w9 ⟨rfl, rfl⟩
                  cases e3 : wtn c.b 0 65535
                  · have hok : Hid (callOk c = false) := by show _ = _; simp [callOk, e1, e2, e3]
                    clear e1 e2 e3
                    go_wp2_with fail
                    go_roundg ((nth s.calls k).length - (m + 1))
                    case measure => have := hm'.out; omega
                    case rel =>
                      refine ⟨m + 1, _, by omega, rfl, ?_, by go_num, (hxr.alloc _)⟩
                      rw [all_take_succ hlt3, ← Bool.and_assoc, ← hq2'.out, hcdef'.out, hok.out]
                      rfl

                  · have e3H := Lib.hid e3
                    go_wp2_with fail
                    refine (within2_spec _ c.c 0 255).mono ?_
                    rintro e w9 ⟨rfl, rfl⟩
                    cases e4 : wtn c.c 0 255
                    · have hok : Hid (callOk c = false) := by show _ = _; simp [callOk, e1, e2, e3, e4]
                      clear e1 e2 e3 e4
                      go_wp2_with fail
                      go_roundg ((nth s.calls k).length - (m + 1))
                      case measure => have := hm'.out; omega
                      case rel =>
                        refine ⟨m + 1, _, by omega, rfl, ?_, by go_num, (hxr.alloc _)⟩
                        rw [all_take_succ hlt3, ← Bool.and_assoc, ← hq2'.out, hcdef'.out, hok.out]
                        rfl

                    · have hok : Hid (callOk c = true) := by show _ = _; simp [callOk, e1, e2, e3, e4]
                      clear e1 e2 e3 e4
                      go_wp2_with fail
                      go_roundg ((nth s.calls k).length - (m + 1))
                      case measure => have := hm'.out; omega
                      case rel =>
                        refine ⟨m + 1, _, by omega, rfl, ?_, by go_num, (hxr.alloc _)⟩
                        rw [all_take_succ hlt3, ← Bool.and_assoc, ← hq2'.out, hcdef'.out, hok.out]
                        rfl

          · have hlo : Hid (q2 = listOk (nth s.calls k)) := by
              have e := hq2'.out
              rw [List.take_of_length_le (by omega)] at e
              show _ = _
              rw [e]
              unfold listOk
              congr 1
              simp
              omega
            go_wp2_with fail
            go_roundg (s.calls.length - (k + 1))
            case measure => have := hk'.out; omega
            case rel =>
              refine ⟨k + 1, _, by omega, rfl, ?_, by go_num, hxr⟩
              rw [all_take_succ hlt, ← hq'.out, hlo.out]; rfl
      · have hall : Hid (s.calls.all listOk = true) := by
          have e := hq'.out
          rw [List.take_of_length_le (by omega)] at e
          exact e.symm
        go_wp2_with fail
        clear a2
        go_loopg [3, 7] s.picks.length (fun g b i wr => ∃ (j : Nat) (q : Bool), j + g = s.picks.length ∧ b = .bool q ∧ q = (s.picks.take j).all (fun n => wtn n 0 255) ∧ i = .int .i64 j ∧ Ext No W wr)
        case atStart => exact ⟨0, true, by omega, rfl, by simp, rfl, hx⟩
        case round =>
          obtain ⟨j, q, hj, rfl, hqj, rfl, hxr⟩ := hrel
          have hj' := Lib.hid hj; have hqj' := Lib.hid hqj
          have hjn : j ≤ s.picks.length := by omega
          clear hj hqj
          have hAs := hA.extNo hxr
          have a3 := hAs.cell' (i := 3) rfl
          by_cases hlt3 : j < s.picks.length
          · cases q
            · have hr : Hid (errOf (okB s) = 2) := okB_pk (all_take_false hqj'.out.symm)
              go_wp2_with fail
              go_ret
              exact ⟨by rw [hr.out]; rfl, hX.transNo hxr⟩
            · obtain ⟨bx, ox, rfl, hfx, _, x0⟩ := (hp.extNo hxr).at1 hlt3
              rw [List.getElem?_map, nth_some hlt3] at x0
              simp only [Option.map_some, int] at x0
              go_wp2_with fail
              refine (within2_spec _ _ _ _).mono ?_
              rintro e w9 ⟨rfl, rfl⟩
              go_wp2_with fail
              go_roundg (s.picks.length - (j + 1))
              case measure => have := hj'.out; omega
              case rel =>
                refine ⟨j + 1, _, by omega, rfl, ?_, by go_num, hxr⟩
                rw [all_take_succ hlt3, ← hqj'.out]; rfl
          · have e := hqj'.out
            rw [List.take_of_length_le (by omega)] at e
            have eH := Lib.hid e
            clear e
            cases q
            · have hr : Hid (errOf (okB s) = 2) := okB_pk eH.out.symm
              go_wp2_with fail
              go_ret
              exact ⟨by rw [hr.out]; rfl, hX.transNo hxr⟩
            · have hr : Hid (errOf (okB s) = 0) := by
                show _ = _
                unfold okB
                rw [hbH.out, hall.out, ← eH.out]
                rfl
              go_wp2_with fail
              go_ret
              exact ⟨by rw [hr.out]; rfl, hX.transNo hxr⟩

theorem check34_spec (w : World) (v : Value) (s : Scr) (F : Nat → Prop) (hv : RdS F w v s) :
    Calls Try.prog 34 #[v] w fun e w' => e = .returned (.int .i64 (errOf (okB s))) ∧ Ext No w w' := by
  cases hb : headOk s
  · exact check2_bad w v s F hv hb
  · exact check2_good w v s F hv hb
end Go.Proofs.Ytjkknjohmekeiaa
