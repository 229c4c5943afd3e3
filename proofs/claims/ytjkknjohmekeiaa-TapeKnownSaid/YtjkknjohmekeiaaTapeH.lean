/- Check of a script, the program's and the document's. No condition. -/
import Derived.Test.YtjkknjohmekeiaaTapeG
namespace Go.Proofs.Ytjkknjohmekeiaa
open Go.RowKit

theorem head_cases (s : Scr) : (wtn s.cpus 1 8 = false ∧ headOk s = false) ∨ (wtn s.cpus 1 8 = true ∧ wtn s.pages 1 1024 = false ∧ headOk s = false) ∨
    (wtn s.cpus 1 8 = true ∧ wtn s.pages 1 1024 = true ∧ ¬ (s.calls.length : Int) = s.cpus ∧ headOk s = false) ∨
    (wtn s.cpus 1 8 = true ∧ wtn s.pages 1 1024 = true ∧ (s.calls.length : Int) = s.cpus ∧ ¬ s.picks.length ≤ 4096 ∧ headOk s = false) ∨
    (wtn s.cpus 1 8 = true ∧ wtn s.pages 1 1024 = true ∧ (s.calls.length : Int) = s.cpus ∧ s.picks.length ≤ 4096 ∧ headOk s = true) := by
  cases h1 : wtn s.cpus 1 8
  · simp [headOk, h1]
  · cases h2 : wtn s.pages 1 1024
    · simp [headOk, h1, h2]
    · by_cases h3 : (s.calls.length : Int) = s.cpus
      · by_cases h4 : s.picks.length ≤ 4096
        · simp [headOk, h1, h2, h3, h4]
        · simp [headOk, h1, h2, h3, h4]
      · simp [headOk, h1, h2, h3]
theorem okB_head {s : Scr} (h : headOk s = false) : errOf (okB s) = 2 := by simp [okB, h, errOf]
theorem okB_list {s : Scr} {k : Nat} (hk : k < s.calls.length) (h : listOk (nth s.calls k) = false) : errOf (okB s) = 2 := by
  have : s.calls.all listOk = false := by
    rw [List.all_eq_false]
    exact ⟨nth s.calls k, by rw [nth_eq hk]; exact List.getElem_mem _, by simp [h]⟩
  simp [okB, this, errOf]
theorem okB_picks {s : Scr} (h : (s.picks.any fun n => !wtn n 0 255) = true) : errOf (okB s) = 2 := by
  have : (s.picks.all fun n => wtn n 0 255) = false := by
    rw [List.all_eq_false]
    obtain ⟨x, hx, h2⟩ := List.any_eq_true.1 h
    exact ⟨x, hx, by simpa using h2⟩
  simp [okB, this, errOf]
theorem okB_true {s : Scr} (h1 : headOk s = true) (h2 : ∀ k, k < s.calls.length → listOk (nth s.calls k) = true) (h3 : (s.picks.any fun n => !wtn n 0 255) = false) : errOf (okB s) = 0 := by
  have e2 : s.calls.all listOk = true := by
    rw [List.all_eq_true]
    intro x hx
    obtain ⟨j, hj, rfl⟩ := List.getElem_of_mem hx
    have := h2 j hj
    rwa [nth_eq hj] at this
  have e3 : (s.picks.all fun n => wtn n 0 255) = true := by
    rw [List.all_eq_true]
    intro x hx
    have := List.any_eq_false.1 h3 x hx
    simpa using this
  unfold okB
  rw [h1, e2, e3]
  rfl
theorem listOk_any {l : List Cl} (h : l.length ≤ 64) : listOk l = !(l.any fun c => !callOk c) := by
  unfold listOk
  rw [List.not_any_eq_all_not]
  simp [h]
theorem RdS.openR {F : Nat → Prop} {w : World} {v : Value} {s : Scr} (h : RdS F w v s) :
    ∃ ac kc ap kp, v = .agg #[.int .i64 s.cpus, .int .i64 s.pages, .slice ac s.calls.length kc, .slice ap s.picks.length kp] ∧
      RdCC F F w (.slice ac s.calls.length kc) s.calls ∧ RdI F w (.slice ap s.picks.length kp) s.picks := by
  obtain ⟨vc, vp, h1, h2, h3⟩ := h
  obtain ⟨ac, kc, rfl, _, _⟩ := h2.val
  obtain ⟨ap, kp, rfl, _, _⟩ := Rd.val h3
  exact ⟨ac, kc, ap, kp, h1, h2, h3⟩

set_option maxRecDepth 100000 in
set_option maxHeartbeats 1600000 in
theorem check_bad (w : World) (v : Value) (s : Scr) (F : Nat → Prop) (hv : RdS F w v s) (hb : headOk s = false) :
    Calls Try.prog 33 #[v] w fun e w' => e = .returned (.int .i64 (errOf (okB s))) ∧ Ext No w w' := by
  obtain ⟨ac, kc, ap, kp, rfl, hc, hp⟩ := hv.openR
  have hr := Lib.hid (okB_head hb)
  have hX : Ext No w (w.alloc (.cells #[.int .i64 s.cpus, .int .i64 s.pages, .slice ac s.calls.length kc, .slice ap s.picks.length kp] 27)) := (Ext.refl _ _).alloc _
  rcases head_cases s with ⟨h1, _⟩ | ⟨h1, h2, _⟩ | ⟨h1, h2, h3, _⟩ | ⟨h1, h2, h3, h4, _⟩ | ⟨h1, h2, h3, h4, h5⟩
  · have g1 := Lib.hid h1
    clear h1 hb
    go_enter Try.func33, Try.ntmps33
    go_wp2_with fail
    refine (within_spec _ s.cpus 1 8).mono ?_
    rintro e w1 ⟨rfl, rfl⟩
    rw [g1.out]
    go_wp2_with fail
    go_ret
    exact ⟨by rw [hr.out]; rfl, hX⟩
  · have g1 := Lib.hid h1; have g2 := Lib.hid h2
    clear h1 h2 hb
    go_enter Try.func33, Try.ntmps33
    go_wp2_with fail
    refine (within_spec _ s.cpus 1 8).mono ?_
    rintro e w1 ⟨rfl, rfl⟩
    rw [g1.out]
    go_wp2_with fail
    refine (within_spec _ s.pages 1 1024).mono ?_
    rintro e w1 ⟨rfl, rfl⟩
    rw [g2.out]
    go_wp2_with fail
    go_ret
    exact ⟨by rw [hr.out]; rfl, hX⟩
  · have g1 := Lib.hid h1; have g2 := Lib.hid h2
    have g3 : ((s.calls.length : Int) != s.cpus) = true := by simpa using h3
    clear h1 h2 h3 hb
    go_enter Try.func33, Try.ntmps33
    go_wp2_with fail
    refine (within_spec _ s.cpus 1 8).mono ?_
    rintro e w1 ⟨rfl, rfl⟩
    rw [g1.out]
    go_wp2_with fail
    refine (within_spec _ s.pages 1 1024).mono ?_
    rintro e w1 ⟨rfl, rfl⟩
    rw [g2.out]
    go_wp2_with fail
    go_ret
    exact ⟨by rw [hr.out]; rfl, hX⟩
  · have g1 := Lib.hid h1; have g2 := Lib.hid h2
    have g3 : ((s.calls.length : Int) != s.cpus) = false := by simpa using h3
    have g4 : 4096 < (s.picks.length : Int) := by omega
    clear h1 h2 h3 h4 hb
    go_enter Try.func33, Try.ntmps33
    go_wp2_with fail
    refine (within_spec _ s.cpus 1 8).mono ?_
    rintro e w1 ⟨rfl, rfl⟩
    rw [g1.out]
    go_wp2_with fail
    refine (within_spec _ s.pages 1 1024).mono ?_
    rintro e w1 ⟨rfl, rfl⟩
    rw [g2.out]
    go_wp2_with fail
    go_ret
    exact ⟨by rw [hr.out]; rfl, hX⟩
  · rw [h5] at hb; cases hb

set_option maxRecDepth 100000 in
set_option maxHeartbeats 1600000 in
theorem check_good (w : World) (v : Value) (s : Scr) (F : Nat → Prop) (hv : RdS F w v s) (hb : headOk s = true) :
    Calls Try.prog 33 #[v] w fun e w' => e = .returned (.int .i64 (errOf (okB s))) ∧ Ext No w w' := by
  obtain ⟨ac, kc, ap, kp, rfl, hc, hp⟩ := hv.openR
  have hX : Ext No w (w.alloc (.cells #[.int .i64 s.cpus, .int .i64 s.pages, .slice ac s.calls.length kc, .slice ap s.picks.length kp] 27)) := (Ext.refl _ _).alloc _
  rcases head_cases s with ⟨h1, h5⟩ | ⟨h1, h2, h5⟩ | ⟨h1, h2, h3, h5⟩ | ⟨h1, h2, h3, h4, h5⟩ | ⟨h1, h2, h3, h4, _⟩
  · rw [h5] at hb; cases hb
  · rw [h5] at hb; cases hb
  · rw [h5] at hb; cases hb
  · rw [h5] at hb; cases hb
  · have g1 := Lib.hid h1; have g2 := Lib.hid h2
    have g3 : ((s.calls.length : Int) != s.cpus) = false := by simpa using h3
    have g4 : (s.picks.length : Int) ≤ 4096 := by omega
    have hb' := Lib.hid hb
    have h4' : s.picks.length ≤ 4096 := h4
    have hl8 : s.calls.length ≤ 8 := by have := wtn_iff.1 h1; omega
    clear h1 h2 h3 h4 hb
    go_enter Try.func33, Try.ntmps33
    go_wp2_with fail
    refine (within_spec _ s.cpus 1 8).mono ?_
    rintro e w1 ⟨rfl, rfl⟩
    rw [g1.out]
    go_wp2_with fail
    refine (within_spec _ s.pages 1 1024).mono ?_
    rintro e w1 ⟨rfl, rfl⟩
    rw [g2.out]
    obtain ⟨W, hW⟩ : ∃ W, w.alloc (.cells #[.int .i64 s.cpus, .int .i64 s.pages, .slice ac s.calls.length kc, .slice ap s.picks.length kp] 27) = W := ⟨_, rfl⟩
    have hA : Blk W w.heap.size [.int .i64 s.cpus, .int .i64 s.pages, .slice ac s.calls.length kc, .slice ap s.picks.length kp] 27 := by rw [← hW]; exact Blk.new _ _ _
    rw [hW] at hX ⊢
    clear hW
    have a0 := hA.cell' (i := 0) rfl
    have a1 := hA.cell' (i := 1) rfl
    have a2 := hA.cell' (i := 2) rfl
    have a3 := hA.cell' (i := 3) rfl
    have hc := hc.ext hX (fun _ _ => id) (fun _ _ => id)
    have hp := hp.extNo hX
    go_wp2_with fail
    clear a0 a1 a2 a3 g3 g4
    go_loopg [32] s.calls.length (fun g i wr => ∃ k : Nat, k + g = s.calls.length ∧ i = .int .i64 k ∧ (∀ j, j < k → listOk (nth s.calls j) = true) ∧ Ext No W wr)
    case atStart => exact ⟨0, by omega, rfl, by omega, Ext.refl _ _⟩
    case round =>
      obtain ⟨k, hk, rfl, hall, hx⟩ := hrel
      have hk' := Lib.hid hk; have hall' := Lib.hid hall
      have hkn : k ≤ s.calls.length := by omega
      clear hk hall
      by_cases hlt : k < s.calls.length
      · obtain ⟨b1, o1, ai, ci, rfl, r1, q1, _, _⟩ := (hc.ext hx (fun _ _ => id) (fun _ _ => id)).at hlt
        by_cases hle : (nth s.calls k).length ≤ 64
        · have g5 : ((nth s.calls k).length : Int) ≤ 64 := by omega
          have hla := Lib.hid (listOk_any hle)
          go_wp2_with fail
          refine (contains89_spec _ _ _ _ q1).mono ?_
          rintro e w2 ⟨rfl, hx2⟩
          have hx2 := hx.transNo hx2
          cases hany : ((nth s.calls k).any fun c => !callOk c)
          · have hok : Hid (listOk (nth s.calls k) = true) := by show _ = _; rw [hla.out, hany]; rfl
            clear hany
            go_wp2_with fail
            go_roundg (s.calls.length - (k + 1))
            case measure => have := hk'.out; omega
            case rel =>
              refine ⟨k + 1, by omega, by go_num, fun j hj => ?_, hx2⟩
              by_cases hjk : j < k
              · exact hall'.out j hjk
              · obtain rfl : j = k := by omega
                exact hok.out
          · have hr : Hid (errOf (okB s) = 2) := okB_list hlt (by rw [hla.out, hany]; rfl)
            clear hany
            go_wp2_with fail
            go_ret
            exact ⟨by rw [hr.out]; rfl, hX.transNo hx2⟩
        · have g5 : 64 < ((nth s.calls k).length : Int) := by omega
          have hr : Hid (errOf (okB s) = 2) := okB_list hlt (by simp [listOk]; omega)
          go_wp2_with fail
          go_ret
          exact ⟨by rw [hr.out]; rfl, hX.transNo hx⟩
      · have hAr := hA.extNo hx
        have a3 := hAr.cell' (i := 3) rfl
        go_wp2_with fail
        refine (contains92_spec _ _ _ _ (hp.extNo hx)).mono ?_
        rintro e w2 ⟨rfl, rfl⟩
        cases hany : (s.picks.any fun n => !wtn n 0 255)
        · have hr : Hid (errOf (okB s) = 0) := okB_true hb'.out (fun j hj => hall'.out j (by omega)) hany
          clear hany
          go_wp2_with fail
          go_ret
          exact ⟨by rw [hr.out]; rfl, hX.transNo hx⟩
        · have hr : Hid (errOf (okB s) = 2) := okB_picks hany
          clear hany
          go_wp2_with fail
          go_ret
          exact ⟨by rw [hr.out]; rfl, hX.transNo hx⟩

theorem check_spec (w : World) (v : Value) (s : Scr) (F : Nat → Prop) (hv : RdS F w v s) :
    Calls Try.prog 33 #[v] w fun e w' => e = .returned (.int .i64 (errOf (okB s))) ∧ Ext No w w' := by
  cases hb : headOk s
  · exact check_bad w v s F hv hb
  · exact check_good w v s F hv hb
end Go.Proofs.Ytjkknjohmekeiaa
