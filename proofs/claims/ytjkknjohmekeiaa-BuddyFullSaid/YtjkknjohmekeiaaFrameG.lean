/- The chapter's tables are as the chapter says; the law FrameSum. No condition. -/
import Derived.Test.YtjkknjohmekeiaaFrameF
namespace Go.Proofs.Ytjkknjohmekeiaa
open Go.RowKit

set_option maxRecDepth 100000 in
set_option maxHeartbeats 1600000 in
theorem same62_spec (w : World) (a b : Value) (xs ys : List T3) (F G : Nat → Prop) (ha : RdT F w a xs) (hb : RdT G w b ys) :
    Calls Try.prog 62 #[a, b] w fun e w' => e = .returned (.bool (decide (xs = ys))) ∧ Ext No w w' := by
  obtain ⟨aa, ca, rfl, _, _⟩ := ha.val
  obtain ⟨ab, cb, rfl, _, _⟩ := hb.val
  by_cases hl : xs.length = ys.length
  · have hl' := Lib.hid hl
    have hne : (((xs.length : Nat) : Int) != (ys.length : Nat)) = false := by rw [hl]; simp
    have heq : ((xs.length : Nat) : Int) = (ys.length : Nat) := by rw [hl]
    rw [← hl] at hb ⊢
    clear hne heq
    go_enter Try.func62, Try.ntmps62
    go_wp2_with fail
    go_loopg [5] xs.length (fun g i wr => ∃ k : Nat, k + g = xs.length ∧ i = .int .i64 k ∧ (∀ j, j < k → nth xs j = nth ys j) ∧ ∃ n, wr = w.drewN n)
    case atStart => exact ⟨0, by omega, rfl, by omega, 0, rfl⟩
    case round =>
      obtain ⟨k, hk, rfl, hall, m, rfl⟩ := hrel
      have hk' := Lib.hid hk; have hall' := Lib.hid hall
      have hkn : k ≤ xs.length := by omega
      clear hk hall
      by_cases hlt : k < xs.length
      · obtain ⟨b1, o1, rfl, _, _, x0, x1, x2⟩ := ha.at hlt
        obtain ⟨b2, o2, rfl, _, _, y0, y1, y2⟩ := hb.at (k := k) (by omega)
        by_cases he : nth xs k = nth ys k
        · have e1 : ((nth xs k).a == (nth ys k).a) = true := by rw [he]; simp
          have e2 : ((nth xs k).b == (nth ys k).b) = true := by rw [he]; simp
          have e3 : ((nth xs k).c == (nth ys k).c) = true := by rw [he]; simp
          have he' := Lib.hid he; clear he
          go_wp2
          go_quiet (fail)
          go_wp2
          go_roundg (xs.length - (k + 1))
          case measure => have := hk'.out; omega
          case rel =>
            refine ⟨k + 1, by omega, by go_num, fun j hj => ?_, _, rfl⟩
            by_cases hjk : j < k
            · exact hall'.out j hjk
            · obtain rfl : j = k := by omega
              exact he'.out
        · have hr : Hid (decide (xs = ys) = false) := decide_eq_false (fun e => he (by rw [e]))
          rcases T3.ne_cases he with e1 | ⟨e1, e2⟩ | ⟨e1, e2, e3⟩
          all_goals
            clear he
            go_wp2
            go_quiet (fail)
            go_wp2
            go_ret
            exact ⟨by rw [hr.out]; rfl, ((Ext.refl No w).drewN _).drewN _⟩
      · have hr : Hid (decide (xs = ys) = true) := by
          apply decide_eq_true
          apply List.ext_getElem hl'.out
          intro j h1 h2
          have := hall'.out j (by omega)
          rw [nth_eq h1, nth_eq h2] at this; exact this
        go_wp2_with fail
        go_ret
        exact ⟨by rw [hr.out]; rfl, (Ext.refl No w).drewN _⟩
  · have hr : Hid (decide (xs = ys) = false) := decide_eq_false (fun e => hl (by rw [e]))
    have hne : (((xs.length : Nat) : Int) == (ys.length : Nat)) = false := by rw [beq_eq_false_iff_ne]; omega
    go_enter Try.func62, Try.ntmps62
    go_wp2_with fail
    go_ret
    exact ⟨by rw [hr.out]; rfl, Ext.refl _ _⟩
end Go.Proofs.Ytjkknjohmekeiaa
