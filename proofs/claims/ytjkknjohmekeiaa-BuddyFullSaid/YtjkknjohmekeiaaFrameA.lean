/- Pages: headed, inside, and whether some of a row of pages is not inside. No condition. -/
import Derived.Test.YtjkknjohmekeiaaT3
import Derived.Test.YtjkknjohmekeiaaNearA
namespace Go.Proofs.Ytjkknjohmekeiaa
open Go.RowKit

/-- May a page be a head? -/
def headB (p : T3) : Bool := (decide (0 ≤ p.b) && decide (p.b ≤ 10)) && ((decide (p.a = 0) && decide (p.c = 0)) || (decide (p.a = 2) && (decide (0 ≤ p.c) && decide (p.c ≤ 8))))
def inside : T3 := ⟨1, 0, 0⟩
def notIn (p : T3) : Bool := !decide (p = inside)

set_option maxHeartbeats 800000 in
theorem headed_spec (w : World) (p : T3) :
    Calls Try.prog 108 #[.agg #[.int .i64 p.a, .int .i64 p.b, .int .i64 p.c]] w fun e w' => e = .returned (.bool (headB p)) ∧ Ext No w w' := by
  have hx : Ext No w (w.alloc (.cells #[.int .i64 p.a, .int .i64 p.b, .int .i64 p.c] 98)) := (Ext.refl _ _).alloc _
  by_cases h1 : p.b < 0
  · have hr : Hid (headB p = false) := by show _ = _; unfold headB; rw [decide_eq_false (show ¬ 0 ≤ p.b by omega)]; rfl
    go_enter Try.func108, Try.ntmps108
    go_wp2_with fail
    go_ret
    exact ⟨by rw [hr.out]; rfl, hx⟩
  · have h1' : 0 ≤ p.b := by omega
    by_cases h2 : 10 < p.b
    · have hr : Hid (headB p = false) := by show _ = _; unfold headB; rw [decide_eq_false (show ¬ p.b ≤ 10 by omega), Bool.and_false]; rfl
      clear h1
      go_enter Try.func108, Try.ntmps108
      go_wp2_with fail
      go_ret
      exact ⟨by rw [hr.out]; rfl, hx⟩
    · have h2' : p.b ≤ 10 := by omega
      clear h1 h2
      by_cases h3 : p.a = 0
      · have h3b : (p.a == 0) = true := by rw [beq_iff_eq]; exact h3
        cases hc : (p.c == 0)
        · have hr : Hid (headB p = false) := by
            show _ = _
            have : ¬ p.c = 0 := by rw [beq_eq_false_iff_ne] at hc; exact hc
            unfold headB; simp [h3, this]
          clear h3
          go_enter Try.func108, Try.ntmps108
          go_wp2_with fail
          go_ret
          exact ⟨by rw [hr.out]; rfl, hx⟩
        · have hr : Hid (headB p = true) := by
            show _ = _
            have : p.c = 0 := by rw [beq_iff_eq] at hc; exact hc
            unfold headB; simp [h3, this, h1', h2']
          clear h3
          go_enter Try.func108, Try.ntmps108
          go_wp2_with fail
          go_ret
          exact ⟨by rw [hr.out]; rfl, hx⟩
      · have h3b : (p.a == 0) = false := by rw [beq_eq_false_iff_ne]; exact h3
        by_cases h4 : p.a = 2
        · have h4b : (p.a == 2) = true := by rw [beq_iff_eq]; exact h4
          by_cases h5 : 0 ≤ p.c
          · by_cases h6 : p.c ≤ 8
            · have hr : Hid (headB p = true) := by show _ = _; unfold headB; simp [h4, h1', h2', h5, h6]
              clear h3 h4
              go_enter Try.func108, Try.ntmps108
              go_wp2_with fail
              go_ret
              exact ⟨by rw [hr.out]; rfl, hx⟩
            · have h6' : 8 < p.c := by omega
              have h6d : decide (p.c ≤ 8) = false := decide_eq_false h6
              have hr : Hid (headB p = false) := by show _ = _; unfold headB; simp [h4]; omega
              clear h3 h4 h6
              go_enter Try.func108, Try.ntmps108
              go_wp2_with fail
              go_ret
              exact ⟨by rw [hr.out]; rfl, hx⟩
          · have h5' : p.c < 0 := by omega
            have hr : Hid (headB p = false) := by show _ = _; unfold headB; simp [h4]; omega
            clear h3 h4 h5
            go_enter Try.func108, Try.ntmps108
            go_wp2_with fail
            go_ret
            exact ⟨by rw [hr.out]; rfl, hx⟩
        · have h4b : (p.a == 2) = false := by rw [beq_eq_false_iff_ne]; exact h4
          have hr : Hid (headB p = false) := by show _ = _; unfold headB; simp [h3, h4]
          clear h3 h4
          go_enter Try.func108, Try.ntmps108
          go_wp2_with fail
          go_ret
          exact ⟨by rw [hr.out]; rfl, hx⟩

theorem T3.ne_cases {x y : T3} (h : ¬ x = y) : (x.a == y.a) = false ∨ ((x.a == y.a) = true ∧ (x.b == y.b) = false) ∨ ((x.a == y.a) = true ∧ (x.b == y.b) = true ∧ (x.c == y.c) = false) := by
  simp only [beq_eq_false_iff_ne, beq_iff_eq]
  by_cases h1 : x.a = y.a
  · by_cases h2 : x.b = y.b
    · by_cases h3 : x.c = y.c
      · exact absurd (T3.ext3 h1 h2 h3) h
      · exact .inr (.inr ⟨h1, h2, h3⟩)
    · exact .inr (.inl ⟨h1, h2⟩)
  · exact .inl h1

theorem notIn_spec (w : World) (p : T3) :
    Calls Try.prog 140 #[.agg #[.int .i64 p.a, .int .i64 p.b, .int .i64 p.c]] w fun e w' => e = .returned (.bool (notIn p)) ∧ Ext No w w' := by
  have hx : Ext No w (w.alloc (.cells #[.int .i64 p.a, .int .i64 p.b, .int .i64 p.c] 98)) := (Ext.refl _ _).alloc _
  by_cases h : p = inside
  · have hr : Hid (notIn p = false) := by show _ = _; unfold notIn; rw [decide_eq_true h]; rfl
    have h1 : (p.a == 1) = true := by rw [h]; rfl
    have h2 : (p.b == 0) = true := by rw [h]; rfl
    have h3 : (p.c == 0) = true := by rw [h]; rfl
    clear h
    go_enter Try.func140, Try.ntmps140
    go_wp2_with fail
    go_ret
    exact ⟨by rw [hr.out]; rfl, hx⟩
  · have hr : Hid (notIn p = true) := by show _ = _; unfold notIn; rw [decide_eq_false h]; rfl
    rcases T3.ne_cases h with h1 | ⟨h1, h2⟩ | ⟨h1, h2, h3⟩
    all_goals
      simp only [inside] at h1
      try simp only [inside] at h2
      try simp only [inside] at h3
      clear h
      go_enter Try.func140, Try.ntmps140
      go_wp2_with fail
      go_ret
      exact ⟨by rw [hr.out]; rfl, hx⟩

set_option maxHeartbeats 800000 in
theorem index148_spec (w : World) (v : Value) (l : List T3) (F : Nat → Prop) (hv : RdT F w v l) :
    Calls Try.prog 148 #[v, .func (.func 140) #[] #[]] w fun e w' => ∃ r : Int, e = .returned (.int .i64 r) ∧ decide (0 ≤ r) = l.any notIn ∧ Ext No w w' := by
  obtain ⟨a, cap, rfl, _, _⟩ := hv.val
  have hno := any_none (l := l) (p := notIn)
  have hno' := Lib.hid hno; clear hno
  go_enter Try.func148, Try.ntmps148
  go_wp2_with fail
  go_loopg [8] l.length (fun g i wr => ∃ k : Nat, k + g = l.length ∧ i = .int .i64 k ∧ (∀ j, j < k → notIn (nth l j) = false) ∧ Ext No w wr)
  case atStart => exact ⟨0, by omega, rfl, by omega, Ext.refl _ _⟩
  case round =>
    obtain ⟨k, hk, rfl, hall, hx⟩ := hrel
    have hk' := Lib.hid hk; have hall' := Lib.hid hall
    have hkn : k ≤ l.length := by omega
    clear hk hall
    by_cases hlt : k < l.length
    · obtain ⟨b, off, rfl, _, _, x0, x1, x2⟩ := (hv.extNo hx).at hlt
      go_wp2_with fail
      refine (notIn_spec _ (nth l k)).mono ?_
      rintro e w2 ⟨rfl, hx2⟩
      have hx3 := hx.transNo hx2
      clear hx hx2
      cases hc : notIn (nth l k)
      · have hc' := Lib.hid hc; clear hc
        go_wp2_with fail
        go_roundg (l.length - (k + 1))
        case measure => have := hk'.out; omega
        case rel =>
          refine ⟨k + 1, by omega, by go_num, fun j hj => ?_, hx3⟩
          by_cases hjk : j < k
          · exact hall'.out j hjk
          · obtain rfl : j = k := by omega
            exact hc'.out
      · have hr : Hid (decide (0 ≤ (k : Int)) = l.any notIn) := by
          show _ = _
          rw [any_of_nth (p := notIn) hlt hc]; simp
        clear hc
        go_wp2_with fail
        go_ret
        exact ⟨k, rfl, hr.out, hx3⟩
    · have hr : Hid (decide (0 ≤ (-1 : Int)) = l.any notIn) := by
        show _ = _
        rw [hno'.out (fun j hj => hall'.out j (by omega))]; decide
      go_wp2_with fail
      go_ret
      exact ⟨-1, rfl, hr.out, hx⟩

theorem contains139_spec (w : World) (v : Value) (l : List T3) (F : Nat → Prop) (hv : RdT F w v l) :
    Calls Try.prog 139 #[v, .func (.func 140) #[] #[]] w fun e w' => e = .returned (.bool (l.any notIn)) ∧ Ext No w w' := by
  go_enter Try.func139, Try.ntmps139
  go_wp2_with fail
  refine (index148_spec w v l F hv).mono ?_
  rintro e w1 ⟨r, rfl, hr, hx⟩
  have hr' := Lib.hid hr; clear hr
  go_wp2_with fail
  go_ret
  exact ⟨by rw [← hr'.out]; rfl, hx⟩

theorem blocks111_spec (w : World) (a : Option Addr) (n cap : Nat) :
    Calls Try.prog 111 #[.slice a n cap] w fun e w' => e = .returned (.func (.func 138) #[] #[.pointer (some ⟨w.heap.size, 0, none⟩)]) ∧ w' = w.alloc (.cells #[.slice a n cap] 96) := by
  go_enter Try.func111, Try.ntmps111
  go_wp2_with fail
  go_ret
  exact ⟨rfl, rfl⟩
end Go.Proofs.Ytjkknjohmekeiaa
