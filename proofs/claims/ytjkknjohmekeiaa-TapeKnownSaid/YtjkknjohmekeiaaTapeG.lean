/- Whether a script may be: the program's Check and the document's. No condition. -/
import Derived.Test.YtjkknjohmekeiaaTapeD
namespace Go.Proofs.Ytjkknjohmekeiaa
open Go.RowKit

def wtn (n lo hi : Int) : Bool := decide (lo ≤ n ∧ n ≤ hi)
theorem wtn_iff {n lo hi : Int} : wtn n lo hi = true ↔ lo ≤ n ∧ n ≤ hi := by simp [wtn]
theorem wtn_not {n lo hi : Int} : wtn n lo hi = false ↔ n < lo ∨ hi < n := by simp [wtn]; omega
def callOk (c : Cl) : Bool := wtn c.op 0 13 && (wtn c.a 0 255 && (wtn c.b 0 65535 && wtn c.c 0 255))
def listOk (l : List Cl) : Bool := decide (l.length ≤ 64) && l.all callOk
def headOk (s : Scr) : Bool := wtn s.cpus 1 8 && (wtn s.pages 1 1024 && (decide ((s.calls.length : Int) = s.cpus) && decide (s.picks.length ≤ 4096)))
def okB (s : Scr) : Bool := headOk s && (s.calls.all listOk && s.picks.all fun n => wtn n 0 255)
def errOf (b : Bool) : Int := if b then 0 else 2

theorem within_spec (w : World) (n lo hi : Int) :
    Calls Try.prog 88 #[.int .i64 n, .int .i64 lo, .int .i64 hi] w fun e w' => e = .returned (.bool (wtn n lo hi)) ∧ w = w' := by
  rcases Int.lt_or_le n lo with h | h
  · have hw : Hid (wtn n lo hi = false) := wtn_not.2 (.inl h)
    have h1 : decide (lo ≤ n) = false := by simp; omega
    clear h
    go_enter Try.func88, Try.ntmps88
    go_wp2_with fail
    go_ret
    exact ⟨by rw [hw.out]; rfl, rfl⟩
  · rcases Int.lt_or_le hi n with h2 | h2
    · have hw : Hid (wtn n lo hi = false) := wtn_not.2 (.inr h2)
      have h1 : decide (lo ≤ n) = true := by simp; omega
      have h3 : decide (n ≤ hi) = false := by simp; omega
      clear h h2
      go_enter Try.func88, Try.ntmps88
      go_wp2_with fail
      go_ret
      exact ⟨by rw [hw.out]; rfl, rfl⟩
    · have hw : Hid (wtn n lo hi = true) := wtn_iff.2 ⟨h, h2⟩
      have h1 : decide (lo ≤ n) = true := by simp; omega
      have h3 : decide (n ≤ hi) = true := by simp; omega
      clear h h2
      go_enter Try.func88, Try.ntmps88
      go_wp2_with fail
      go_ret
      exact ⟨by rw [hw.out]; rfl, rfl⟩

theorem within2_spec (w : World) (n lo hi : Int) :
    Calls Try.prog 94 #[.int .i64 n, .int .i64 lo, .int .i64 hi] w fun e w' => e = .returned (.bool (wtn n lo hi)) ∧ w = w' := by
  rcases Int.lt_or_le n lo with h | h
  · have hw : Hid (wtn n lo hi = false) := wtn_not.2 (.inl h)
    have h1 : decide (lo ≤ n) = false := by simp; omega
    clear h
    go_enter Try.func94, Try.ntmps94
    go_wp2_with fail
    go_ret
    exact ⟨by rw [hw.out]; rfl, rfl⟩
  · rcases Int.lt_or_le hi n with h2 | h2
    · have hw : Hid (wtn n lo hi = false) := wtn_not.2 (.inr h2)
      have h1 : decide (lo ≤ n) = true := by simp; omega
      have h3 : decide (n ≤ hi) = false := by simp; omega
      clear h h2
      go_enter Try.func94, Try.ntmps94
      go_wp2_with fail
      go_ret
      exact ⟨by rw [hw.out]; rfl, rfl⟩
    · have hw : Hid (wtn n lo hi = true) := wtn_iff.2 ⟨h, h2⟩
      have h1 : decide (lo ≤ n) = true := by simp; omega
      have h3 : decide (n ≤ hi) = true := by simp; omega
      clear h h2
      go_enter Try.func94, Try.ntmps94
      go_wp2_with fail
      go_ret
      exact ⟨by rw [hw.out]; rfl, rfl⟩

def clV (c : Cl) : Value := .agg #[.int .i64 c.op, .int .i64 c.a, .int .i64 c.b, .int .i64 c.c]

set_option maxHeartbeats 1600000 in
theorem may_spec (w : World) (c : Cl) :
    Calls Try.prog 91 #[.agg #[.int .i64 c.op, .int .i64 c.a, .int .i64 c.b, .int .i64 c.c]] w fun e w' => e = .returned (.bool (callOk c)) ∧ Ext No w w' := by
  have hX : ∀ o, Ext No w (w.alloc o) := fun o => (Ext.refl _ _).alloc _
  have hX' := Lib.hid hX
  clear hX
  cases h1 : wtn c.op 0 13
  · have hr : Hid (callOk c = false) := by show _ = _; simp [callOk, h1]
    have g1 := Lib.hid h1; clear h1
    go_enter Try.func91, Try.ntmps91
    go_wp2_with (refine (within_spec _ c.op 0 13).mono ?_; rintro e w1 ⟨rfl, rfl⟩; rw [g1.out])
    go_ret
    exact ⟨by rw [hr.out]; rfl, hX'.out _⟩
  · cases h2 : wtn c.a 0 255
    · have hr : Hid (callOk c = false) := by show _ = _; simp [callOk, h1, h2]
      have g1 := Lib.hid h1; have g2 := Lib.hid h2; clear h1 h2
      go_enter Try.func91, Try.ntmps91
      go_wp2_with fail
      refine (within_spec _ c.op 0 13).mono ?_
      rintro e w1 ⟨rfl, rfl⟩
      rw [g1.out]
      go_wp2_with fail
      refine (within_spec _ c.a 0 255).mono ?_
      rintro e w1 ⟨rfl, rfl⟩
      rw [g2.out]
      go_wp2_with fail
      go_ret
      exact ⟨by rw [hr.out]; rfl, hX'.out _⟩
    · cases h3 : wtn c.b 0 65535
      · have hr : Hid (callOk c = false) := by show _ = _; simp [callOk, h1, h2, h3]
        have g1 := Lib.hid h1; have g2 := Lib.hid h2; have g3 := Lib.hid h3; clear h1 h2 h3
        go_enter Try.func91, Try.ntmps91
        go_wp2_with fail
        refine (within_spec _ c.op 0 13).mono ?_
        rintro e w1 ⟨rfl, rfl⟩
        rw [g1.out]
        go_wp2_with fail
        refine (within_spec _ c.a 0 255).mono ?_
        rintro e w1 ⟨rfl, rfl⟩
        rw [g2.out]
        go_wp2_with fail
        refine (within_spec _ c.b 0 65535).mono ?_
        rintro e w1 ⟨rfl, rfl⟩
        rw [g3.out]
        go_wp2_with fail
        go_ret
        exact ⟨by rw [hr.out]; rfl, hX'.out _⟩
      · have hr : Hid (callOk c = wtn c.c 0 255) := by show _ = _; simp [callOk, h1, h2, h3]
        have g1 := Lib.hid h1; have g2 := Lib.hid h2; have g3 := Lib.hid h3; clear h1 h2 h3
        go_enter Try.func91, Try.ntmps91
        go_wp2_with fail
        refine (within_spec _ c.op 0 13).mono ?_
        rintro e w1 ⟨rfl, rfl⟩
        rw [g1.out]
        go_wp2_with fail
        refine (within_spec _ c.a 0 255).mono ?_
        rintro e w1 ⟨rfl, rfl⟩
        rw [g2.out]
        go_wp2_with fail
        refine (within_spec _ c.b 0 65535).mono ?_
        rintro e w1 ⟨rfl, rfl⟩
        rw [g3.out]
        go_wp2_with fail
        refine (within_spec _ c.c 0 255).mono ?_
        rintro e w1 ⟨rfl, rfl⟩
        go_wp2_with fail
        go_ret
        exact ⟨by rw [hr.out]; rfl, hX'.out _⟩

theorem check1_spec (w : World) (c : Cl) :
    Calls Try.prog 90 #[.agg #[.int .i64 c.op, .int .i64 c.a, .int .i64 c.b, .int .i64 c.c]] w fun e w' => e = .returned (.bool (!callOk c)) ∧ Ext No w w' := by
  go_enter Try.func90, Try.ntmps90
  go_wp2_with fail
  refine (may_spec _ c).mono ?_
  rintro e w1 ⟨rfl, hx⟩
  have hX : Ext No w w1 := ((Ext.refl _ _).alloc _).transNo hx
  go_wp2_with fail
  go_ret
  exact ⟨rfl, hX⟩
theorem check2_spec (w : World) (n : Int) :
    Calls Try.prog 93 #[.int .i64 n] w fun e w' => e = .returned (.bool (!wtn n 0 255)) ∧ w = w' := by
  go_enter Try.func93, Try.ntmps93
  go_wp2_with fail
  refine (within_spec _ n 0 255).mono ?_
  rintro e w1 ⟨rfl, rfl⟩
  go_wp2_with fail
  go_ret
  exact ⟨rfl, rfl⟩

theorem any_of_nth {α : Type} [Inhabited α] {l : List α} {p : α → Bool} {k : Nat} (hk : k < l.length) (h : p (nth l k) = true) : l.any p = true :=
  List.any_eq_true.2 ⟨nth l k, by rw [nth_eq hk]; exact List.getElem_mem _, h⟩
theorem any_none {α : Type} [Inhabited α] {l : List α} {p : α → Bool} (h : ∀ j, j < l.length → p (nth l j) = false) : l.any p = false := by
  rw [List.any_eq_false]
  intro x hx
  obtain ⟨j, hj, rfl⟩ := List.getElem_of_mem hx
  have := h j hj
  rw [nth_eq hj] at this
  simp [this]

set_option maxHeartbeats 800000 in
theorem index134_spec (w : World) (v : Value) (l : List Cl) (F : Nat → Prop) (hv : RdC F w v l) :
    Calls Try.prog 134 #[v, .func (.func 90) #[] #[]] w fun e w' => ∃ r : Int, e = .returned (.int .i64 r) ∧ decide (0 ≤ r) = (l.any fun c => !callOk c) ∧ Ext No w w' := by
  obtain ⟨a, cap, rfl, _, _⟩ := Rd.val hv
  have hno := any_none (l := l) (p := fun c => !callOk c)
  have hno' := Lib.hid hno; clear hno
  go_enter Try.func134, Try.ntmps134
  go_wp2_with fail
  go_loopg [8] l.length (fun g i wr => ∃ k : Nat, k + g = l.length ∧ i = .int .i64 k ∧ (∀ j, j < k → (!callOk (nth l j)) = false) ∧ Ext No w wr)
  case atStart => exact ⟨0, by omega, rfl, by omega, Ext.refl _ _⟩
  case round =>
    obtain ⟨k, hk, rfl, hall, hx⟩ := hrel
    have hk' := Lib.hid hk; have hall' := Lib.hid hall
    have hkn : k ≤ l.length := by omega
    clear hk hall
    by_cases hlt : k < l.length
    · obtain ⟨b, off, rfl, _, _, x0, x1, x2, x3⟩ := (RdC.ext hv hx (fun _ _ => id)).at hlt
      go_wp2_with fail
      refine (check1_spec _ (nth l k)).mono ?_
      rintro e w1 ⟨rfl, hx1⟩
      have hX := hx.transNo hx1
      cases hc : (!callOk (nth l k))
      · have hc' := Lib.hid hc; clear hc
        go_wp2_with fail
        go_roundg (l.length - (k + 1))
        case measure => have := hk'.out; omega
        case rel =>
          refine ⟨k + 1, by omega, by go_num, fun j hj => ?_, hX⟩
          by_cases hjk : j < k
          · exact hall'.out j hjk
          · obtain rfl : j = k := by omega
            exact hc'.out
      · have hr : Hid (decide (0 ≤ (k : Int)) = (l.any fun c => !callOk c)) := by
          show _ = _
          rw [any_of_nth (p := fun c => !callOk c) hlt hc]; simp
        clear hc
        go_wp2_with fail
        go_ret
        exact ⟨k, rfl, hr.out, hX⟩
    · have hr : Hid (decide (0 ≤ (-1 : Int)) = (l.any fun c => !callOk c)) := by
        show _ = _
        rw [hno'.out (fun j hj => hall'.out j (by omega))]; decide
      go_wp2_with fail
      go_ret
      exact ⟨-1, rfl, hr.out, hx⟩

theorem contains89_spec (w : World) (v : Value) (l : List Cl) (F : Nat → Prop) (hv : RdC F w v l) :
    Calls Try.prog 89 #[v, .func (.func 90) #[] #[]] w fun e w' => e = .returned (.bool (l.any fun c => !callOk c)) ∧ Ext No w w' := by
  go_enter Try.func89, Try.ntmps89
  go_wp2_with fail
  refine (index134_spec w v l F hv).mono ?_
  rintro e w1 ⟨r, rfl, hr, hx⟩
  have hr' := Lib.hid hr; clear hr
  go_wp2_with fail
  go_ret
  exact ⟨by rw [← hr'.out]; rfl, hx⟩

set_option maxHeartbeats 800000 in
theorem index135_spec (w : World) (v : Value) (l : List Int) (F : Nat → Prop) (hv : RdI F w v l) :
    Calls Try.prog 135 #[v, .func (.func 93) #[] #[]] w fun e w' => ∃ r : Int, e = .returned (.int .i64 r) ∧ decide (0 ≤ r) = (l.any fun n => !wtn n 0 255) ∧ w = w' := by
  obtain ⟨a, cap, rfl, _, _⟩ := Rd.val hv
  have hno := any_none (l := l) (p := fun n => !wtn n 0 255)
  have hno' := Lib.hid hno; clear hno
  go_enter Try.func135, Try.ntmps135
  go_wp2_with fail
  go_loopg [8] l.length (fun g i wr => ∃ k : Nat, k + g = l.length ∧ i = .int .i64 k ∧ (∀ j, j < k → (!wtn (nth l j) 0 255) = false) ∧ wr = w)
  case atStart => exact ⟨0, by omega, rfl, by omega, rfl⟩
  case round =>
    obtain ⟨k, hk, rfl, hall, rfl⟩ := hrel
    have hk' := Lib.hid hk; have hall' := Lib.hid hall
    have hkn : k ≤ l.length := by omega
    clear hk hall
    by_cases hlt : k < l.length
    · obtain ⟨b, off, rfl, _, _, x0⟩ := Rd.at1 hv hlt
      rw [List.getElem?_map, nth_some hlt] at x0
      simp only [Option.map_some, int] at x0
      go_wp2_with fail
      refine (check2_spec _ (nth l k)).mono ?_
      rintro e w1 ⟨rfl, rfl⟩
      cases hc : (!wtn (nth l k) 0 255)
      · have hc' := Lib.hid hc; clear hc
        go_wp2_with fail
        go_roundg (l.length - (k + 1))
        case measure => have := hk'.out; omega
        case rel =>
          refine ⟨k + 1, by omega, by go_num, fun j hj => ?_, rfl⟩
          by_cases hjk : j < k
          · exact hall'.out j hjk
          · obtain rfl : j = k := by omega
            exact hc'.out
      · have hr : Hid (decide (0 ≤ (k : Int)) = (l.any fun n => !wtn n 0 255)) := by
          show _ = _
          rw [any_of_nth (p := fun n => !wtn n 0 255) hlt hc]; simp
        clear hc
        go_wp2_with fail
        go_ret
        exact ⟨k, rfl, hr.out, rfl⟩
    · have hr : Hid (decide (0 ≤ (-1 : Int)) = (l.any fun n => !wtn n 0 255)) := by
        show _ = _
        rw [hno'.out (fun j hj => hall'.out j (by omega))]; decide
      go_wp2_with fail
      go_ret
      exact ⟨-1, rfl, hr.out, rfl⟩

theorem contains92_spec (w : World) (v : Value) (l : List Int) (F : Nat → Prop) (hv : RdI F w v l) :
    Calls Try.prog 92 #[v, .func (.func 93) #[] #[]] w fun e w' => e = .returned (.bool (l.any fun n => !wtn n 0 255)) ∧ w = w' := by
  go_enter Try.func92, Try.ntmps92
  go_wp2_with fail
  refine (index135_spec w v l F hv).mono ?_
  rintro e w1 ⟨r, rfl, hr, rfl⟩
  have hr' := Lib.hid hr; clear hr
  go_wp2_with fail
  go_ret
  exact ⟨by rw [← hr'.out]; rfl, rfl⟩
end Go.Proofs.Ytjkknjohmekeiaa
