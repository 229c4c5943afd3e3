/- Texts of ours, one behind the other (TapeG, Open, T3, NearA, FrameA, FrameP): each says in its own first lines what it proves. No condition. -/
import Derived.Test.YtjkknjohmekeiaaPackA
import Derived.Test.YtjkknjohmekeiaaRows
import Derived.OpenShut
import Derived.SizedLaws
import Derived.Deep.Slices
import Derived.Deep.Strs
import Derived.Lib.SmallJoins
/- Whether a script may be: the program's Check and the document's. No condition. -/
namespace Go.Proofs.Ytjkknjohmekeiaa
open Go.RowKit

def wtn (n lo hi : Int) : Bool := decide (lo ≤ n ∧ n ≤ hi)
theorem wtn_iff {n lo hi : Int} : wtn n lo hi = true ↔ lo ≤ n ∧ n ≤ hi := by simp [wtn]
theorem wtn_not {n lo hi : Int} : wtn n lo hi = false ↔ n < lo ∨ hi < n := by simp [wtn]; omega
def callOk (c : Cl) : Bool := wtn c.op 0 13 && (wtn c.a 0 255 && (wtn c.b 0 65535 && wtn c.c 0 255))
def listOk (l : List Cl) : Bool := decide (l.length ≤ 64) && l.all callOk
def headOk (s : Scr) : Bool := wtn s.cpus 1 8 && (wtn s.pages 1 1024 && (decide ((s.calls.length : Int) = s.cpus) && decide (s.picks.length ≤ 4096)))
def okB (s : Scr) : Bool := headOk s && (s.calls.all listOk && s.picks.all fun n => wtn n 0 255)
def errOf (b : Bool) : Int := if b then 0 else 2

theorem within_spec (w : World) (n lo hi : Int) :
    Calls Try.prog 88 #[.int .i64 n, .int .i64 lo, .int .i64 hi] w fun e w' => e = .returned (.bool (wtn n lo hi)) ∧ w = w' := by
  rcases Int.lt_or_le n lo with h | h
  · have hw : Hid (wtn n lo hi = false) := wtn_not.2 (.inl h)
    have h1 : decide (lo ≤ n) = false := by simp; omega
    clear h
    go_enter Try.func88, Try.ntmps88
    go_wp2_with fail
    go_ret
    exact ⟨by rw [hw.out]; rfl, rfl⟩
  · rcases Int.lt_or_le hi n with h2 | h2
    · have hw : Hid (wtn n lo hi = false) := wtn_not.2 (.inr h2)
      have h1 : decide (lo ≤ n) = true := by simp; omega
      have h3 : decide (n ≤ hi) = false := by simp; omega
      clear h h2
      go_enter Try.func88, Try.ntmps88
      go_wp2_with fail
      go_ret
      exact ⟨by rw [hw.out]; rfl, rfl⟩
    · have hw : Hid (wtn n lo hi = true) := wtn_iff.2 ⟨h, h2⟩
      have h1 : decide (lo ≤ n) = true := by simp; omega
      have h3 : decide (n ≤ hi) = true := by simp; omega
      clear h h2
      go_enter Try.func88, Try.ntmps88
      go_wp2_with fail
      go_ret
      exact ⟨by rw [hw.out]; rfl, rfl⟩

theorem within2_spec (w : World) (n lo hi : Int) :
    Calls Try.prog 94 #[.int .i64 n, .int .i64 lo, .int .i64 hi] w fun e w' => e = .returned (.bool (wtn n lo hi)) ∧ w = w' := by
  rcases Int.lt_or_le n lo with h | h
  · have hw : Hid (wtn n lo hi = false) := wtn_not.2 (.inl h)
    have h1 : decide (lo ≤ n) = false := by simp; omega
    clear h
    go_enter Try.func94, Try.ntmps94
    go_wp2_with fail
    go_ret
    exact ⟨by rw [hw.out]; rfl, rfl⟩
  · rcases Int.lt_or_le hi n with h2 | h2
    · have hw : Hid (wtn n lo hi = false) := wtn_not.2 (.inr h2)
      have h1 : decide (lo ≤ n) = true := by simp; omega
      have h3 : decide (n ≤ hi) = false := by simp; omega
      clear h h2
      go_enter Try.func94, Try.ntmps94
      go_wp2_with fail
      go_ret
      exact ⟨by rw [hw.out]; rfl, rfl⟩
    · have hw : Hid (wtn n lo hi = true) := wtn_iff.2 ⟨h, h2⟩
      have h1 : decide (lo ≤ n) = true := by simp; omega
      have h3 : decide (n ≤ hi) = true := by simp; omega
      clear h h2
      go_enter Try.func94, Try.ntmps94
      go_wp2_with fail
      go_ret
      exact ⟨by rw [hw.out]; rfl, rfl⟩

def clV (c : Cl) : Value := .agg #[.int .i64 c.op, .int .i64 c.a, .int .i64 c.b, .int .i64 c.c]

set_option maxHeartbeats 1600000 in
theorem may_spec (w : World) (c : Cl) :
    Calls Try.prog 91 #[.agg #[.int .i64 c.op, .int .i64 c.a, .int .i64 c.b, .int .i64 c.c]] w fun e w' => e = .returned (.bool (callOk c)) ∧ Ext No w w' := by
  have hX : ∀ o, Ext No w (w.alloc o) := fun o => (Ext.refl _ _).alloc _
  have hX' := Lib.hid hX
  clear hX
  cases h1 : wtn c.op 0 13
  · have hr : Hid (callOk c = false) := by show _ = _; simp [callOk, h1]
    have g1 := Lib.hid h1; clear h1
    go_enter Try.func91, Try.ntmps91
    go_wp2_with (refine (within_spec _ c.op 0 13).mono ?_; rintro e w1 ⟨rfl, rfl⟩; rw [g1.out])
    go_ret
    exact ⟨by rw [hr.out]; rfl, hX'.out _⟩
  · cases h2 : wtn c.a 0 255
    · have hr : Hid (callOk c = false) := by show _ = _; simp [callOk, h1, h2]
      have g1 := Lib.hid h1; have g2 := Lib.hid h2; clear h1 h2
      go_enter Try.func91, Try.ntmps91
      go_wp2_with fail
      refine (within_spec _ c.op 0 13).mono ?_
      rintro e w1 ⟨rfl, rfl⟩
      rw [g1.out]
      go_wp2_with fail
      refine (within_spec _ c.a 0 255).mono ?_
      rintro e w1 ⟨rfl, rfl⟩
      rw [g2.out]
      go_wp2_with fail
      go_ret
      exact ⟨by rw [hr.out]; rfl, hX'.out _⟩
    · cases h3 : wtn c.b 0 65535
      · have hr : Hid (callOk c = false) := by show _ = _; simp [callOk, h1, h2, h3]
        have g1 := Lib.hid h1; have g2 := Lib.hid h2; have g3 := Lib.hid h3; clear h1 h2 h3
        go_enter Try.func91, Try.ntmps91
        go_wp2_with fail
        refine (within_spec _ c.op 0 13).mono ?_
        rintro e w1 ⟨rfl, rfl⟩
        rw [g1.out]
        go_wp2_with fail
        refine (within_spec _ c.a 0 255).mono ?_
        rintro e w1 ⟨rfl, rfl⟩
        rw [g2.out]
        go_wp2_with fail
        refine (within_spec _ c.b 0 65535).mono ?_
        rintro e w1 ⟨rfl, rfl⟩
        rw [g3.out]
        go_wp2_with fail
        go_ret
        exact ⟨by rw [hr.out]; rfl, hX'.out _⟩
      · have hr : Hid (callOk c = wtn c.c 0 255) := by show _ = _; simp [callOk, h1, h2, h3]
        have g1 := Lib.hid h1; have g2 := Lib.hid h2; have g3 := Lib.hid h3; clear h1 h2 h3
        go_enter Try.func91, Try.ntmps91
        go_wp2_with fail
        refine (within_spec _ c.op 0 13).mono ?_
        rintro e w1 ⟨rfl, rfl⟩
        rw [g1.out]
        go_wp2_with fail
        refine (within_spec _ c.a 0 255).mono ?_
        rintro e w1 ⟨rfl, rfl⟩
        rw [g2.out]
        go_wp2_with fail
        refine (within_spec _ c.b 0 65535).mono ?_
        rintro e w1 ⟨rfl, rfl⟩
        rw [g3.out]
        go_wp2_with fail
        refine (within_spec _ c.c 0 255).mono ?_
        rintro e w1 ⟨rfl, rfl⟩
        go_wp2_with fail
        go_ret
        exact ⟨by rw [hr.out]; rfl, hX'.out _⟩

theorem check1_spec (w : World) (c : Cl) :
    Calls Try.prog 90 #[.agg #[.int .i64 c.op, .int .i64 c.a, .int .i64 c.b, .int .i64 c.c]] w fun e w' => e = .returned (.bool (!callOk c)) ∧ Ext No w w' := by
  go_enter Try.func90, Try.ntmps90
  go_wp2_with fail
  refine (may_spec _ c).mono ?_
  rintro e w1 ⟨rfl, hx⟩
  have hX : Ext No w w1 := ((Ext.refl _ _).alloc _).transNo hx
  go_wp2_with fail
  go_ret
  exact ⟨rfl, hX⟩
theorem check2_spec (w : World) (n : Int) :
    Calls Try.prog 93 #[.int .i64 n] w fun e w' => e = .returned (.bool (!wtn n 0 255)) ∧ w = w' := by
  go_enter Try.func93, Try.ntmps93
  go_wp2_with fail
  refine (within_spec _ n 0 255).mono ?_
  rintro e w1 ⟨rfl, rfl⟩
  go_wp2_with fail
  go_ret
  exact ⟨rfl, rfl⟩

theorem any_of_nth {α : Type} [Inhabited α] {l : List α} {p : α → Bool} {k : Nat} (hk : k < l.length) (h : p (nth l k) = true) : l.any p = true :=
  List.any_eq_true.2 ⟨nth l k, by rw [nth_eq hk]; exact List.getElem_mem _, h⟩
theorem any_none {α : Type} [Inhabited α] {l : List α} {p : α → Bool} (h : ∀ j, j < l.length → p (nth l j) = false) : l.any p = false := by
  rw [List.any_eq_false]
  intro x hx
  obtain ⟨j, hj, rfl⟩ := List.getElem_of_mem hx
  have := h j hj
  rw [nth_eq hj] at this
  simp [this]

set_option maxHeartbeats 800000 in
theorem index134_spec (w : World) (v : Value) (l : List Cl) (F : Nat → Prop) (hv : RdC F w v l) :
    Calls Try.prog 134 #[v, .func (.func 90) #[] #[]] w fun e w' => ∃ r : Int, e = .returned (.int .i64 r) ∧ decide (0 ≤ r) = (l.any fun c => !callOk c) ∧ Ext No w w' := by
  obtain ⟨a, cap, rfl, _, _⟩ := Rd.val hv
  have hno := any_none (l := l) (p := fun c => !callOk c)
  have hno' := Lib.hid hno; clear hno
  go_enter Try.func134, Try.ntmps134
  go_wp2_with fail
  go_loopg [8] l.length (fun g i wr => ∃ k : Nat, k + g = l.length ∧ i = .int .i64 k ∧ (∀ j, j < k → (!callOk (nth l j)) = false) ∧ Ext No w wr)
  case atStart => exact ⟨0, by omega, rfl, by omega, Ext.refl _ _⟩
  case round =>
    obtain ⟨k, hk, rfl, hall, hx⟩ := hrel
    have hk' := Lib.hid hk; have hall' := Lib.hid hall
    have hkn : k ≤ l.length := by omega
    clear hk hall
    by_cases hlt : k < l.length
    · obtain ⟨b, off, rfl, _, _, x0, x1, x2, x3⟩ := (RdC.ext hv hx (fun _ _ => id)).at hlt
      go_wp2_with fail
      refine (check1_spec _ (nth l k)).mono ?_
      rintro e w1 ⟨rfl, hx1⟩
      have hX := hx.transNo hx1
      cases hc : (!callOk (nth l k))
      · have hc' := Lib.hid hc; clear hc
        go_wp2_with fail
        go_roundg (l.length - (k + 1))
        case measure => have := hk'.out; omega
        case rel =>
          refine ⟨k + 1, by omega, by go_num, fun j hj => ?_, hX⟩
          by_cases hjk : j < k
          · exact hall'.out j hjk
          · obtain rfl : j = k := by omega
            exact hc'.out
      · have hr : Hid (decide (0 ≤ (k : Int)) = (l.any fun c => !callOk c)) := by
          show _ = _
          rw [any_of_nth (p := fun c => !callOk c) hlt hc]; simp
        clear hc
        go_wp2_with fail
        go_ret
        exact ⟨k, rfl, hr.out, hX⟩
    · have hr : Hid (decide (0 ≤ (-1 : Int)) = (l.any fun c => !callOk c)) := by
        show _ = _
        rw [hno'.out (fun j hj => hall'.out j (by omega))]; decide
      go_wp2_with fail
      go_ret
      exact ⟨-1, rfl, hr.out, hx⟩

theorem contains89_spec (w : World) (v : Value) (l : List Cl) (F : Nat → Prop) (hv : RdC F w v l) :
    Calls Try.prog 89 #[v, .func (.func 90) #[] #[]] w fun e w' => e = .returned (.bool (l.any fun c => !callOk c)) ∧ Ext No w w' := by
  go_enter Try.func89, Try.ntmps89
  go_wp2_with fail
  refine (index134_spec w v l F hv).mono ?_
  rintro e w1 ⟨r, rfl, hr, hx⟩
  have hr' := Lib.hid hr; clear hr
  go_wp2_with fail
  go_ret
  exact ⟨by rw [← hr'.out]; rfl, hx⟩

set_option maxHeartbeats 800000 in
theorem index135_spec (w : World) (v : Value) (l : List Int) (F : Nat → Prop) (hv : RdI F w v l) :
    Calls Try.prog 135 #[v, .func (.func 93) #[] #[]] w fun e w' => ∃ r : Int, e = .returned (.int .i64 r) ∧ decide (0 ≤ r) = (l.any fun n => !wtn n 0 255) ∧ w = w' := by
  obtain ⟨a, cap, rfl, _, _⟩ := Rd.val hv
  have hno := any_none (l := l) (p := fun n => !wtn n 0 255)
  have hno' := Lib.hid hno; clear hno
  go_enter Try.func135, Try.ntmps135
  go_wp2_with fail
  go_loopg [8] l.length (fun g i wr => ∃ k : Nat, k + g = l.length ∧ i = .int .i64 k ∧ (∀ j, j < k → (!wtn (nth l j) 0 255) = false) ∧ wr = w)
  case atStart => exact ⟨0, by omega, rfl, by omega, rfl⟩
  case round =>
    obtain ⟨k, hk, rfl, hall, rfl⟩ := hrel
    have hk' := Lib.hid hk; have hall' := Lib.hid hall
    have hkn : k ≤ l.length := by omega
    clear hk hall
    by_cases hlt : k < l.length
    · obtain ⟨b, off, rfl, _, _, x0⟩ := Rd.at1 hv hlt
      rw [List.getElem?_map, nth_some hlt] at x0
      simp only [Option.map_some, int] at x0
      go_wp2_with fail
      refine (check2_spec _ (nth l k)).mono ?_
      rintro e w1 ⟨rfl, rfl⟩
      cases hc : (!wtn (nth l k) 0 255)
      · have hc' := Lib.hid hc; clear hc
        go_wp2_with fail
        go_roundg (l.length - (k + 1))
        case measure => have := hk'.out; omega
        case rel =>
          refine ⟨k + 1, by omega, by go_num, fun j hj => ?_, rfl⟩
          by_cases hjk : j < k
          · exact hall'.out j hjk
          · obtain rfl : j = k := by omega
            exact hc'.out
      · have hr : Hid (decide (0 ≤ (k : Int)) = (l.any fun n => !wtn n 0 255)) := by
          show _ = _
          rw [any_of_nth (p := fun n => !wtn n 0 255) hlt hc]; simp
        clear hc
        go_wp2_with fail
        go_ret
        exact ⟨k, rfl, hr.out, rfl⟩
    · have hr : Hid (decide (0 ≤ (-1 : Int)) = (l.any fun n => !wtn n 0 255)) := by
        show _ = _
        rw [hno'.out (fun j hj => hall'.out j (by omega))]; decide
      go_wp2_with fail
      go_ret
      exact ⟨-1, rfl, hr.out, rfl⟩

theorem contains92_spec (w : World) (v : Value) (l : List Int) (F : Nat → Prop) (hv : RdI F w v l) :
    Calls Try.prog 92 #[v, .func (.func 93) #[] #[]] w fun e w' => e = .returned (.bool (l.any fun n => !wtn n 0 255)) ∧ w = w' := by
  go_enter Try.func92, Try.ntmps92
  go_wp2_with fail
  refine (index135_spec w v l F hv).mono ?_
  rintro e w1 ⟨r, rfl, hr, rfl⟩
  have hr' := Lib.hid hr; clear hr
  go_wp2_with fail
  go_ret
  exact ⟨by rw [← hr'.out]; rfl, rfl⟩
end Go.Proofs.Ytjkknjohmekeiaa
/- How the arguments of a law read: from the reading of the data to the rows that the walks speak of. -/
namespace Go.Proofs.Ytjkknjohmekeiaa
open Go.ChangeShapes Go.WideShapes Go.RowKit
set_option linter.unusedVariables false

theorem bytes5 : Try.prog.bytesOf 5 = 1 := by kernel_rfl
theorem bytes3 : Try.prog.bytesOf 3 = 8 := by kernel_rfl

theorem weightsAll_mem {H : Type} {P : Program} {e : TypeId} : ∀ {ds : List (DataW H)} {d : DataW H}, d ∈ ds → ∀ n ∈ d.weights P e, n ∈ DataW.weightsAll P e ds
  | x :: r, d, hd, n, hn => by
    simp only [DataW.weightsAll, List.mem_append]
    rcases List.mem_cons.1 hd with rfl | hd
    · exact .inl hn
    · exact .inr (weightsAll_mem hd n hn)

theorem wf_u8_range {z : Int} (h : (Lit.int .u8 z).wf = true) : 0 ≤ z ∧ z < 256 := by
  simp only [Lit.wf, Bool.and_eq_true, decide_eq_true_eq] at h
  have e1 : IntKind.min .u8 = 0 := by decide
  have e2 : IntKind.max .u8 = 255 := by decide
  rw [e1, e2] at h
  omega
theorem wf_i64_range {z : Int} (h : (Lit.int .i64 z).wf = true) : -9223372036854775808 ≤ z ∧ z ≤ 9223372036854775807 := by
  simp only [Lit.wf, Bool.and_eq_true, decide_eq_true_eq] at h
  have e1 : IntKind.min .i64 = -9223372036854775808 := by decide
  have e2 : IntKind.max .i64 = 9223372036854775807 := by decide
  rw [e1, e2] at h
  omega
theorem flatMap_one {α : Type} (f : α → Value) (l : List α) : l.flatMap (fun x => [f x]) = l.map f := by
  induction l with
  | nil => rfl
  | cons a l ih => simp [ih]

theorem flatten_at {s : Nat} : ∀ {css : List (List Value)}, (∀ c ∈ css, c.length = s) → ∀ {k i : Nat} {c : List Value}, css[k]? = some c → i < s → css.flatten[k * s + i]? = c[i]?
  | c0 :: r, hl, 0, i, c, hk, hi => by
    simp only [List.getElem?_cons_zero, Option.some.injEq] at hk
    subst hk
    rw [List.flatten_cons, List.getElem?_append_left (by rw [hl c0 (by simp)]; omega), Nat.zero_mul, Nat.zero_add]
  | c0 :: r, hl, k + 1, i, c, hk, hi => by
    simp only [List.getElem?_cons_succ] at hk
    have h0 := hl c0 (by simp)
    rw [List.flatten_cons, List.getElem?_append_right (by rw [h0, Nat.succ_mul]; omega), h0, show (k + 1) * s + i - s = k * s + i by rw [Nat.succ_mul]; omega]
    exact flatten_at (fun c hc => hl c (by simp [hc])) hk hi
theorem flatten_len {s : Nat} : ∀ {css : List (List Value)}, (∀ c ∈ css, c.length = s) → css.flatten.length = css.length * s
  | [], _ => by simp
  | c0 :: r, hl => by
    rw [List.flatten_cons, List.length_append, hl c0 (by simp), flatten_len (fun c hc => hl c (by simp [hc])), List.length_cons, Nat.succ_mul]; omega

section
variable {H : Type} {enc : TypeId × Value → H} {W : World}
/-- A slice that came in, of elements of s cells each. -/
theorem open_sl {t e s : Nat} (ht : Try.prog.underlying t = some (.slice e)) (hs : Try.prog.cellsOf e = s) (hs0 : 0 < s) {fuel : Nat} {v : Value} {d : DataW H} {p : List MemPlace}
    (hf : DataW.trod enc Try.prog W 0 (fun _ => true) true fuel t [v] = some (d, p)) (lt : ∀ x ∈ p, x.block < W.heap.size) (hz : ∀ n ∈ d.weights Try.prog t, n ≤ reachBytes) :
    ∃ css : List (List Value), (∀ c ∈ css, c.length = s) ∧ Rd (Iv 0 W.heap.size) W v css.length s css.flatten ∧ css.length * Try.prog.bytesOf e ≤ reachBytes ∧
      ∀ c ∈ css, ∃ n D Pl, DataW.trod enc Try.prog W 0 (fun _ => true) true n e c = some (D, Pl) ∧ (∀ x ∈ Pl, x.block < W.heap.size) ∧ ∀ n ∈ D.weights Try.prog e, n ≤ reachBytes := by
  rcases Deep.open_slice ht hf with ⟨hcs, hx⟩ | ⟨a, len, cap', cap, n, D, Pl, hcs, _, hl, hm, rfl, hx, hel⟩
  · simp only [List.cons.injEq, and_true] at hcs
    subst hcs
    refine ⟨[], fun c hc => (by cases hc), Rd.nil _ _ _, ?_, fun c hc => (by cases hc)⟩
    show 0 * _ ≤ _
    rw [Nat.zero_mul]
    exact Nat.zero_le _
  · simp only [List.cons.injEq, and_true] at hcs
    subst hcs
    have hd := congrArg Prod.fst hx
    have hp := congrArg Prod.snd hx
    dsimp only at hd hp
    clear hx
    rw [hp] at lt
    rw [hd] at hz
    clear hd hp hf
    rw [hs] at hel lt
    obtain ⟨C, hC⟩ := Deep.choose_lt hel
    have hlen : ∀ i, i < cap → (C i).length = s := fun i hi => (World.cells?_some (hC i hi).1).2.1
    have hlc : ∀ c ∈ (List.range len).map C, c.length = s := by
      intro c hc
      obtain ⟨i, hi, rfl⟩ := List.mem_map.1 hc
      have := List.mem_range.1 hi
      exact hlen i (by omega)
    refine ⟨(List.range len).map C, hlc, ?_, ?_, ?_⟩
    · have hfl := flatten_len hlc
      rw [List.length_map, List.length_range] at hfl ⊢
      refine ⟨some a, cap, rfl, hfl, hl, hm, fun hne => ?_⟩
      have hpos : 0 < len := by
        rcases Nat.eq_zero_or_pos len with h0 | h0
        · subst h0; exact absurd rfl hne
        · exact h0
      have hcell : ∀ i, i < cap → ∀ j, j < s → W.cell? ((a.add (i * s)).add j) = (C i)[j]? := fun i hi => (World.cells?_some (hC i hi).1).2.2
      have h00 := hcell 0 (by omega) 0 hs0
      obtain ⟨b, off, spot⟩ := a
      have hsome : ∃ u, (C 0)[0]? = some u := ⟨_, List.getElem?_eq_getElem (by rw [hlen 0 (by omega)]; exact hs0)⟩
      obtain ⟨u0, hu0⟩ := hsome
      have hspot : spot = none := by
        have := World.cell?_spot (h00.trans hu0)
        simpa [Addr.add] using this
      subst hspot
      have hb : b < W.heap.size := lt (.cell b off) (List.mem_append_left _ (MemPlace.mem_row.2 ⟨0, Nat.mul_pos (by omega) hs0, by simp⟩))
      refine ⟨b, off, rfl, ⟨Nat.zero_le _, hb⟩, hb, fun i u hu => ?_⟩
      have hi : i < len * s := by
        have := (List.getElem?_eq_some_iff.1 hu).1
        omega
      have hk : i / s < len := Nat.div_lt_of_lt_mul (by rw [Nat.mul_comm]; exact hi)
      have hj : i % s < s := Nat.mod_lt _ hs0
      have hdm : i / s * s + i % s = i := by rw [Nat.mul_comm]; exact Nat.div_add_mod i s
      rw [← hdm, flatten_at hlc (k := i / s) (i := i % s) (c := C (i / s)) (by simp [hk]) hj] at hu
      have := hcell (i / s) (by omega) (i % s) hj
      rw [hu, Deep.add_add, hdm] at this
      rw [← add_plain]
      exact this
    · have := hz ((((List.range len).map D).length + ((List.range (cap - len)).map fun j => D (len + j)).length) * Try.prog.bytesOf e) (by simp [DataW.weights, ht])
      rw [List.length_map, List.length_range] at this ⊢
      exact Nat.le_trans (Nat.mul_le_mul_right _ (by omega)) this
    · intro c hc
      obtain ⟨i, hi, rfl⟩ := List.mem_map.1 hc
      have hi := List.mem_range.1 hi
      refine ⟨n, D i, Pl i, (hC i (by omega)).2, fun x hx => lt x (List.mem_append_right _ (List.mem_flatMap.2 ⟨i, List.mem_range.2 (by omega), hx⟩)), fun k hk => hz k ?_⟩
      simp only [DataW.weights, ht, List.mem_cons, List.mem_append]
      exact .inr (.inl (weightsAll_mem (List.mem_map.2 ⟨i, List.mem_range.2 hi, rfl⟩) k hk))

/-- .. each element being so many cells of a kind that a reader of elements knows. -/
theorem open_map {α : Type} {css : List (List Value)} {Q : α → Prop} {f : α → List Value} (h : ∀ c ∈ css, ∃ x, c = f x ∧ Q x) : ∃ l : List α, l.length = css.length ∧ css.flatten = l.flatMap f ∧ ∀ x ∈ l, Q x := by
  induction css with
  | nil => exact ⟨[], rfl, rfl, by simp⟩
  | cons c r ih =>
    obtain ⟨x, rfl, hq⟩ := h c (by simp)
    obtain ⟨l, h1, h2, h3⟩ := ih (fun c hc => h c (by simp [hc]))
    exact ⟨x :: l, by simp [h1], by simp [h2], by simpa using ⟨hq, h3⟩⟩

theorem open_byte1 {n : Nat} {c : List Value} {D : DataW H} {Pl : List MemPlace} (hl : c.length = 1) (h : DataW.trod enc Try.prog W 0 (fun _ => true) true n 5 c = some (D, Pl)) : ∃ x : Nat, c = [byt x] ∧ x < 256 := by
  obtain ⟨z, rfl, _, hw⟩ := DataW.trod_int Try.underlying5 h
  have := wf_u8_range hw
  exact ⟨z.toNat, by simp [byt]; omega, by omega⟩
theorem open_int1 {n : Nat} {c : List Value} {D : DataW H} {Pl : List MemPlace} (h : DataW.trod enc Try.prog W 0 (fun _ => true) true n 3 c = some (D, Pl)) : ∃ x : Int, c = [int x] ∧ (Lit.int .i64 x).wf = true := by
  obtain ⟨z, rfl, _, hw⟩ := DataW.trod_int Try.underlying3 h
  exact ⟨z, rfl, hw⟩

theorem open_bytes {v : Value} {d : DataW H} {p : List MemPlace} {fuel : Nat} (h : DataW.trod enc Try.prog W 0 (fun _ => true) true fuel 22 [v] = some (d, p)) (lt : ∀ x ∈ p, x.block < W.heap.size)
    (hz : ∀ n ∈ d.weights Try.prog 22, n ≤ reachBytes) : ∃ l, RdB (Iv 0 W.heap.size) W v l ∧ l.length ≤ reachBytes := by
  obtain ⟨css, h1, h2, h3, h4⟩ := open_sl Try.underlying22 (s := 1) (by kernel_rfl) (by omega) h lt hz
  obtain ⟨l, g1, g2, g3⟩ := open_map (f := fun x => [byt x]) (Q := fun x => x < 256) (fun c hc => by
    obtain ⟨n, D, Pl, k1, _⟩ := h4 c hc
    exact open_byte1 (h1 c hc) k1)
  rw [bytes5, ← g1] at h3
  refine ⟨l, ⟨?_, g3⟩, by rwa [Nat.mul_one] at h3⟩
  rw [g2, ← g1] at h2
  have e : l.flatMap (fun x => [byt x]) = l.map byt := flatMap_one byt l
  rw [e] at h2
  exact h2

theorem bytes42 : Try.prog.bytesOf 42 = 24 := by kernel_rfl
theorem bytes44 : Try.prog.bytesOf 44 = 32 := by kernel_rfl
theorem cells1 : Try.prog.cellsOf 3 = 1 := by kernel_rfl

theorem open_cell3 {n : Nat} {cs : List Value} {k : Nat} {y : DataW H × List MemPlace} (hk : k < cs.length) (h : DataW.trod enc Try.prog W 0 (fun _ => true) true n 3 ((cs.drop k).take (Try.prog.cellsOf 3)) = some y) : ∃ x : Int, cs[k]? = some (int x) ∧ (Lit.int .i64 x).wf = true := by
  rw [cells1] at h
  obtain ⟨x, hx, hw⟩ := open_int1 (D := y.1) (Pl := y.2) h
  refine ⟨x, ?_, hw⟩
  rw [List.drop_eq_getElem_cons hk, List.take_succ_cons, List.take_zero] at hx
  rw [List.getElem?_eq_getElem hk]
  simpa using hx

theorem four_of {c : List Value} {a b d e : Value} (h : c.length = 4) (h0 : c[0]? = some a) (h1 : c[1]? = some b) (h2 : c[2]? = some d) (h3 : c[3]? = some e) : c = [a, b, d, e] := by
  match c, h with
  | [x, y, z, u], _ => simp at h0 h1 h2 h3; simp [h0, h1, h2, h3]
theorem four_ex {c : List Value} (h : c.length = 4) : ∃ a b d e, c = [a, b, d, e] := by
  match c, h with
  | [x, y, z, u], _ => exact ⟨x, y, z, u, rfl⟩

theorem open_call1 {n : Nat} {c : List Value} {D : DataW H} {Pl : List MemPlace} (h : DataW.trod enc Try.prog W 0 (fun _ => true) true n 44 c = some (D, Pl)) : ∃ x : Cl, c = clCells x ∧ True := by
  obtain ⟨y0, y1, y2, y3, m, hx, hl, h0, h1, h2, h3⟩ := Go.Joins.trod_struct4 Try.underlying44 h
  have hl4 : c.length = 4 := hl.trans (by kernel_rfl)
  obtain ⟨x0, e0, _⟩ := open_cell3 (k := 0) (by omega) h0
  obtain ⟨x1, e1, _⟩ := open_cell3 (k := 1) (by omega) h1
  obtain ⟨x2, e2, _⟩ := open_cell3 (k := 2) (by omega) h2
  obtain ⟨x3, e3, _⟩ := open_cell3 (k := 3) (by omega) h3
  refine ⟨⟨x0, x1, x2, x3⟩, ?_, trivial⟩
  clear hl h h0 h1 h2 h3 hx
  exact four_of hl4 e0 e1 e2 e3

theorem open_calls {n : Nat} {v : Value} {d : DataW H} {p : List MemPlace} (h : DataW.trod enc Try.prog W 0 (fun _ => true) true n 42 [v] = some (d, p)) (lt : ∀ x ∈ p, x.block < W.heap.size)
    (hz : ∀ n ∈ d.weights Try.prog 42, n ≤ reachBytes) : ∃ l : List Cl, RdC (Iv 0 W.heap.size) W v l ∧ l.length * 32 ≤ reachBytes := by
  obtain ⟨css, h1, h2, h3, h4⟩ := open_sl Try.underlying42 (s := 4) (by kernel_rfl) (by omega) h lt hz
  obtain ⟨l, g1, g2, _⟩ := open_map (f := clCells) (Q := fun _ => True) (fun c hc => by
    obtain ⟨n, D, Pl, k1, _⟩ := h4 c hc
    exact open_call1 k1)
  rw [bytes44, ← g1] at h3
  rw [g2, ← g1] at h2
  exact ⟨l, h2, h3⟩

theorem open_rows {n : Nat} {v : Value} {d : DataW H} {p : List MemPlace} (h : DataW.trod enc Try.prog W 0 (fun _ => true) true n 24 [v] = some (d, p)) (lt : ∀ x ∈ p, x.block < W.heap.size)
    (hz : ∀ n ∈ d.weights Try.prog 24, n ≤ reachBytes) : ∃ ll : List (List Cl), RdCC (Iv 0 W.heap.size) (Iv 0 W.heap.size) W v ll ∧ ll.length * 24 ≤ reachBytes ∧ ∀ l ∈ ll, l.length * 32 ≤ reachBytes := by
  obtain ⟨css, h1, h2, h3, h4⟩ := open_sl Try.underlying24 (s := 1) (by kernel_rfl) (by omega) h lt hz
  obtain ⟨l, g1, g2, g3⟩ := open_map (α := Value × List Cl) (f := fun x => [x.1]) (Q := fun x => RdC (Iv 0 W.heap.size) W x.1 x.2 ∧ x.2.length * 32 ≤ reachBytes) (fun c hc => by
    obtain ⟨n, D, Pl, k1, k2, k3⟩ := h4 c hc
    match c, h1 c hc with
    | [u], _ =>
      obtain ⟨l, q1, q2⟩ := open_calls k1 k2 k3
      exact ⟨(u, l), rfl, q1, q2⟩)
  rw [bytes42, ← g1] at h3
  rw [g2, ← g1, flatMap_one] at h2
  refine ⟨l.map (·.2), ⟨l.map (·.1), by simp, by simpa using h2, fun i hi => ?_⟩, by simpa using h3, fun x hx => ?_⟩
  · rw [List.length_map] at hi
    have e1 : nth (l.map (·.1)) i = l[i].1 := by rw [nth_eq (by simpa using hi)]; simp
    have e2 : nth (l.map (·.2)) i = l[i].2 := by rw [nth_eq (by simpa using hi)]; simp
    rw [e1, e2]
    exact (g3 _ (List.getElem_mem hi)).1
  · obtain ⟨y, hy, rfl⟩ := List.mem_map.1 hx
    exact (g3 y hy).2

theorem open_ints1 {n : Nat} {v : Value} {d : DataW H} {p : List MemPlace} (h : DataW.trod enc Try.prog W 0 (fun _ => true) true n 25 [v] = some (d, p)) (lt : ∀ x ∈ p, x.block < W.heap.size)
    (hz : ∀ n ∈ d.weights Try.prog 25, n ≤ reachBytes) : ∃ l, RdI (Iv 0 W.heap.size) W v l ∧ l.length * 8 ≤ reachBytes ∧ ∀ x ∈ l, (Lit.int .i64 x).wf = true := by
  obtain ⟨css, h1, h2, h3, h4⟩ := open_sl Try.underlying25 (s := 1) (by kernel_rfl) (by omega) h lt hz
  obtain ⟨l, g1, g2, g3⟩ := open_map (f := fun x => [int x]) (Q := fun x => (Lit.int .i64 x).wf = true) (fun c hc => by
    obtain ⟨n, D, Pl, k1, _⟩ := h4 c hc
    exact open_int1 k1)
  rw [bytes3, ← g1] at h3
  rw [g2, ← g1, flatMap_one] at h2
  exact ⟨l, h2, h3, g3⟩

/-- The script fits into memory. -/
def ScrOk (s : Scr) : Prop := s.calls.length * 24 ≤ reachBytes ∧ (∀ l ∈ s.calls, l.length * 32 ≤ reachBytes) ∧ s.picks.length * 8 ≤ reachBytes ∧ (Lit.int .i64 s.cpus).wf = true ∧ (Lit.int .i64 s.pages).wf = true

theorem open_script {n : Nat} {cs : Array Value} {d : DataW H} {p : List MemPlace} (h : DataW.trod enc Try.prog W 0 (fun _ => true) true n 27 cs.toList = some (d, p)) (lt : ∀ x ∈ p, x.block < W.heap.size)
    (hz : ∀ n ∈ d.weights Try.prog 27, n ≤ reachBytes) : ∃ s, RdS (Iv 0 W.heap.size) W (.agg cs) s ∧ ScrOk s := by
  obtain ⟨y0, y1, y2, y3, m, hx, hl, h0, h1, h2, h3⟩ := Go.Joins.trod_struct4 Try.underlying27 h
  have hl4 : cs.toList.length = 4 := hl.trans (by kernel_rfl)
  obtain ⟨x0, e0, w0⟩ := open_cell3 (k := 0) (by omega) h0
  obtain ⟨x1, e1, w1⟩ := open_cell3 (k := 1) (by omega) h1
  have hd := congrArg Prod.fst hx
  have hp := congrArg Prod.snd hx
  dsimp only at hd hp
  clear hx
  rw [hp] at lt
  rw [hd] at hz
  simp only [DataW.weights, Try.underlying27, DataW.weightsEach, List.mem_append, List.map_cons, List.map_nil] at hz
  obtain ⟨a, b, v2, v3, hcs⟩ := four_ex hl4
  · rw [hcs] at e0 e1 h2 h3
    clear hl hl4
    simp only [List.getElem?_cons_zero, List.getElem?_cons_succ, Option.some.injEq] at e0 e1
    subst e0 e1
    have k2 : Try.prog.cellsOf 24 = 1 := by kernel_rfl
    have k3 : Try.prog.cellsOf 25 = 1 := by kernel_rfl
    have h2' : DataW.trod enc Try.prog W 0 (fun _ => true) true m 24 [v2] = some (y2.1, y2.2) := by rw [k2] at h2; exact h2
    have h3' : DataW.trod enc Try.prog W 0 (fun _ => true) true m 25 [v3] = some (y3.1, y3.2) := by rw [k3] at h3; exact h3
    obtain ⟨ll, q1, q2, q3⟩ := open_rows h2' (fun x hx => lt x (by simp [hx])) (fun k hk => hz k (by simp [hk]))
    obtain ⟨l, r1, r2, _⟩ := open_ints1 h3' (fun x hx => lt x (by simp [hx])) (fun k hk => hz k (by simp [hk]))
    refine ⟨⟨x0, x1, ll, l⟩, ⟨v2, v3, ?_, q1, r1⟩, q2, q3, r2, w0, w1⟩
    rw [← Array.toArray_toList (xs := cs), hcs]
    rfl
end
end Go.Proofs.Ytjkknjohmekeiaa
/- Triples of whole numbers in memory: pages, calls. No condition. -/
namespace Go.Proofs.Ytjkknjohmekeiaa
open Go.RowKit

structure T3 where
  a : Int
  b : Int
  c : Int
deriving DecidableEq, Inhabited

theorem T3.ext3 {x y : T3} (h1 : x.a = y.a) (h2 : x.b = y.b) (h3 : x.c = y.c) : x = y := by
  cases x; cases y; simp only at h1 h2 h3; rw [h1, h2, h3]
def t3Cells (c : T3) : List Value := [.int .i64 c.a, .int .i64 c.b, .int .i64 c.c]
def t3sCells (l : List T3) : List Value := l.flatMap t3Cells
theorem t3sCells_len (l : List T3) : (t3sCells l).length = l.length * 3 := by
  induction l with
  | nil => rfl
  | cons c l ih => simp [t3sCells, t3Cells] at *; omega
theorem t3sCells_at {l : List T3} {k i : Nat} (hk : k < l.length) (hi : i < 3) : (t3sCells l)[k * 3 + i]? = (t3Cells (nth l k))[i]? := by
  rw [nth_eq hk]; exact flat_at t3Cells 3 (fun _ => rfl) l k i hk hi
theorem t3s_one (l : List T3) : ∀ u ∈ t3sCells l, u.oneCell' = true := by
  intro u hu
  simp only [t3sCells, t3Cells, List.mem_flatMap] at hu
  obtain ⟨c, _, hu⟩ := hu
  simp only [List.mem_cons, List.not_mem_nil, or_false] at hu
  rcases hu with rfl | rfl | rfl <;> rfl

/-- A slice of triples. -/
def RdT (F : Nat → Prop) (w : World) (v : Value) (l : List T3) : Prop := Rd F w v l.length 3 (t3sCells l)
section
variable {S F G : Nat → Prop} {w w' : World} {v : Value} {l : List T3}
theorem RdT.ext (h : RdT F w v l) (hx : Ext S w w') (hS : ∀ x, F x → ¬ S x) : RdT F w' v l := Rd.ext h hx hS
theorem RdT.extNo (h : RdT F w v l) (hx : Ext No w w') : RdT F w' v l := Rd.extNo h hx
theorem RdT.mono (h : RdT F w v l) (hG : ∀ x, F x → x < w.heap.size → G x) : RdT G w v l := Rd.mono h hG
theorem RdT.val (h : RdT F w v l) : ∃ a cap, v = .slice a l.length cap ∧ l.length ≤ cap ∧ cap ≤ 9223372036854775807 := Rd.val h
theorem RdT.at {a : Option Addr} {n cap : Nat} (h : RdT F w (.slice a n cap) l) {k : Nat} (hk : k < l.length) :
    ∃ b off, a = some ⟨b, off, none⟩ ∧ b < w.heap.size ∧ F b ∧ w.cell? ⟨b, off + k * 3, none⟩ = some (.int .i64 (nth l k).a) ∧ w.cell? ⟨b, off + k * 3 + 1, none⟩ = some (.int .i64 (nth l k).b) ∧
      w.cell? ⟨b, off + k * 3 + 2, none⟩ = some (.int .i64 (nth l k).c) := by
  obtain ⟨b, off, cap', e, _, _, hF, hlt, hc⟩ := Rd.open_ h (by omega)
  cases e
  refine ⟨b, off, rfl, hlt, hF, ?_, ?_, ?_⟩
  · exact hc (k * 3) _ (t3sCells_at (i := 0) hk (by omega))
  · rw [Nat.add_assoc]; exact hc (k * 3 + 1) _ (t3sCells_at (i := 1) hk (by omega))
  · rw [Nat.add_assoc]; exact hc (k * 3 + 2) _ (t3sCells_at (i := 2) hk (by omega))
end

/-! ### Opened from a claim's reading -/
section
variable {H : Type} {enc : TypeId × Value → H} {W : World}
theorem three_of {c : List Value} {a b d : Value} (h : c.length = 3) (h0 : c[0]? = some a) (h1 : c[1]? = some b) (h2 : c[2]? = some d) : c = [a, b, d] := by
  match c, h with
  | [x, y, z], _ => simp at h0 h1 h2; simp [h0, h1, h2]
def T3wf (x : T3) : Prop := (Lit.int .i64 x.a).wf = true ∧ (Lit.int .i64 x.b).wf = true ∧ (Lit.int .i64 x.c).wf = true

theorem open_t3 {t : TypeId} {f0 f1 f2 : Field} (hu : Try.prog.underlying t = some (.struct #[f0, f1, f2])) (hf : f0.type = 3 ∧ f1.type = 3 ∧ f2.type = 3) (ho : f0.offset = 0 ∧ f1.offset = 1 ∧ f2.offset = 2) (hc3 : Try.prog.cellsOf t = 3) {n : Nat} {c : List Value} {D : DataW H} {Pl : List MemPlace}
    (h : DataW.trod enc Try.prog W 0 (fun _ => true) true n t c = some (D, Pl)) : ∃ x : T3, c = t3Cells x ∧ T3wf x := by
  obtain ⟨y0, y1, y2, m, hx, hl, h0, h1, h2⟩ := Go.Deep.trod_struct3 hu h
  have hl3 : c.length = 3 := hl.trans hc3
  rw [hf.1, ho.1] at h0
  rw [hf.2.1, ho.2.1] at h1
  rw [hf.2.2, ho.2.2] at h2
  obtain ⟨x0, e0, w0⟩ := open_cell3 (k := 0) (by omega) h0
  obtain ⟨x1, e1, w1⟩ := open_cell3 (k := 1) (by omega) h1
  obtain ⟨x2, e2, w2⟩ := open_cell3 (k := 2) (by omega) h2
  refine ⟨⟨x0, x1, x2⟩, ?_, w0, w1, w2⟩
  clear hl h h0 h1 h2 hx
  exact three_of hl3 e0 e1 e2
theorem bytes70 : Try.prog.bytesOf 70 = 24 := by kernel_rfl
theorem open_do3 {n : Nat} {v : Value} {d : DataW H} {p : List MemPlace} (h : DataW.trod enc Try.prog W 0 (fun _ => true) true n 61 [v] = some (d, p)) (lt : ∀ x ∈ p, x.block < W.heap.size)
    (hz : ∀ n ∈ d.weights Try.prog 61, n ≤ reachBytes) : ∃ l : List T3, RdT (Iv 0 W.heap.size) W v l ∧ l.length * 24 ≤ reachBytes ∧ ∀ x ∈ l, T3wf x := by
  obtain ⟨css, h1, h2, h3, h4⟩ := open_sl Try.underlying61 (s := 3) (by kernel_rfl) (by omega) h lt hz
  obtain ⟨l, g1, g2, g3⟩ := open_map (f := t3Cells) (Q := T3wf) (fun c hc => by
    obtain ⟨n, D, Pl, k1, _⟩ := h4 c hc
    exact open_t3 Try.underlying70 ⟨rfl, rfl, rfl⟩ ⟨rfl, rfl, rfl⟩ (by kernel_rfl) k1)
  rw [bytes70, ← g1] at h3
  rw [g2, ← g1] at h2
  exact ⟨l, h2, h3, g3⟩
theorem bytes119 : Try.prog.bytesOf 119 = 24 := by kernel_rfl
theorem open_do3b {n : Nat} {v : Value} {d : DataW H} {p : List MemPlace} (h : DataW.trod enc Try.prog W 0 (fun _ => true) true n 107 [v] = some (d, p)) (lt : ∀ x ∈ p, x.block < W.heap.size)
    (hz : ∀ n ∈ d.weights Try.prog 107, n ≤ reachBytes) : ∃ l : List T3, RdT (Iv 0 W.heap.size) W v l ∧ l.length * 24 ≤ reachBytes ∧ ∀ x ∈ l, T3wf x := by
  obtain ⟨css, h1, h2, h3, h4⟩ := open_sl Try.underlying107 (s := 3) (by kernel_rfl) (by omega) h lt hz
  obtain ⟨l, g1, g2, g3⟩ := open_map (f := t3Cells) (Q := T3wf) (fun c hc => by
    obtain ⟨n, D, Pl, k1, _⟩ := h4 c hc
    exact open_t3 Try.underlying119 ⟨rfl, rfl, rfl⟩ ⟨rfl, rfl, rfl⟩ (by kernel_rfl) k1)
  rw [bytes119, ← g1] at h3
  rw [g2, ← g1] at h2
  exact ⟨l, h2, h3, g3⟩
theorem bytes98 : Try.prog.bytesOf 98 = 24 := by kernel_rfl
theorem open_pages {n : Nat} {v : Value} {d : DataW H} {p : List MemPlace} (h : DataW.trod enc Try.prog W 0 (fun _ => true) true n 96 [v] = some (d, p)) (lt : ∀ x ∈ p, x.block < W.heap.size)
    (hz : ∀ n ∈ d.weights Try.prog 96, n ≤ reachBytes) : ∃ l : List T3, RdT (Iv 0 W.heap.size) W v l ∧ l.length * 24 ≤ reachBytes ∧ ∀ x ∈ l, T3wf x := by
  obtain ⟨css, h1, h2, h3, h4⟩ := open_sl Try.underlying96 (s := 3) (by kernel_rfl) (by omega) h lt hz
  obtain ⟨l, g1, g2, g3⟩ := open_map (f := t3Cells) (Q := T3wf) (fun c hc => by
    obtain ⟨n, D, Pl, k1, _⟩ := h4 c hc
    exact open_t3 Try.underlying98 ⟨rfl, rfl, rfl⟩ ⟨rfl, rfl, rfl⟩ (by kernel_rfl) k1)
  rw [bytes98, ← g1] at h3
  rw [g2, ← g1] at h2
  exact ⟨l, h2, h3, g3⟩
theorem open_page {n : Nat} {cs : Array Value} {d : DataW H} {p : List MemPlace} (h : DataW.trod enc Try.prog W 0 (fun _ => true) true n 98 cs.toList = some (d, p)) (_lt : ∀ x ∈ p, x.block < W.heap.size)
    (_hz : ∀ n ∈ d.weights Try.prog 98, n ≤ reachBytes) : ∃ x : T3, Value.agg cs = .agg (t3Cells x).toArray ∧ T3wf x := by
  obtain ⟨x, h1, h2⟩ := open_t3 Try.underlying98 ⟨rfl, rfl, rfl⟩ ⟨rfl, rfl, rfl⟩ (by kernel_rfl) h
  exact ⟨x, by rw [← h1], h2⟩
theorem bytes90 : Try.prog.bytesOf 90 = 32 := by kernel_rfl
def Clwf (x : Cl) : Prop := (Lit.int .i64 x.op).wf = true ∧ (Lit.int .i64 x.a).wf = true ∧ (Lit.int .i64 x.b).wf = true ∧ (Lit.int .i64 x.c).wf = true
theorem open_q1 {n : Nat} {c : List Value} {D : DataW H} {Pl : List MemPlace} (h : DataW.trod enc Try.prog W 0 (fun _ => true) true n 90 c = some (D, Pl)) : ∃ x : Cl, c = clCells x ∧ Clwf x := by
  obtain ⟨y0, y1, y2, y3, m, hx, hl, h0, h1, h2, h3⟩ := Go.Joins.trod_struct4 Try.underlying90 h
  have hl4 : c.length = 4 := hl.trans (by kernel_rfl)
  obtain ⟨x0, e0, w0⟩ := open_cell3 (k := 0) (by omega) h0
  obtain ⟨x1, e1, w1⟩ := open_cell3 (k := 1) (by omega) h1
  obtain ⟨x2, e2, w2⟩ := open_cell3 (k := 2) (by omega) h2
  obtain ⟨x3, e3, w3⟩ := open_cell3 (k := 3) (by omega) h3
  refine ⟨⟨x0, x1, x2, x3⟩, ?_, w0, w1, w2, w3⟩
  clear hl h h0 h1 h2 h3 hx
  exact four_of hl4 e0 e1 e2 e3
theorem open_do4 {n : Nat} {v : Value} {d : DataW H} {p : List MemPlace} (h : DataW.trod enc Try.prog W 0 (fun _ => true) true n 46 [v] = some (d, p)) (lt : ∀ x ∈ p, x.block < W.heap.size)
    (hz : ∀ n ∈ d.weights Try.prog 46, n ≤ reachBytes) : ∃ l : List Cl, RdC (Iv 0 W.heap.size) W v l ∧ l.length * 32 ≤ reachBytes ∧ ∀ x ∈ l, Clwf x := by
  obtain ⟨css, h1, h2, h3, h4⟩ := open_sl Try.underlying46 (s := 4) (by kernel_rfl) (by omega) h lt hz
  obtain ⟨l, g1, g2, g3⟩ := open_map (f := clCells) (Q := Clwf) (fun c hc => by
    obtain ⟨n, D, Pl, k1, _⟩ := h4 c hc
    exact open_q1 k1)
  rw [bytes90, ← g1] at h3
  rw [g2, ← g1] at h2
  exact ⟨l, h2, h3, g3⟩
end
end Go.Proofs.Ytjkknjohmekeiaa
/- Lists of numbers: Contains, Clone, and what Has asks. No condition but that a list that is cloned fits into memory. -/
namespace Go.Proofs.Ytjkknjohmekeiaa
open Go.RowKit

/-- A slice of slices of numbers. -/
def RdII (F G : Nat → Prop) (w : World) (v : Value) (ll : List (List Int)) : Prop :=
  ∃ vs : List Value, vs.length = ll.length ∧ Rd F w v ll.length 1 vs ∧ ∀ i, i < ll.length → RdI G w (nth vs i) (nth ll i)
theorem RdII.ext {S F G : Nat → Prop} {w w' : World} {v : Value} {ll : List (List Int)} (h : RdII F G w v ll) (hx : Ext S w w') (hF : ∀ x, F x → ¬ S x) (hG : ∀ x, G x → ¬ S x) : RdII F G w' v ll := by
  obtain ⟨vs, h1, h2, h3⟩ := h
  exact ⟨vs, h1, h2.ext hx hF, fun i hi => (h3 i hi).ext hx hG⟩
theorem RdII.val {F G : Nat → Prop} {w : World} {v : Value} {ll : List (List Int)} (h : RdII F G w v ll) : ∃ a cap, v = .slice a ll.length cap ∧ ll.length ≤ cap ∧ cap ≤ 9223372036854775807 := by
  obtain ⟨vs, h1, h2, h3⟩ := h
  exact Rd.val h2
theorem RdII.at {F G : Nat → Prop} {w : World} {a : Option Addr} {n cap : Nat} {ll : List (List Int)} (h : RdII F G w (.slice a n cap) ll) {i : Nat} (hi : i < ll.length) :
    ∃ b off ai ci, a = some ⟨b, off, none⟩ ∧ F b ∧ w.cell? ⟨b, off + i, none⟩ = some (.slice ai (nth ll i).length ci) ∧ RdI G w (.slice ai (nth ll i).length ci) (nth ll i) ∧ (nth ll i).length ≤ ci ∧ ci ≤ 9223372036854775807 := by
  obtain ⟨vs, h1, h2, h3⟩ := h
  have hn : n = ll.length := by obtain ⟨_, _, e, _⟩ := h2; cases e; rfl
  subst hn
  obtain ⟨b, off, e, hf, _, hc⟩ := h2.at1 hi
  have hr := h3 i hi
  obtain ⟨ai, ci, e2, h5, h6⟩ := Rd.val hr
  refine ⟨b, off, ai, ci, e, hf, ?_, e2 ▸ hr, h5, h6⟩
  rw [hc, nth_some (by omega), e2]

set_option maxHeartbeats 800000 in
theorem index137_spec (w : World) (v : Value) (l : List Int) (x : Int) (F : Nat → Prop) (hv : RdI F w v l) :
    Calls Try.prog 137 #[v, .int .i64 x] w fun e w' => ∃ r : Int, e = .returned (.int .i64 r) ∧ decide (0 ≤ r) = (l.any fun n => x == n) ∧ w = w' := by
  obtain ⟨a, cap, rfl, _, _⟩ := Rd.val hv
  have hno := any_none (l := l) (p := fun n => x == n)
  have hno' := Lib.hid hno; clear hno
  go_enter Try.func137, Try.ntmps137
  go_wp2_with fail
  go_loopg [8] l.length (fun g i wr => ∃ k : Nat, k + g = l.length ∧ i = .int .i64 k ∧ (∀ j, j < k → (x == nth l j) = false) ∧ wr = w)
  case atStart => exact ⟨0, by omega, rfl, by omega, rfl⟩
  case round =>
    obtain ⟨k, hk, rfl, hall, rfl⟩ := hrel
    have hk' := Lib.hid hk; have hall' := Lib.hid hall
    have hkn : k ≤ l.length := by omega
    clear hk hall
    by_cases hlt : k < l.length
    · obtain ⟨b, off, rfl, _, _, x0⟩ := Rd.at1 hv hlt
      rw [List.getElem?_map, nth_some hlt] at x0
      simp only [Option.map_some, int] at x0
      cases hc : (x == nth l k)
      · have hc' := Lib.hid hc
        go_wp2_with fail
        go_roundg (l.length - (k + 1))
        case measure => have := hk'.out; omega
        case rel =>
          refine ⟨k + 1, by omega, by go_num, fun j hj => ?_, rfl⟩
          by_cases hjk : j < k
          · exact hall'.out j hjk
          · obtain rfl : j = k := by omega
            exact hc'.out
      · have hr : Hid (decide (0 ≤ (k : Int)) = (l.any fun n => x == n)) := by
          show _ = _
          rw [any_of_nth (p := fun n => x == n) hlt hc]; simp
        go_wp2_with fail
        go_ret
        exact ⟨k, rfl, hr.out, rfl⟩
    · have hr : Hid (decide (0 ≤ (-1 : Int)) = (l.any fun n => x == n)) := by
        show _ = _
        rw [hno'.out (fun j hj => hall'.out j (by omega))]; decide
      go_wp2_with fail
      go_ret
      exact ⟨-1, rfl, hr.out, rfl⟩

theorem contains106_spec (w : World) (v : Value) (l : List Int) (x : Int) (F : Nat → Prop) (hv : RdI F w v l) :
    Calls Try.prog 106 #[v, .int .i64 x] w fun e w' => e = .returned (.bool (l.any fun n => x == n)) ∧ w = w' := by
  go_enter Try.func106, Try.ntmps106
  go_wp2_with fail
  refine (index137_spec w v l x F hv).mono ?_
  rintro e w1 ⟨r, rfl, hr, rfl⟩
  have hr' := Lib.hid hr; clear hr
  go_wp2_with fail
  go_ret
  exact ⟨by rw [← hr'.out]; rfl, rfl⟩

/-- Has's own question of a list; the page lies in a block. -/
theorem has1_spec (w : World) (v : Value) (l : List Int) (x : Int) (F : Nat → Prop) (hv : RdI F w v l) (pb : Nat) (hp : w.cell? ⟨pb, 0, none⟩ = some (.int .i64 x)) :
    Calls Try.prog 105 #[v, .pointer (some ⟨pb, 0, none⟩)] w fun e w' => e = .returned (.bool (l.any fun n => x == n)) ∧ w = w' := by
  go_enter Try.func105, Try.ntmps105
  go_wp2_with fail
  refine (contains106_spec w v l x F hv).mono ?_
  rintro e w1 ⟨rfl, rfl⟩
  go_wp2_with fail
  go_ret
  exact ⟨rfl, rfl⟩

def hasIn (ll : List (List Int)) (x : Int) : Bool := ll.any fun l => l.any fun n => x == n

set_option maxHeartbeats 800000 in
theorem index136_spec (w : World) (v : Value) (ll : List (List Int)) (x : Int) (F G : Nat → Prop) (hv : RdII F G w v ll) (pb : Nat) (hp : w.cell? ⟨pb, 0, none⟩ = some (.int .i64 x)) :
    Calls Try.prog 136 #[v, .func (.func 105) #[] #[.pointer (some ⟨pb, 0, none⟩)]] w fun e w' => ∃ r : Int, e = .returned (.int .i64 r) ∧ decide (0 ≤ r) = hasIn ll x ∧ w = w' := by
  obtain ⟨a, cap, rfl, _, _⟩ := RdII.val hv
  have hno := any_none (l := ll) (p := fun l => l.any fun n => x == n)
  have hno' := Lib.hid hno; clear hno
  go_enter Try.func136, Try.ntmps136
  go_wp2_with fail
  go_loopg [8] ll.length (fun g i wr => ∃ k : Nat, k + g = ll.length ∧ i = .int .i64 k ∧ (∀ j, j < k → ((nth ll j).any fun n => x == n) = false) ∧ wr = w)
  case atStart => exact ⟨0, by omega, rfl, by omega, rfl⟩
  case round =>
    obtain ⟨k, hk, rfl, hall, rfl⟩ := hrel
    have hk' := Lib.hid hk; have hall' := Lib.hid hall
    have hkn : k ≤ ll.length := by omega
    clear hk hall
    by_cases hlt : k < ll.length
    · obtain ⟨b, off, ai, ci, rfl, _, x0, q0, _, _⟩ := hv.at hlt
      go_wp2_with fail
      refine (has1_spec _ _ (nth ll k) x G q0 pb hp).mono ?_
      rintro e w1 ⟨rfl, rfl⟩
      cases hc : ((nth ll k).any fun n => x == n)
      · have hc' := Lib.hid hc; clear hc
        go_wp2_with fail
        go_roundg (ll.length - (k + 1))
        case measure => have := hk'.out; omega
        case rel =>
          refine ⟨k + 1, by omega, by go_num, fun j hj => ?_, rfl⟩
          by_cases hjk : j < k
          · exact hall'.out j hjk
          · obtain rfl : j = k := by omega
            exact hc'.out
      · have hr : Hid (decide (0 ≤ (k : Int)) = hasIn ll x) := by
          show _ = _
          unfold hasIn
          rw [any_of_nth (p := fun l => l.any fun n => x == n) hlt hc]; simp
        clear hc
        go_wp2_with fail
        go_ret
        exact ⟨k, rfl, hr.out, rfl⟩
    · have hr : Hid (decide (0 ≤ (-1 : Int)) = hasIn ll x) := by
        show _ = _
        unfold hasIn
        rw [hno'.out (fun j hj => hall'.out j (by omega))]; decide
      go_wp2_with fail
      go_ret
      exact ⟨-1, rfl, hr.out, rfl⟩

theorem contains104_spec (w : World) (v : Value) (ll : List (List Int)) (x : Int) (F G : Nat → Prop) (hv : RdII F G w v ll) (pb : Nat) (hp : w.cell? ⟨pb, 0, none⟩ = some (.int .i64 x)) :
    Calls Try.prog 104 #[v, .func (.func 105) #[] #[.pointer (some ⟨pb, 0, none⟩)]] w fun e w' => e = .returned (.bool (hasIn ll x)) ∧ w = w' := by
  go_enter Try.func104, Try.ntmps104
  go_wp2_with fail
  refine (index136_spec w v ll x F G hv pb hp).mono ?_
  rintro e w1 ⟨r, rfl, hr, rfl⟩
  have hr' := Lib.hid hr; clear hr
  go_wp2_with fail
  go_ret
  exact ⟨by rw [← hr'.out]; rfl, rfl⟩

theorem own_new0 {w : World} {base e b : Nat} (h : Blk w b [] e) (hb : base ≤ b) : w.ownsRow base e 1 (.slice (some ⟨b, 0, none⟩) 0 0) 0 [] :=
  ⟨rfl, .inr ⟨b, 0, #[], rfl, hb, h, Nat.le_refl _, by unfold maxLen; omega, rfl, rfl⟩⟩

set_option maxRecDepth 100000 in
set_option maxHeartbeats 800000 in
theorem clone102_spec (w : World) (v : Value) (l : List Int) (F : Nat → Prop) (hv : RdI F w v l) (hlen : l.length * 8 ≤ 140737488355328) :
    Calls Try.prog 102 #[v] w fun e w' => ∃ r, e = .returned r ∧ w'.ownsRow w.heap.size 3 1 r l.length (l.map int) ∧ Ext No w w' := by
  obtain ⟨a, cap, rfl, _, _⟩ := Rd.val hv
  cases a with
  | none =>
    have hl : l.length = 0 := by
      rcases Nat.eq_zero_or_pos l.length with h | h
      · exact h
      · obtain ⟨b, off, e, _⟩ := Rd.at1 hv h
        cases e
    obtain rfl : l = [] := List.eq_nil_of_length_eq_zero hl
    have he : ∀ (n c : Nat) (w : World), (binOp .eql 25 (.slice none n c) (.slice none 0 0)).run Try.prog w = .ok (.bool true) w := fun _ _ _ => rfl
    go_enter Try.func102, Try.ntmps102
    go_wp2_with fail
    go_ret
    exact ⟨_, rfl, World.ownsRow_nil w w.heap.size 3 1, Ext.refl _ _⟩
  | some p =>
    have he : ∀ (n c : Nat) (w : World), (binOp .eql 25 (.slice (some p) n c) (.slice none 0 0)).run Try.prog w = .ok (.bool false) w := fun _ _ _ => rfl
    go_enter Try.func102, Try.ntmps102
    go_wp2_with (at_builtin; refine stop_here ?_)
    refine Stop.mk ?_
    have hxa : Ext No w (w.alloc (.cells #[] 3)) := (Ext.refl _ _).alloc _
    have hBa : Blk (w.alloc (.cells #[] 3)) w.heap.size [] 3 := Blk.new _ _ _
    have hown0 : (w.alloc (.cells #[] 3)).ownsRow w.heap.size 3 1 (.slice (some ⟨w.heap.size, 0, none⟩) 0 0) 0 [] := own_new0 hBa (Nat.le_refl _)
    refine wpList_app (v := .slice (some ⟨w.heap.size, 0, none⟩) 0 0) ty_int rfl _ _ rfl rfl hown0 rfl (hv.extNo hxa) (by simp [int, Value.oneCell']) (by omega) (by unfold maxLen; omega) (by simp only [World.size_alloc]; omega) ?_
    intro v' w' hown hx _ hfr
    simp only [Nat.zero_add, List.nil_append] at hown
    go_wp2_with fail
    go_ret
    exact ⟨_, rfl, hown, hxa.trans hx (fun x hx' hs => by have := (hown0.lt x hs).1; omega)⟩
end Go.Proofs.Ytjkknjohmekeiaa
/- Pages: headed, inside, and whether some of a row of pages is not inside. No condition. -/
namespace Go.Proofs.Ytjkknjohmekeiaa
open Go.RowKit

/-- May a page be a head? -/
def headB (p : T3) : Bool := (decide (0 ≤ p.b) && decide (p.b ≤ 10)) && ((decide (p.a = 0) && decide (p.c = 0)) || (decide (p.a = 2) && (decide (0 ≤ p.c) && decide (p.c ≤ 8))))
def inside : T3 := ⟨1, 0, 0⟩
def notIn (p : T3) : Bool := !decide (p = inside)

set_option maxHeartbeats 800000 in
theorem headed_spec (w : World) (p : T3) :
    Calls Try.prog 108 #[.agg #[.int .i64 p.a, .int .i64 p.b, .int .i64 p.c]] w fun e w' => e = .returned (.bool (headB p)) ∧ Ext No w w' := by
  have hx : Ext No w (w.alloc (.cells #[.int .i64 p.a, .int .i64 p.b, .int .i64 p.c] 98)) := (Ext.refl _ _).alloc _
  by_cases h1 : p.b < 0
  · have hr : Hid (headB p = false) := by show _ = _; unfold headB; rw [decide_eq_false (show ¬ 0 ≤ p.b by omega)]; rfl
    go_enter Try.func108, Try.ntmps108
    go_wp2_with fail
    go_ret
    exact ⟨by rw [hr.out]; rfl, hx⟩
  · have h1' : 0 ≤ p.b := by omega
    by_cases h2 : 10 < p.b
    · have hr : Hid (headB p = false) := by show _ = _; unfold headB; rw [decide_eq_false (show ¬ p.b ≤ 10 by omega), Bool.and_false]; rfl
      clear h1
      go_enter Try.func108, Try.ntmps108
      go_wp2_with fail
      go_ret
      exact ⟨by rw [hr.out]; rfl, hx⟩
    · have h2' : p.b ≤ 10 := by omega
      clear h1 h2
      by_cases h3 : p.a = 0
      · have h3b : (p.a == 0) = true := by rw [beq_iff_eq]; exact h3
        cases hc : (p.c == 0)
        · have hr : Hid (headB p = false) := by
            show _ = _
            have : ¬ p.c = 0 := by rw [beq_eq_false_iff_ne] at hc; exact hc
            unfold headB; simp [h3, this]
          clear h3
          go_enter Try.func108, Try.ntmps108
          go_wp2_with fail
          go_ret
          exact ⟨by rw [hr.out]; rfl, hx⟩
        · have hr : Hid (headB p = true) := by
            show _ = _
            have : p.c = 0 := by rw [beq_iff_eq] at hc; exact hc
            unfold headB; simp [h3, this, h1', h2']
          clear h3
          go_enter Try.func108, Try.ntmps108
          go_wp2_with fail
          go_ret
          exact ⟨by rw [hr.out]; rfl, hx⟩
      · have h3b : (p.a == 0) = false := by rw [beq_eq_false_iff_ne]; exact h3
        by_cases h4 : p.a = 2
        · have h4b : (p.a == 2) = true := by rw [beq_iff_eq]; exact h4
          by_cases h5 : 0 ≤ p.c
          · by_cases h6 : p.c ≤ 8
            · have hr : Hid (headB p = true) := by show _ = _; unfold headB; simp [h4, h1', h2', h5, h6]
              clear h3 h4
              go_enter Try.func108, Try.ntmps108
              go_wp2_with fail
              go_ret
              exact ⟨by rw [hr.out]; rfl, hx⟩
            · have h6' : 8 < p.c := by omega
              have h6d : decide (p.c ≤ 8) = false := decide_eq_false h6
              have hr : Hid (headB p = false) := by show _ = _; unfold headB; simp [h4]; omega
              clear h3 h4 h6
              go_enter Try.func108, Try.ntmps108
              go_wp2_with fail
              go_ret
              exact ⟨by rw [hr.out]; rfl, hx⟩
          · have h5' : p.c < 0 := by omega
            have hr : Hid (headB p = false) := by show _ = _; unfold headB; simp [h4]; omega
            clear h3 h4 h5
            go_enter Try.func108, Try.ntmps108
            go_wp2_with fail
            go_ret
            exact ⟨by rw [hr.out]; rfl, hx⟩
        · have h4b : (p.a == 2) = false := by rw [beq_eq_false_iff_ne]; exact h4
          have hr : Hid (headB p = false) := by show _ = _; unfold headB; simp [h3, h4]
          clear h3 h4
          go_enter Try.func108, Try.ntmps108
          go_wp2_with fail
          go_ret
          exact ⟨by rw [hr.out]; rfl, hx⟩

theorem T3.ne_cases {x y : T3} (h : ¬ x = y) : (x.a == y.a) = false ∨ ((x.a == y.a) = true ∧ (x.b == y.b) = false) ∨ ((x.a == y.a) = true ∧ (x.b == y.b) = true ∧ (x.c == y.c) = false) := by
  simp only [beq_eq_false_iff_ne, beq_iff_eq]
  by_cases h1 : x.a = y.a
  · by_cases h2 : x.b = y.b
    · by_cases h3 : x.c = y.c
      · exact absurd (T3.ext3 h1 h2 h3) h
      · exact .inr (.inr ⟨h1, h2, h3⟩)
    · exact .inr (.inl ⟨h1, h2⟩)
  · exact .inl h1

theorem notIn_spec (w : World) (p : T3) :
    Calls Try.prog 140 #[.agg #[.int .i64 p.a, .int .i64 p.b, .int .i64 p.c]] w fun e w' => e = .returned (.bool (notIn p)) ∧ Ext No w w' := by
  have hx : Ext No w (w.alloc (.cells #[.int .i64 p.a, .int .i64 p.b, .int .i64 p.c] 98)) := (Ext.refl _ _).alloc _
  by_cases h : p = inside
  · have hr : Hid (notIn p = false) := by show _ = _; unfold notIn; rw [decide_eq_true h]; rfl
    have h1 : (p.a == 1) = true := by rw [h]; rfl
    have h2 : (p.b == 0) = true := by rw [h]; rfl
    have h3 : (p.c == 0) = true := by rw [h]; rfl
    clear h
    go_enter Try.func140, Try.ntmps140
    go_wp2_with fail
    go_ret
    exact ⟨by rw [hr.out]; rfl, hx⟩
  · have hr : Hid (notIn p = true) := by show _ = _; unfold notIn; rw [decide_eq_false h]; rfl
    rcases T3.ne_cases h with h1 | ⟨h1, h2⟩ | ⟨h1, h2, h3⟩
    all_goals
      simp only [inside] at h1
      try simp only [inside] at h2
      try simp only [inside] at h3
      clear h
      go_enter Try.func140, Try.ntmps140
      go_wp2_with fail
      go_ret
      exact ⟨by rw [hr.out]; rfl, hx⟩

set_option maxHeartbeats 800000 in
theorem index148_spec (w : World) (v : Value) (l : List T3) (F : Nat → Prop) (hv : RdT F w v l) :
    Calls Try.prog 148 #[v, .func (.func 140) #[] #[]] w fun e w' => ∃ r : Int, e = .returned (.int .i64 r) ∧ decide (0 ≤ r) = l.any notIn ∧ Ext No w w' := by
  obtain ⟨a, cap, rfl, _, _⟩ := hv.val
  have hno := any_none (l := l) (p := notIn)
  have hno' := Lib.hid hno; clear hno
  go_enter Try.func148, Try.ntmps148
  go_wp2_with fail
  go_loopg [8] l.length (fun g i wr => ∃ k : Nat, k + g = l.length ∧ i = .int .i64 k ∧ (∀ j, j < k → notIn (nth l j) = false) ∧ Ext No w wr)
  case atStart => exact ⟨0, by omega, rfl, by omega, Ext.refl _ _⟩
  case round =>
    obtain ⟨k, hk, rfl, hall, hx⟩ := hrel
    have hk' := Lib.hid hk; have hall' := Lib.hid hall
    have hkn : k ≤ l.length := by omega
    clear hk hall
    by_cases hlt : k < l.length
    · obtain ⟨b, off, rfl, _, _, x0, x1, x2⟩ := (hv.extNo hx).at hlt
      go_wp2_with fail
      refine (notIn_spec _ (nth l k)).mono ?_
      rintro e w2 ⟨rfl, hx2⟩
      have hx3 := hx.transNo hx2
      clear hx hx2
      cases hc : notIn (nth l k)
      · have hc' := Lib.hid hc; clear hc
        go_wp2_with fail
        go_roundg (l.length - (k + 1))
        case measure => have := hk'.out; omega
        case rel =>
          refine ⟨k + 1, by omega, by go_num, fun j hj => ?_, hx3⟩
          by_cases hjk : j < k
          · exact hall'.out j hjk
          · obtain rfl : j = k := by omega
            exact hc'.out
      · have hr : Hid (decide (0 ≤ (k : Int)) = l.any notIn) := by
          show _ = _
          rw [any_of_nth (p := notIn) hlt hc]; simp
        clear hc
        go_wp2_with fail
        go_ret
        exact ⟨k, rfl, hr.out, hx3⟩
    · have hr : Hid (decide (0 ≤ (-1 : Int)) = l.any notIn) := by
        show _ = _
        rw [hno'.out (fun j hj => hall'.out j (by omega))]; decide
      go_wp2_with fail
      go_ret
      exact ⟨-1, rfl, hr.out, hx⟩

theorem contains139_spec (w : World) (v : Value) (l : List T3) (F : Nat → Prop) (hv : RdT F w v l) :
    Calls Try.prog 139 #[v, .func (.func 140) #[] #[]] w fun e w' => e = .returned (.bool (l.any notIn)) ∧ Ext No w w' := by
  go_enter Try.func139, Try.ntmps139
  go_wp2_with fail
  refine (index148_spec w v l F hv).mono ?_
  rintro e w1 ⟨r, rfl, hr, hx⟩
  have hr' := Lib.hid hr; clear hr
  go_wp2_with fail
  go_ret
  exact ⟨by rw [← hr'.out]; rfl, hx⟩

theorem blocks111_spec (w : World) (a : Option Addr) (n cap : Nat) :
    Calls Try.prog 111 #[.slice a n cap] w fun e w' => e = .returned (.func (.func 138) #[] #[.pointer (some ⟨w.heap.size, 0, none⟩)]) ∧ w' = w.alloc (.cells #[.slice a n cap] 96) := by
  go_enter Try.func111, Try.ntmps111
  go_wp2_with fail
  go_ret
  exact ⟨rfl, rfl⟩
end Go.Proofs.Ytjkknjohmekeiaa
/- Plain: the blocks of a table, in their order. No condition. -/
namespace Go.Proofs.Ytjkknjohmekeiaa
open Go.RowKit

/-- How many pages a block has. -/
def sz (p : T3) : Nat := 2 ^ p.b.toNat
/-- What stands inside a block is marked so. -/
def mid (l : List T3) (i : Nat) : List T3 := (l.drop (i + 1)).take (sz (nth l i) - 1)
def okAt (l : List T3) (i : Nat) : Bool := headB (nth l i) && (decide (i % sz (nth l i) = 0) && (decide (i + sz (nth l i) ≤ l.length) && !(mid l i).any notIn))
def bseqF (l : List T3) : Nat → Nat → List (Int × T3)
  | 0, _ => []
  | f + 1, i => if i < l.length then if okAt l i then ((i : Int), nth l i) :: bseqF l f (i + sz (nth l i)) else [(-1, nth l i)] else []
/-- The blocks from a place on; behind one that may not be there is none, and it is told as -1. -/
def bseq (l : List T3) (i : Nat) : List (Int × T3) := bseqF l (l.length - i) i
def bl (l : List T3) : List (Int × T3) := bseq l 0

theorem sz_pos (p : T3) : 1 ≤ sz p := Nat.one_le_two_pow
theorem bseqF_ge (l : List T3) : ∀ (f i : Nat), l.length - i ≤ f → bseqF l f i = bseqF l (l.length - i) i
  | 0, i, h => by rw [show l.length - i = 0 by omega]
  | f + 1, i, h => by
    by_cases hi : i < l.length
    · obtain ⟨g, hg⟩ : ∃ g, l.length - i = g + 1 := ⟨l.length - i - 1, by omega⟩
      rw [hg]
      simp only [bseqF]
      have hp := sz_pos (nth l i)
      rw [bseqF_ge l f (i + sz (nth l i)) (by omega), bseqF_ge l g (i + sz (nth l i)) (by omega)]
    · rw [show l.length - i = 0 by omega]
      simp only [bseqF]
      rw [if_neg hi]
theorem bseq_out {l : List T3} {i : Nat} (h : l.length ≤ i) : bseq l i = [] := by
  unfold bseq; rw [show l.length - i = 0 by omega]; rfl
theorem bseq_ok {l : List T3} {i : Nat} (h : i < l.length) (ho : okAt l i = true) : bseq l i = ((i : Int), nth l i) :: bseq l (i + sz (nth l i)) := by
  unfold bseq
  obtain ⟨g, hg⟩ : ∃ g, l.length - i = g + 1 := ⟨l.length - i - 1, by omega⟩
  have hp := sz_pos (nth l i)
  rw [hg]
  simp only [bseqF]
  rw [if_pos h, if_pos ho, bseqF_ge l g _ (by omega)]
theorem bseq_bad {l : List T3} {i : Nat} (h : i < l.length) (ho : okAt l i = false) : bseq l i = [(-1, nth l i)] := by
  unfold bseq
  obtain ⟨g, hg⟩ : ∃ g, l.length - i = g + 1 := ⟨l.length - i - 1, by omega⟩
  rw [hg]
  simp only [bseqF]
  rw [if_pos h, ho]; rfl

theorem headB_range {p : T3} (h : headB p = true) : 0 ≤ p.b ∧ p.b ≤ 10 := by
  simp only [headB, Bool.and_eq_true, decide_eq_true_eq] at h
  exact h.1
theorem sz_le {p : T3} (h : headB p = true) : sz p ≤ 1024 := by
  have := headB_range h
  unfold sz
  calc 2 ^ p.b.toNat ≤ 2 ^ 10 := Nat.pow_le_pow_right (by omega) (by omega)
    _ = 1024 := rfl
theorem okAt_iff {l : List T3} {i : Nat} : okAt l i = true ↔ headB (nth l i) = true ∧ i % sz (nth l i) = 0 ∧ i + sz (nth l i) ≤ l.length ∧ (mid l i).any notIn = false := by
  unfold okAt
  simp only [Bool.and_eq_true, decide_eq_true_eq, Bool.not_eq_true']

/-- The order's last four bits, and one shifted by them. -/
theorem shl_any (x : Int) : ∃ s : Int, (∀ w, (Op.shift .shl .i64 1 .i64 (Go.bits .and .i64 x 15)).run Try.prog w = .ok (.int .i64 s) w) ∧ (0 ≤ x → x ≤ 10 → s = ((2 ^ x.toNat : Nat) : Int)) := by
  obtain ⟨m, hm⟩ : ∃ m : Nat, (BitVec.ofInt 64 x).toNat &&& 15 = m := ⟨_, rfl⟩
  have hm15 : m ≤ 15 := by rw [← hm]; exact Nat.and_le_right
  have hb : Go.bits .and .i64 x 15 = (m : Int) := by
    show IntKind.i64.wrap ((BitVec.ofInt 64 x &&& BitVec.ofInt 64 15).toNat : Int) = _
    rw [BitVec.toNat_and, show (BitVec.ofInt 64 15).toNat = 15 from rfl, hm, IntKind.wrap_i64]
    omega
  refine ⟨IntKind.i64.wrap (1 * 2 ^ m), fun w => ?_, fun h0 h1 => ?_⟩
  · rw [hb, shift_shl_i64 (yk := .i64) (x := 1) (y := (m : Int)) (by omega) (by omega)]
    rfl
  · have hx : (BitVec.ofInt 64 x).toNat = x.toNat := by
      obtain ⟨k, rfl⟩ : ∃ k : Nat, x = (k : Int) := ⟨x.toNat, by omega⟩
      rw [BitVec.ofInt_natCast, BitVec.toNat_ofNat, Int.toNat_natCast]
      exact Nat.mod_eq_of_lt (Nat.lt_of_le_of_lt (show k ≤ 10 by omega) (by decide))
    have hmx : m = x.toNat := by
      rw [← hm, hx, show (15 : Nat) = 2 ^ 4 - 1 from rfl, Nat.and_two_pow_sub_one_eq_mod]
      omega
    subst hmx
    have hle : 2 ^ x.toNat ≤ 2 ^ 10 := Nat.pow_le_pow_right (by omega) (by omega)
    have e : (1 * 2 ^ x.toNat : Int) = ((2 ^ x.toNat : Nat) : Int) := by rw [Int.one_mul]; norm_cast
    obtain ⟨z, hz⟩ : ∃ z : Nat, 2 ^ x.toNat = z := ⟨_, rfl⟩
    rw [e, IntKind.wrap_i64]
    rw [hz] at hle ⊢
    have hle : z ≤ 1024 := hle
    omega
theorem and_mask (i : Nat) (p : T3) (hi : i < 4611686018427387904) (h : headB p = true) : Go.bits .and .i64 (i : Int) ((sz p : Int) - 1) = ((i % sz p : Nat) : Int) := by
  have h1 := sz_pos p
  have h2 := sz_le h
  have e1 : ((sz p : Int) - 1) = ((sz p - 1 : Nat) : Int) := by omega
  have e2 : i &&& (sz p - 1) = i % sz p := by unfold sz; exact Nat.and_two_pow_sub_one_eq_mod _ _
  have h3 : i % sz p < sz p := Nat.mod_lt _ (by omega)
  rw [e1, bits_and_i64 i (sz p - 1) hi (by omega) (by rw [e2]; omega), e2]

/-- A part of a slice. -/
theorem RdT.sub {F : Nat → Prop} {w : World} {b off n cap : Nat} {l : List T3} (h : RdT F w (.slice (some ⟨b, off, none⟩) n cap) l) {lo m : Nat} (h2 : lo + m ≤ l.length) :
    RdT F w (.slice (some ⟨b, off + lo * 3, none⟩) m (cap - lo)) ((l.drop lo).take m) := by
  have hl : ((l.drop lo).take m).length = m := by simp; omega
  obtain ⟨a', cap', e, g1, g2, g3, g4⟩ := h
  cases e
  unfold RdT
  rw [hl]
  refine ⟨_, _, rfl, by rw [t3sCells_len, hl], by omega, by unfold maxLen at *; omega, fun hne => ?_⟩
  have hm : 0 < m := by
    rcases Nat.eq_zero_or_pos m with h0 | h0
    · subst h0; exact absurd (by simp [t3sCells]) hne
    · exact h0
  obtain ⟨b', off', e2, k1, k2, k3⟩ := g4 (by intro e; rw [e] at g1; simp at g1; omega)
  cases e2
  refine ⟨b, off + lo * 3, rfl, k1, k2, fun i u hu => ?_⟩
  have hi : i < m * 3 := by
    have := (List.getElem?_eq_some_iff.1 hu).1
    rw [t3sCells_len, hl] at this; exact this
  have hq : i / 3 < m := by omega
  have hdm : i / 3 * 3 + i % 3 = i := by omega
  rw [← hdm, t3sCells_at (by rw [hl]; exact hq) (by omega)] at hu
  have e3 : nth ((l.drop lo).take m) (i / 3) = nth l (lo + i / 3) := by
    rw [nth_eq (by rw [hl]; exact hq), nth_eq (by omega)]
    simp
  rw [e3] at hu
  have := k3 ((lo + i / 3) * 3 + i % 3) u (by rw [t3sCells_at (by omega) (by omega)]; exact hu)
  rw [show off + lo * 3 + i = off + ((lo + i / 3) * 3 + i % 3) by omega]
  exact this
theorem RdT.empty {F : Nat → Prop} {w : World} (a : Option Addr) (cap : Nat) (hc : cap ≤ 9223372036854775807) : RdT F w (.slice a 0 cap) [] :=
  ⟨_, _, rfl, rfl, Nat.zero_le _, by unfold maxLen; omega, fun hne => absurd rfl hne⟩
end Go.Proofs.Ytjkknjohmekeiaa
