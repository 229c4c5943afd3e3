/- Lists of numbers: Contains, Clone, and what Has asks. No condition but that a list that is cloned fits into memory. -/
import Derived.Test.YtjkknjohmekeiaaTapeG
import Derived.Test.YtjkknjohmekeiaaApp
namespace Go.Proofs.Ytjkknjohmekeiaa
open Go.RowKit

/-- A slice of slices of numbers. -/
def RdII (F G : Nat → Prop) (w : World) (v : Value) (ll : List (List Int)) : Prop :=
  ∃ vs : List Value, vs.length = ll.length ∧ Rd F w v ll.length 1 vs ∧ ∀ i, i < ll.length → RdI G w (nth vs i) (nth ll i)
theorem RdII.ext {S F G : Nat → Prop} {w w' : World} {v : Value} {ll : List (List Int)} (h : RdII F G w v ll) (hx : Ext S w w') (hF : ∀ x, F x → ¬ S x) (hG : ∀ x, G x → ¬ S x) : RdII F G w' v ll := by
  obtain ⟨vs, h1, h2, h3⟩ := h
  exact ⟨vs, h1, h2.ext hx hF, fun i hi => (h3 i hi).ext hx hG⟩
theorem RdII.val {F G : Nat → Prop} {w : World} {v : Value} {ll : List (List Int)} (h : RdII F G w v ll) : ∃ a cap, v = .slice a ll.length cap ∧ ll.length ≤ cap ∧ cap ≤ 9223372036854775807 := by
  obtain ⟨vs, h1, h2, h3⟩ := h
  exact Rd.val h2
theorem RdII.at {F G : Nat → Prop} {w : World} {a : Option Addr} {n cap : Nat} {ll : List (List Int)} (h : RdII F G w (.slice a n cap) ll) {i : Nat} (hi : i < ll.length) :
    ∃ b off ai ci, a = some ⟨b, off, none⟩ ∧ F b ∧ w.cell? ⟨b, off + i, none⟩ = some (.slice ai (nth ll i).length ci) ∧ RdI G w (.slice ai (nth ll i).length ci) (nth ll i) ∧ (nth ll i).length ≤ ci ∧ ci ≤ 9223372036854775807 := by
  obtain ⟨vs, h1, h2, h3⟩ := h
  have hn : n = ll.length := by obtain ⟨_, _, e, _⟩ := h2; cases e; rfl
  subst hn
  obtain ⟨b, off, e, hf, _, hc⟩ := h2.at1 hi
  have hr := h3 i hi
  obtain ⟨ai, ci, e2, h5, h6⟩ := Rd.val hr
  refine ⟨b, off, ai, ci, e, hf, ?_, e2 ▸ hr, h5, h6⟩
  rw [hc, nth_some (by omega), e2]

set_option maxHeartbeats 800000 in
theorem index137_spec (w : World) (v : Value) (l : List Int) (x : Int) (F : Nat → Prop) (hv : RdI F w v l) :
    Calls Try.prog 137 #[v, .int .i64 x] w fun e w' => ∃ r : Int, e = .returned (.int .i64 r) ∧ decide (0 ≤ r) = (l.any fun n => x == n) ∧ w = w' := by
  obtain ⟨a, cap, rfl, _, _⟩ := Rd.val hv
  have hno := any_none (l := l) (p := fun n => x == n)
  have hno' := Lib.hid hno; clear hno
  go_enter Try.func137, Try.ntmps137
  go_wp2_with fail
  go_loopg [8] l.length (fun g i wr => ∃ k : Nat, k + g = l.length ∧ i = .int .i64 k ∧ (∀ j, j < k → (x == nth l j) = false) ∧ wr = w)
  case atStart => exact ⟨0, by omega, rfl, by omega, rfl⟩
  case round =>
    obtain ⟨k, hk, rfl, hall, rfl⟩ := hrel
    have hk' := Lib.hid hk; have hall' := Lib.hid hall
    have hkn : k ≤ l.length := by omega
    clear hk hall
    by_cases hlt : k < l.length
    · obtain ⟨b, off, rfl, _, _, x0⟩ := Rd.at1 hv hlt
      rw [List.getElem?_map, nth_some hlt] at x0
      simp only [Option.map_some, int] at x0
      cases hc : (x == nth l k)
      · have hc' := Lib.hid hc
        go_wp2_with fail
        go_roundg (l.length - (k + 1))
        case measure => have := hk'.out; omega
        case rel =>
          refine ⟨k + 1, by omega, by go_num, fun j hj => ?_, rfl⟩
          by_cases hjk : j < k
          · exact hall'.out j hjk
          · obtain rfl : j = k := by omega
            exact hc'.out
      · have hr : Hid (decide (0 ≤ (k : Int)) = (l.any fun n => x == n)) := by
          show _ = _
          rw [any_of_nth (p := fun n => x == n) hlt hc]; simp
        go_wp2_with fail
        go_ret
        exact ⟨k, rfl, hr.out, rfl⟩
    · have hr : Hid (decide (0 ≤ (-1 : Int)) = (l.any fun n => x == n)) := by
        show _ = _
        rw [hno'.out (fun j hj => hall'.out j (by omega))]; decide
      go_wp2_with fail
      go_ret
      exact ⟨-1, rfl, hr.out, rfl⟩

theorem contains106_spec (w : World) (v : Value) (l : List Int) (x : Int) (F : Nat → Prop) (hv : RdI F w v l) :
    Calls Try.prog 106 #[v, .int .i64 x] w fun e w' => e = .returned (.bool (l.any fun n => x == n)) ∧ w = w' := by
  go_enter Try.func106, Try.ntmps106
  go_wp2_with fail
  refine (index137_spec w v l x F hv).mono ?_
  rintro e w1 ⟨r, rfl, hr, rfl⟩
  have hr' := Lib.hid hr; clear hr
  go_wp2_with fail
  go_ret
  exact ⟨by rw [← hr'.out]; rfl, rfl⟩

/-- Has's own question of a list; the page lies in a block. -/
theorem has1_spec (w : World) (v : Value) (l : List Int) (x : Int) (F : Nat → Prop) (hv : RdI F w v l) (pb : Nat) (hp : w.cell? ⟨pb, 0, none⟩ = some (.int .i64 x)) :
    Calls Try.prog 105 #[v, .pointer (some ⟨pb, 0, none⟩)] w fun e w' => e = .returned (.bool (l.any fun n => x == n)) ∧ w = w' := by
  go_enter Try.func105, Try.ntmps105
  go_wp2_with fail
  refine (contains106_spec w v l x F hv).mono ?_
  rintro e w1 ⟨rfl, rfl⟩
  go_wp2_with fail
  go_ret
  exact ⟨rfl, rfl⟩

def hasIn (ll : List (List Int)) (x : Int) : Bool := ll.any fun l => l.any fun n => x == n

set_option maxHeartbeats 800000 in
theorem index136_spec (w : World) (v : Value) (ll : List (List Int)) (x : Int) (F G : Nat → Prop) (hv : RdII F G w v ll) (pb : Nat) (hp : w.cell? ⟨pb, 0, none⟩ = some (.int .i64 x)) :
    Calls Try.prog 136 #[v, .func (.func 105) #[] #[.pointer (some ⟨pb, 0, none⟩)]] w fun e w' => ∃ r : Int, e = .returned (.int .i64 r) ∧ decide (0 ≤ r) = hasIn ll x ∧ w = w' := by
  obtain ⟨a, cap, rfl, _, _⟩ := RdII.val hv
  have hno := any_none (l := ll) (p := fun l => l.any fun n => x == n)
  have hno' := Lib.hid hno; clear hno
  go_enter Try.func136, Try.ntmps136
  go_wp2_with fail
  go_loopg [8] ll.length (fun g i wr => ∃ k : Nat, k + g = ll.length ∧ i = .int .i64 k ∧ (∀ j, j < k → ((nth ll j).any fun n => x == n) = false) ∧ wr = w)
  case atStart => exact ⟨0, by omega, rfl, by omega, rfl⟩
  case round =>
    obtain ⟨k, hk, rfl, hall, rfl⟩ := hrel
    have hk' := Lib.hid hk; have hall' := Lib.hid hall
    have hkn : k ≤ ll.length := by omega
    clear hk hall
    by_cases hlt : k < ll.length
    · obtain ⟨b, off, ai, ci, rfl, _, x0, q0, _, _⟩ := hv.at hlt
      go_wp2_with fail
      refine (has1_spec _ _ (nth ll k) x G q0 pb hp).mono ?_
      rintro e w1 ⟨rfl, rfl⟩
      cases hc : ((nth ll k).any fun n => x == n)
      · have hc' := Lib.hid hc; clear hc
        go_wp2_with fail
        go_roundg (ll.length - (k + 1))
        case measure => have := hk'.out; omega
        case rel =>
          refine ⟨k + 1, by omega, by go_num, fun j hj => ?_, rfl⟩
          by_cases hjk : j < k
          · exact hall'.out j hjk
          · obtain rfl : j = k := by omega
            exact hc'.out
      · have hr : Hid (decide (0 ≤ (k : Int)) = hasIn ll x) := by
          show _ = _
          unfold hasIn
          rw [any_of_nth (p := fun l => l.any fun n => x == n) hlt hc]; simp
        clear hc
        go_wp2_with fail
        go_ret
        exact ⟨k, rfl, hr.out, rfl⟩
    · have hr : Hid (decide (0 ≤ (-1 : Int)) = hasIn ll x) := by
        show _ = _
        unfold hasIn
        rw [hno'.out (fun j hj => hall'.out j (by omega))]; decide
      go_wp2_with fail
      go_ret
      exact ⟨-1, rfl, hr.out, rfl⟩

theorem contains104_spec (w : World) (v : Value) (ll : List (List Int)) (x : Int) (F G : Nat → Prop) (hv : RdII F G w v ll) (pb : Nat) (hp : w.cell? ⟨pb, 0, none⟩ = some (.int .i64 x)) :
    Calls Try.prog 104 #[v, .func (.func 105) #[] #[.pointer (some ⟨pb, 0, none⟩)]] w fun e w' => e = .returned (.bool (hasIn ll x)) ∧ w = w' := by
  go_enter Try.func104, Try.ntmps104
  go_wp2_with fail
  refine (index136_spec w v ll x F G hv pb hp).mono ?_
  rintro e w1 ⟨r, rfl, hr, rfl⟩
  have hr' := Lib.hid hr; clear hr
  go_wp2_with fail
  go_ret
  exact ⟨by rw [← hr'.out]; rfl, rfl⟩

theorem own_new0 {w : World} {base e b : Nat} (h : Blk w b [] e) (hb : base ≤ b) : w.ownsRow base e 1 (.slice (some ⟨b, 0, none⟩) 0 0) 0 [] :=
  ⟨rfl, .inr ⟨b, 0, #[], rfl, hb, h, Nat.le_refl _, by unfold maxLen; omega, rfl, rfl⟩⟩

set_option maxRecDepth 100000 in
set_option maxHeartbeats 800000 in
theorem clone102_spec (w : World) (v : Value) (l : List Int) (F : Nat → Prop) (hv : RdI F w v l) (hlen : l.length * 8 ≤ 140737488355328) :
    Calls Try.prog 102 #[v] w fun e w' => ∃ r, e = .returned r ∧ w'.ownsRow w.heap.size 3 1 r l.length (l.map int) ∧ Ext No w w' := by
  obtain ⟨a, cap, rfl, _, _⟩ := Rd.val hv
  cases a with
  | none =>
    have hl : l.length = 0 := by
      rcases Nat.eq_zero_or_pos l.length with h | h
      · exact h
      · obtain ⟨b, off, e, _⟩ := Rd.at1 hv h
        cases e
    obtain rfl : l = [] := List.eq_nil_of_length_eq_zero hl
    have he : ∀ (n c : Nat) (w : World), (binOp .eql 25 (.slice none n c) (.slice none 0 0)).run Try.prog w = .ok (.bool true) w := fun _ _ _ => rfl
    go_enter Try.func102, Try.ntmps102
    go_wp2_with fail
    go_ret
    exact ⟨_, rfl, World.ownsRow_nil w w.heap.size 3 1, Ext.refl _ _⟩
  | some p =>
    have he : ∀ (n c : Nat) (w : World), (binOp .eql 25 (.slice (some p) n c) (.slice none 0 0)).run Try.prog w = .ok (.bool false) w := fun _ _ _ => rfl
    go_enter Try.func102, Try.ntmps102
    go_wp2_with (at_builtin; refine stop_here ?_)
    refine Stop.mk ?_
    have hxa : Ext No w (w.alloc (.cells #[] 3)) := (Ext.refl _ _).alloc _
    have hBa : Blk (w.alloc (.cells #[] 3)) w.heap.size [] 3 := Blk.new _ _ _
    have hown0 : (w.alloc (.cells #[] 3)).ownsRow w.heap.size 3 1 (.slice (some ⟨w.heap.size, 0, none⟩) 0 0) 0 [] := own_new0 hBa (Nat.le_refl _)
    refine wpList_app (v := .slice (some ⟨w.heap.size, 0, none⟩) 0 0) ty_int rfl _ _ rfl rfl hown0 rfl (hv.extNo hxa) (by simp [int, Value.oneCell']) (by omega) (by unfold maxLen; omega) (by simp only [World.size_alloc]; omega) ?_
    intro v' w' hown hx _ hfr
    simp only [Nat.zero_add, List.nil_append] at hown
    go_wp2_with fail
    go_ret
    exact ⟨_, rfl, hown, hxa.trans hx (fun x hx' hs => by have := (hown0.lt x hs).1; omega)⟩
end Go.Proofs.Ytjkknjohmekeiaa
