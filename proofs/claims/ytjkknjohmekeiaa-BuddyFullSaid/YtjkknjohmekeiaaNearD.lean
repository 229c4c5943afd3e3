/- Near pages: Put. No condition but that a list is no longer than 1024. -/
import Derived.Test.YtjkknjohmekeiaaNearC
namespace Go.Proofs.Ytjkknjohmekeiaa
open Go.RowKit

set_option maxRecDepth 100000 in
set_option maxHeartbeats 800000 in
theorem near_put_range (w : World) (nb lb base : Nat) (vs : List Value) (ll : List (List Int)) (cap : Int) (h : NearR w nb lb base vs ll cap) (h0 : 0 < ll.length) (c page : Int) (hc : c < 0 ∨ (ll.length : Int) ≤ c) :
    Calls Try.prog 51 #[.pointer (some ⟨nb, 0, none⟩), .int .i64 c, .int .i64 page] w fun e w' => e = .returned (.tuple #[.slice none 0 0, .int .i64 9]) ∧ w = w' := by
  have n0 := h.n.cell' (i := 0) rfl
  have hz : ((ll.length : Int) == 0) = false := by rw [beq_eq_false_iff_ne]; omega
  go_enter Try.func51, Try.ntmps51
  go_wp2_with fail
  refine (near_list_out w nb lb base vs ll cap h c hc).mono ?_
  rintro e w1 ⟨rfl, rfl⟩
  go_wp2_with fail
  go_ret2
  exact ⟨rfl, rfl⟩

set_option maxRecDepth 100000 in
set_option maxHeartbeats 800000 in
theorem near_put_has (w : World) (nb lb base : Nat) (vs : List Value) (ll : List (List Int)) (cap : Int) (h : NearR w nb lb base vs ll cap) (hb : base ≤ w.heap.size) (c : Nat) (hc : c < ll.length) (page : Int) (hp0 : 0 ≤ page) (hp1 : page < 1024) (hh : hasIn ll page = true) :
    Calls Try.prog 51 #[.pointer (some ⟨nb, 0, none⟩), .int .i64 c, .int .i64 page] w fun e w' => e = .returned (.tuple #[.slice none 0 0, .int .i64 60]) ∧ Ext No w w' := by
  have n0 := h.n.cell' (i := 0) rfl
  have hz : ((ll.length : Int) == 0) = false := by rw [beq_eq_false_iff_ne]; omega
  go_enter Try.func51, Try.ntmps51
  go_wp2_with fail
  refine (near_list_at w nb lb base vs ll cap h c hc).mono ?_
  rintro e w1 ⟨rfl, rfl⟩
  go_wp2_with fail
  refine (near_has w nb lb base vs ll cap h hb page).mono ?_
  rintro e w1 ⟨rfl, hx⟩
  rw [hh]
  go_wp2_with fail
  go_ret2
  exact ⟨rfl, hx⟩

set_option maxRecDepth 100000 in
set_option maxHeartbeats 800000 in
theorem near_put_page (w : World) (nb lb base : Nat) (vs : List Value) (ll : List (List Int)) (cap : Int) (h : NearR w nb lb base vs ll cap) (c : Nat) (hc : c < ll.length) (page : Int) (hp : page < 0 ∨ 1024 ≤ page) :
    Calls Try.prog 51 #[.pointer (some ⟨nb, 0, none⟩), .int .i64 c, .int .i64 page] w fun e w' => e = .returned (.tuple #[.slice none 0 0, .int .i64 9]) ∧ w = w' := by
  have n0 := h.n.cell' (i := 0) rfl
  have hz : ((ll.length : Int) == 0) = false := by rw [beq_eq_false_iff_ne]; omega
  by_cases h0 : page < 0
  · go_enter Try.func51, Try.ntmps51
    go_wp2_with fail
    refine (near_list_at w nb lb base vs ll cap h c hc).mono ?_
    rintro e w1 ⟨rfl, rfl⟩
    go_wp2_with fail
    go_ret2
    exact ⟨rfl, rfl⟩
  · have h1 : 1024 ≤ page := by omega
    go_enter Try.func51, Try.ntmps51
    go_wp2_with fail
    refine (near_list_at w nb lb base vs ll cap h c hc).mono ?_
    rintro e w1 ⟨rfl, rfl⟩
    go_wp2_with fail
    go_ret2
    exact ⟨rfl, rfl⟩

theorem own_sub {w : World} {base e n cap k : Nat} {a : Option Addr} {xs : List Int} (h : w.ownsRow base e 1 (.slice a n cap) n (xs.map int)) (hk : k < n) :
    ∃ b, a = some ⟨b, 0, none⟩ ∧ OwnOf (.slice a n cap) b ∧ n ≤ cap ∧ RdI (One b) w (.slice (some ⟨b, k, none⟩) (n - k) (cap - k)) (xs.drop k) := by
  obtain ⟨b, cap', ev, h1, h2, h3, h4, _⟩ := own_at h hk
  cases ev
  have hl : xs.length = n := by have := h.1; simpa using this
  refine ⟨b, rfl, h3, h1, ?_⟩
  have e1 : (xs.drop k).length = n - k := by simp [hl]
  unfold RdI
  rw [e1]
  refine ⟨_, _, rfl, by simp [hl], by omega, by unfold maxLen; omega, fun _ => ⟨b, k, rfl, rfl, h4, fun i u hu => ?_⟩⟩
  have hi : i < n - k := by have := (List.getElem?_eq_some_iff.1 hu).1; simp [hl] at this; omega
  obtain ⟨b', cap2, ev2, _, _, _, _, hc, _⟩ := own_at h (k := k + i) (by omega)
  cases ev2
  rw [hc, ← hu, ← nth_some (by simp [hl]; omega)]
  simp [List.getElem?_drop]
end Go.Proofs.Ytjkknjohmekeiaa
