/- Near pages in memory; New, list, Has, List. No condition. -/
import Derived.Test.YtjkknjohmekeiaaNearA
namespace Go.Proofs.Ytjkknjohmekeiaa
open Go.RowKit

/-- The program's near pages at block nb, its lists at lb. -/
structure NearR (w : World) (nb lb base : Nat) (vs : List Value) (ll : List (List Int)) (cap : Int) (T : TypeId := 95) : Prop where
  n : Blk w nb [.slice (some ⟨lb, 0, none⟩) ll.length ll.length, .int .i64 cap] T
  l : Blk w lb vs 25
  len : vs.length = ll.length
  rows : ∀ i, i < ll.length → w.ownsRow base 3 1 (nth vs i) (nth ll i).length ((nth ll i).map int)
  apart : ∀ i j x, i < ll.length → j < ll.length → OwnOf (nth vs i) x → OwnOf (nth vs j) x → i = j
  nums : nb ≠ lb ∧ nb < base ∧ lb < base ∧ ll.length ≤ 8
def NearF (nb lb : Nat) (vs : List Value) (x : Nat) : Prop := x = nb ∨ x = lb ∨ ∃ i, i < vs.length ∧ OwnOf (nth vs i) x

theorem NearR.ext {S : Nat → Prop} {w w' : World} {nb lb base : Nat} {vs : List Value} {ll : List (List Int)} {cap : Int} {T : TypeId} (h : NearR w nb lb base vs ll cap T) (hx : Ext S w w') (hS : ∀ x, NearF nb lb vs x → ¬ S x) : NearR w' nb lb base vs ll cap T :=
  ⟨h.n.ext hx (hS _ (.inl rfl)), h.l.ext hx (hS _ (.inr (.inl rfl))), h.len, fun i hi => ownsRow_ext (h.rows i hi) hx (fun k hk => hS k (.inr (.inr ⟨i, by rw [h.len]; exact hi, hk⟩))), h.apart, h.nums⟩
theorem NearR.rd {w : World} {nb lb base : Nat} {vs : List Value} {ll : List (List Int)} {cap : Int} {T : TypeId} (h : NearR w nb lb base vs ll cap T) : RdII (One lb) (fun x => ∃ i, i < vs.length ∧ OwnOf (nth vs i) x) w (.slice (some ⟨lb, 0, none⟩) ll.length ll.length) ll :=
  ⟨vs, h.len, by have := Rd.of_blk (n := ll.length) (sz := 1) h.l (by rw [h.len, Nat.mul_one]) (by have := h.nums; unfold maxLen; omega); exact this,
    fun i hi => (Rd.of_own (h.rows i hi)).mono (fun x hx _ => ⟨i, by rw [h.len]; exact hi, hx⟩)⟩

theorem mk_ll : MkTy 93 25 1 24 (.slice none 0 0) := .mk' (z := .slice none 0 0) (by kernel_rfl) Try.underlying93 rfl (by decide)

set_option maxRecDepth 100000 in
set_option maxHeartbeats 800000 in
theorem near_new (w : World) (cpus cap : Int) :
    Calls Try.prog 45 #[.int .i64 cpus, .int .i64 cap] w fun e w' =>
      if (1 ≤ cpus ∧ cpus ≤ 8) ∧ 0 ≤ cap ∧ cap ≤ 64 then
        (∃ nb lb, e = .returned (.tuple #[.pointer (some ⟨nb, 0, none⟩), .int .i64 0]) ∧ NearR w' nb lb w'.heap.size (List.replicate cpus.toNat (.slice none 0 0)) (List.replicate cpus.toNat []) cap ∧ w.heap.size ≤ nb ∧ w.heap.size ≤ lb) ∧ Ext No w w'
      else e = .returned (.tuple #[.pointer none, .int .i64 2]) ∧ w = w' := by
  by_cases h1 : cpus < 1
  · have hn : Hid (¬ ((1 ≤ cpus ∧ cpus ≤ 8) ∧ 0 ≤ cap ∧ cap ≤ 64)) := by show ¬ _; omega
    go_enter Try.func45, Try.ntmps45
    go_wp2_with fail
    go_ret2
    exact ⟨rfl, rfl⟩
  · by_cases h2 : 8 < cpus
    · have hn : Hid (¬ ((1 ≤ cpus ∧ cpus ≤ 8) ∧ 0 ≤ cap ∧ cap ≤ 64)) := by show ¬ _; omega
      go_enter Try.func45, Try.ntmps45
      go_wp2_with fail
      go_ret2
      exact ⟨rfl, rfl⟩
    · by_cases h3 : cap < 0
      · have hn : Hid (¬ ((1 ≤ cpus ∧ cpus ≤ 8) ∧ 0 ≤ cap ∧ cap ≤ 64)) := by show ¬ _; omega
        go_enter Try.func45, Try.ntmps45
        go_wp2_with fail
        go_ret2
        exact ⟨rfl, rfl⟩
      · by_cases h4 : 64 < cap
        · have hn : Hid (¬ ((1 ≤ cpus ∧ cpus ≤ 8) ∧ 0 ≤ cap ∧ cap ≤ 64)) := by show ¬ _; omega
          go_enter Try.func45, Try.ntmps45
          go_wp2_with fail
          go_ret2
          exact ⟨rfl, rfl⟩
        · have hy : Hid ((1 ≤ cpus ∧ cpus ≤ 8) ∧ 0 ≤ cap ∧ cap ≤ 64) := by show _ ∧ _; omega
          obtain ⟨n, rfl⟩ : ∃ n : Nat, cpus = (n : Int) := ⟨cpus.toNat, by omega⟩
          have hn8 : n ≤ 8 := by omega
          have hmk := mk_run mk_ll n (by omega) (by omega)
          rw [Nat.mul_one] at hmk
          go_enter Try.func45, Try.ntmps45
          go_wp2_with fail
          go_ret2
          have hB : Blk (w.alloc (.cells (Array.replicate n (.slice none 0 0)) 25)) w.heap.size (List.replicate n (.slice none 0 0)) 25 := by
            have := Blk.new' (w := w) (b := w.heap.size) (cs := List.replicate n (.slice none 0 0)) (T := 25) rfl
            simpa using this
          refine ⟨⟨w.heap.size + 1, rfl, w.heap.size, ⟨?_, hB.alloc _, by simp, fun i hi => ?_, fun i j x hi hj h => ?_, ?_⟩, by omega, by omega⟩, ((Ext.refl _ _).alloc _).alloc _⟩
          · simp only [Int.toNat_natCast, List.length_replicate]
            exact Blk.new' (by simp)
          · simp only [Int.toNat_natCast, List.length_replicate] at hi ⊢
            rw [nth_eq (by simpa using hi), nth_eq (by simpa using hi)]
            simp only [List.getElem_replicate]
            exact World.ownsRow_nil _ _ _ _
          · simp only [Int.toNat_natCast, List.length_replicate] at hi h
            rw [nth_eq (by simpa using hi)] at h
            simp [OwnOf, Value.ownBlock] at h
          · simp; omega

/-- Where a processor's list lies; the processor is there. -/
theorem near_list_at (w : World) (nb lb base : Nat) (vs : List Value) (ll : List (List Int)) (cap : Int) (h : NearR w nb lb base vs ll cap) (c : Nat) (hc : c < ll.length) :
    Calls Try.prog 101 #[.pointer (some ⟨nb, 0, none⟩), .int .i64 c] w fun e w' => e = .returned (.pointer (some ⟨lb, c, none⟩)) ∧ w = w' := by
  have n0 := h.n.cell' (i := 0) rfl
  have hn := h.nums
  go_enter Try.func101, Try.ntmps101
  go_wp2_with fail
  go_ret
  exact ⟨by simp, rfl⟩
theorem near_list_out (w : World) (nb lb base : Nat) (vs : List Value) (ll : List (List Int)) (cap : Int) (h : NearR w nb lb base vs ll cap) (c : Int) (hc : c < 0 ∨ (ll.length : Int) ≤ c) :
    Calls Try.prog 101 #[.pointer (some ⟨nb, 0, none⟩), .int .i64 c] w fun e w' => e = .returned (.pointer none) ∧ w = w' := by
  have n0 := h.n.cell' (i := 0) rfl
  have hn := h.nums
  by_cases h0 : c < 0
  · go_enter Try.func101, Try.ntmps101
    go_wp2_with fail
    go_ret
    exact ⟨rfl, rfl⟩
  · have h1 : (ll.length : Int) ≤ c := by omega
    go_enter Try.func101, Try.ntmps101
    go_wp2_with fail
    go_ret
    exact ⟨rfl, rfl⟩

theorem near_has (w : World) (nb lb base : Nat) (vs : List Value) (ll : List (List Int)) (cap : Int) (h : NearR w nb lb base vs ll cap) (hb : base ≤ w.heap.size) (x : Int) :
    Calls Try.prog 54 #[.pointer (some ⟨nb, 0, none⟩), .int .i64 x] w fun e w' => e = .returned (.bool (hasIn ll x)) ∧ Ext No w w' := by
  have hmf : ∀ (fn : Fn) (first cap : Array Value) (w : World), (Instr.makeFunc fn first cap).run Try.prog w = .ok (.func fn first cap) w := fun _ _ _ _ => rfl
  have n0 := h.n.cell' (i := 0) rfl
  have hn := h.nums
  have hlt := h.n.lt
  have hxa : Ext No w (w.alloc (.cells #[.int .i64 x] 3)) := (Ext.refl _ _).alloc _
  have hB : Blk (w.alloc (.cells #[.int .i64 x] 3)) w.heap.size [.int .i64 x] 3 := Blk.new _ _ _
  go_enter Try.func54, Try.ntmps54
  go_wp2_with fail
  refine (contains104_spec _ _ ll x _ _ (h.rd.ext hxa (fun _ _ => id) (fun _ _ => id)) w.heap.size (hB.cell' (i := 0) rfl)).mono ?_
  rintro e w1 ⟨rfl, rfl⟩
  go_wp2_with fail
  go_ret
  exact ⟨rfl, hxa⟩

def listIn (ll : List (List Int)) (c : Int) : List Int := if 0 ≤ c ∧ c < ll.length then nth ll c.toNat else []

theorem near_list (w : World) (nb lb base : Nat) (vs : List Value) (ll : List (List Int)) (cap : Int) (h : NearR w nb lb base vs ll cap) (c : Int) (hlen : ∀ l ∈ ll, l.length ≤ 1024) :
    Calls Try.prog 48 #[.pointer (some ⟨nb, 0, none⟩), .int .i64 c] w fun e w' => ∃ r, e = .returned r ∧ w'.ownsRow w.heap.size 3 1 r (listIn ll c).length ((listIn ll c).map int) ∧ Ext No w w' := by
  by_cases hc : 0 ≤ c ∧ c < ll.length
  · have hi : Hid (listIn ll c = nth ll c.toNat) := by show _ = _; unfold listIn; rw [if_pos hc]
    obtain ⟨k, rfl⟩ : ∃ k : Nat, c = (k : Int) := ⟨c.toNat, by omega⟩
    have hk : k < ll.length := by omega
    have hl := hlen (nth ll k) (by rw [nth_eq hk]; exact List.getElem_mem _)
    obtain ⟨av, cv, ev, hcv⟩ := ownsRow_val (h.rows k hk)
    have hrow := h.rows k hk
    rw [ev] at hrow
    have c0 := h.l.cell' (i := k) (v := nth vs k) (nth_some (by rw [h.len]; exact hk))
    rw [ev] at c0
    clear hc hlen ev
    go_enter Try.func48, Try.ntmps48
    go_wp2_with fail
    refine (near_list_at w nb lb base vs ll cap h k hk).mono ?_
    rintro e w1 ⟨rfl, rfl⟩
    go_wp2_with fail
    refine (clone102_spec _ _ (nth ll k) _ (Rd.of_own hrow) (by omega)).mono ?_
    rintro e w2 ⟨r, rfl, ho, hx⟩
    go_wp2_with fail
    go_ret
    rw [hi.out]
    exact ⟨_, rfl, ho, hx⟩
  · have hi : Hid (listIn ll c = []) := by show _ = _; unfold listIn; rw [if_neg hc]
    have hc' : c < 0 ∨ (ll.length : Int) ≤ c := by omega
    clear hc
    go_enter Try.func48, Try.ntmps48
    go_wp2_with fail
    refine (near_list_out w nb lb base vs ll cap h c hc').mono ?_
    rintro e w1 ⟨rfl, rfl⟩
    go_wp2_with fail
    go_ret
    rw [hi.out]
    exact ⟨_, rfl, World.ownsRow_nil _ _ _ _, Ext.refl _ _⟩
end Go.Proofs.Ytjkknjohmekeiaa
