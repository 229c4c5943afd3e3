/- Near pages: Take and Drain. No condition. -/
import Derived.Test.YtjkknjohmekeiaaNearB
namespace Go.Proofs.Ytjkknjohmekeiaa
open Go.RowKit

/-- One list stored anew: the near pages behind it. -/
theorem NearR.put {w : World} {nb lb base : Nat} {vs : List Value} {ll : List (List Int)} {cap : Int} {T : TypeId} (h : NearR w nb lb base vs ll cap T) (k : Nat) (hk : k < ll.length) (v : Value) (l : List Int)
    (hv : w.ownsRow base 3 1 v l.length (l.map int)) (hap : ∀ j x, j < ll.length → j ≠ k → OwnOf v x → ¬ OwnOf (nth vs j) x) : NearR (w.setCell ⟨lb, k, none⟩ v) nb lb base (vs.set k v) (ll.set k l) cap T := by
  have hn := h.nums
  have hx : Ext (One lb) w (w.setCell ⟨lb, k, none⟩ v) := Ext.set1 _ _ _ _
  have hlen := h.len
  have hS : ∀ {u : Value} {n : Nat} {xs : List Value}, w.ownsRow base 3 1 u n xs → (w.setCell ⟨lb, k, none⟩ v).ownsRow base 3 1 u n xs := fun ho => ownsRow_ext ho hx (fun x hx' (e : x = lb) => by have := (ho.lt x hx').1; omega)
  have hne : ∀ {α : Type} [Inhabited α] (xs : List α) (y : α) (i : Nat), i < xs.length → i ≠ k → nth (xs.set k y) i = nth xs i := fun xs y i hi hik => by
    rw [nth_eq (by simpa using hi), nth_eq hi, List.getElem_set_ne (fun e => hik e.symm)]
  have heq : ∀ {α : Type} [Inhabited α] (xs : List α) (y : α), k < xs.length → nth (xs.set k y) k = y := fun xs y hi => by
    rw [nth_eq (by simpa using hi)]; simp
  refine ⟨?_, h.l.set k v, by simp [hlen], fun i hi => ?_, fun i j x hi hj h1 h2 => ?_, ?_⟩
  · rw [List.length_set]; exact h.n.ext hx (fun e : nb = lb => hn.1 e)
  · rw [List.length_set] at hi
    by_cases hik : i = k
    · subst hik
      rw [heq _ _ (by omega), heq _ _ hi]; exact hS hv
    · rw [hne _ _ _ (by omega) hik, hne _ _ _ hi hik]; exact hS (h.rows i hi)
  · rw [List.length_set] at hi hj
    by_cases hik : i = k
    · by_cases hjk : j = k
      · omega
      · subst hik
        rw [heq _ _ (by omega)] at h1
        rw [hne _ _ _ (by omega) hjk] at h2
        exact absurd h2 (hap j x hj hjk h1)
    · by_cases hjk : j = k
      · subst hjk
        rw [heq _ _ (by omega)] at h2
        rw [hne _ _ _ (by omega) hik] at h1
        exact absurd h1 (hap i x hi hik h2)
      · rw [hne _ _ _ (by omega) hik] at h1
        rw [hne _ _ _ (by omega) hjk] at h2
        exact h.apart i j x hi hj h1 h2
  · rw [List.length_set]; exact hn

/-- The same behind something that may have written the old list's block. -/
theorem NearR.put2 {w w2 : World} {nb lb base : Nat} {vs : List Value} {ll : List (List Int)} {cap : Int} {T : TypeId} (h : NearR w nb lb base vs ll cap T) (k : Nat) (hk : k < ll.length) (v : Value) (l : List Int)
    (hx0 : Ext (OwnOf (nth vs k)) w w2) (hv : w2.ownsRow base 3 1 v l.length (l.map int)) (hap : ∀ j x, j < ll.length → j ≠ k → OwnOf v x → ¬ OwnOf (nth vs j) x) : NearR (w2.setCell ⟨lb, k, none⟩ v) nb lb base (vs.set k v) (ll.set k l) cap T := by
  have hn := h.nums
  have hx : Ext (One lb) w2 (w2.setCell ⟨lb, k, none⟩ v) := Ext.set1 _ _ _ _
  have hob : ∀ x, OwnOf (nth vs k) x → base ≤ x := fun x hx' => ((h.rows k hk).lt x hx').1
  have hlen := h.len
  have hS : ∀ {u : Value} {n : Nat} {xs : List Value}, w2.ownsRow base 3 1 u n xs → (w2.setCell ⟨lb, k, none⟩ v).ownsRow base 3 1 u n xs := fun ho => ownsRow_ext ho hx (fun x hx' (e : x = lb) => by have := (ho.lt x hx').1; omega)
  have hne : ∀ {α : Type} [Inhabited α] (xs : List α) (y : α) (i : Nat), i < xs.length → i ≠ k → nth (xs.set k y) i = nth xs i := fun xs y i hi hik => by
    rw [nth_eq (by simpa using hi), nth_eq hi, List.getElem_set_ne (fun e => hik e.symm)]
  have heq : ∀ {α : Type} [Inhabited α] (xs : List α) (y : α), k < xs.length → nth (xs.set k y) k = y := fun xs y hi => by
    rw [nth_eq (by simpa using hi)]; simp
  refine ⟨?_, (h.l.ext hx0 (fun ho => by have := hob _ ho; omega)).set k v, by simp [hlen], fun i hi => ?_, fun i j x hi hj h1 h2 => ?_, ?_⟩
  · rw [List.length_set]; exact (h.n.ext hx0 (fun ho => by have := hob _ ho; omega)).ext hx (fun e : nb = lb => hn.1 e)
  · rw [List.length_set] at hi
    by_cases hik : i = k
    · subst hik
      rw [heq _ _ (by omega), heq _ _ hi]; exact hS hv
    · rw [hne _ _ _ (by omega) hik, hne _ _ _ hi hik]; exact hS (ownsRow_ext (h.rows i hi) hx0 (fun x hx' hs => hik (h.apart i k x hi hk hx' hs)))
  · rw [List.length_set] at hi hj
    by_cases hik : i = k
    · by_cases hjk : j = k
      · omega
      · subst hik
        rw [heq _ _ (by omega)] at h1
        rw [hne _ _ _ (by omega) hjk] at h2
        exact absurd h2 (hap j x hj hjk h1)
    · by_cases hjk : j = k
      · subst hjk
        rw [heq _ _ (by omega)] at h2
        rw [hne _ _ _ (by omega) hik] at h1
        exact absurd h1 (hap i x hi hik h2)
      · rw [hne _ _ _ (by omega) hik] at h1
        rw [hne _ _ _ (by omega) hjk] at h2
        exact h.apart i j x hi hj h1 h2
  · rw [List.length_set]; exact hn

theorem near_drain (w : World) (nb lb base : Nat) (vs : List Value) (ll : List (List Int)) (cap : Int) (h : NearR w nb lb base vs ll cap) (c : Nat) (hc : c < ll.length) :
    Calls Try.prog 53 #[.pointer (some ⟨nb, 0, none⟩), .int .i64 c] w fun e w' => e = .returned (nth vs c) ∧ w' = w.setCell ⟨lb, c, none⟩ (.slice none 0 0) ∧
      NearR w' nb lb base (vs.set c (.slice none 0 0)) (ll.set c []) cap ∧ w'.ownsRow base 3 1 (nth vs c) (nth ll c).length ((nth ll c).map int) := by
  have hrow := h.rows c hc
  obtain ⟨av, cv, ev, hcv⟩ := ownsRow_val hrow
  have hput := Lib.hid (h.put c hc (.slice none 0 0) [] (World.ownsRow_nil _ _ _ _) (fun j x _ _ ho => by simp [OwnOf, Value.ownBlock] at ho))
  have hrow' := Lib.hid (ownsRow_ext hrow (Ext.set1 w lb c (.slice none 0 0)) (fun x hx (e : x = lb) => by have := (hrow.lt x hx).1; have := h.nums; omega))
  have c0 := h.l.cell' (i := c) (v := nth vs c) (nth_some (by rw [h.len]; exact hc))
  have f0 := h.l.frozen c
  rw [ev] at c0 hrow' ⊢
  clear hrow ev
  go_enter Try.func53, Try.ntmps53
  go_wp2_with fail
  refine (near_list_at w nb lb base vs ll cap h c hc).mono ?_
  rintro e w1 ⟨rfl, rfl⟩
  go_wp2_with fail
  go_ret
  exact ⟨rfl, rfl, hput.out, hrow'.out⟩
theorem near_drain_out (w : World) (nb lb base : Nat) (vs : List Value) (ll : List (List Int)) (cap : Int) (h : NearR w nb lb base vs ll cap) (c : Int) (hc : c < 0 ∨ (ll.length : Int) ≤ c) :
    Calls Try.prog 53 #[.pointer (some ⟨nb, 0, none⟩), .int .i64 c] w fun e w' => e = .returned (.slice none 0 0) ∧ w = w' := by
  go_enter Try.func53, Try.ntmps53
  go_wp2_with fail
  refine (near_list_out w nb lb base vs ll cap h c hc).mono ?_
  rintro e w1 ⟨rfl, rfl⟩
  go_wp2_with fail
  go_ret
  exact ⟨rfl, rfl⟩

theorem nth_map {α β : Type} [Inhabited α] [Inhabited β] (f : α → β) {l : List α} {n : Nat} (h : n < l.length) : nth (l.map f) n = f (nth l n) := by
  rw [nth_eq (l := l.map f) (by simpa using h), nth_eq (l := l) h, List.getElem_map]
theorem own_shrink {w : World} {base e n m cap : Nat} {a : Option Addr} {xs : List Value} (h : w.ownsRow base e 1 (.slice a n cap) n xs) (hm : m ≤ n) (ha : a ≠ none) : w.ownsRow base e 1 (.slice a m cap) m (xs.take m) := by
  obtain ⟨hl, ⟨e1, _⟩ | ⟨g, cap', cur, e1, hb, hg, hn, hc, hs, ht⟩⟩ := h
  · cases e1; exact absurd rfl ha
  · cases e1
    refine ⟨by simp at hl ⊢; omega, .inr ⟨g, cap, cur, rfl, hb, hg, by omega, hc, hs, ?_⟩⟩
    rw [← ht, List.take_take]
    congr 1
    simp; omega

theorem near_take_empty (w : World) (nb lb base : Nat) (vs : List Value) (ll : List (List Int)) (cap : Int) (h : NearR w nb lb base vs ll cap) (c : Nat) (hc : c < ll.length) (hz : nth ll c = []) :
    Calls Try.prog 52 #[.pointer (some ⟨nb, 0, none⟩), .int .i64 c] w fun e w' => e = .returned (.tuple #[.int .i64 0, .bool false]) ∧ w = w' := by
  have hrow := h.rows c hc
  rw [hz] at hrow
  obtain ⟨av, cv, ev, hcv⟩ := ownsRow_val hrow
  have c0 := h.l.cell' (i := c) (v := nth vs c) (nth_some (by rw [h.len]; exact hc))
  rw [ev] at c0
  simp only [List.length_nil] at c0
  clear hrow ev hz
  go_enter Try.func52, Try.ntmps52
  go_wp2_with fail
  refine (near_list_at w nb lb base vs ll cap h c hc).mono ?_
  rintro e w1 ⟨rfl, rfl⟩
  go_wp2_with fail
  go_ret2
  exact ⟨rfl, rfl⟩

theorem near_take_at (w : World) (nb lb base : Nat) (vs : List Value) (ll : List (List Int)) (cap : Int) (h : NearR w nb lb base vs ll cap) (c : Nat) (hc : c < ll.length) (n : Nat) (hz : (nth ll c).length = n + 1) (hbig : n < 4611686018427387904) :
    Calls Try.prog 52 #[.pointer (some ⟨nb, 0, none⟩), .int .i64 c] w fun e w' => e = .returned (.tuple #[.int .i64 (nth (nth ll c) n), .bool true]) ∧
      ∃ v', w' = w.setCell ⟨lb, c, none⟩ v' ∧ NearR w' nb lb base (vs.set c v') (ll.set c ((nth ll c).take n)) cap ∧ ∀ x, OwnOf v' x → OwnOf (nth vs c) x := by
  have hrow := h.rows c hc
  rw [hz] at hrow
  obtain ⟨b, cv, ev, hcv, hcv2, hob, hbw, hcell, hfr, _⟩ := own_at (k := n) hrow (by omega)
  have e1 : nth ((nth ll c).map int) n = int (nth (nth ll c) n) := nth_map int (by omega)
  rw [e1] at hcell
  simp only [int] at hcell
  rw [ev] at hrow
  have hsh := own_shrink hrow (m := n) (by omega) (by simp)
  have e2 : ((nth ll c).map int).take n = ((nth ll c).take n).map int := by rw [List.map_take]
  have e3 : ((nth ll c).take n).length = n := by simp; omega
  rw [e2] at hsh
  have hput := Lib.hid (h.put c hc (.slice (some ⟨b, 0, none⟩) n cv) ((nth ll c).take n) (by rw [e3]; exact hsh) (fun j x hj hjc ho ho2 => hjc (h.apart j c x hj hc ho2 (by rw [ev]; exact ho))))
  have c0 := h.l.cell' (i := c) (v := nth vs c) (nth_some (by rw [h.len]; exact hc))
  have f0 := h.l.frozen c
  rw [ev] at c0 hob ⊢
  clear hrow ev hsh e1 e2 e3 hz
  go_enter Try.func52, Try.ntmps52
  go_wp2_with fail
  refine (near_list_at w nb lb base vs ll cap h c hc).mono ?_
  rintro e w1 ⟨rfl, rfl⟩
  go_wp2_with fail
  go_ret2
  exact ⟨rfl, _, rfl, hput.out, fun x hx => hx⟩

theorem near_take_none (w : World) (nb lb base : Nat) (vs : List Value) (ll : List (List Int)) (cap : Int) (h : NearR w nb lb base vs ll cap) (c : Int) (hc : c < 0 ∨ (ll.length : Int) ≤ c) :
    Calls Try.prog 52 #[.pointer (some ⟨nb, 0, none⟩), .int .i64 c] w fun e w' => e = .returned (.tuple #[.int .i64 0, .bool false]) ∧ w = w' := by
  go_enter Try.func52, Try.ntmps52
  go_wp2_with fail
  refine (near_list_out w nb lb base vs ll cap h c hc).mono ?_
  rintro e w1 ⟨rfl, rfl⟩
  go_wp2_with fail
  go_ret2
  exact ⟨rfl, rfl⟩
end Go.Proofs.Ytjkknjohmekeiaa
