/- Texts of ours, one behind the other (NearC, NearD, NearE, NearF, NearG, LawA, NearH, BuddyG): each says in its own first lines what it proves. No condition. -/
import Derived.Test.YtjkknjohmekeiaaPackE
/- Near pages: Take and Drain. No condition. -/
namespace Go.Proofs.Ytjkknjohmekeiaa
open Go.RowKit

/-- One list stored anew: the near pages behind it. -/
theorem NearR.put {w : World} {nb lb base : Nat} {vs : List Value} {ll : List (List Int)} {cap : Int} {T : TypeId} (h : NearR w nb lb base vs ll cap T) (k : Nat) (hk : k < ll.length) (v : Value) (l : List Int)
    (hv : w.ownsRow base 3 1 v l.length (l.map int)) (hap : ∀ j x, j < ll.length → j ≠ k → OwnOf v x → ¬ OwnOf (nth vs j) x) : NearR (w.setCell ⟨lb, k, none⟩ v) nb lb base (vs.set k v) (ll.set k l) cap T := by
  have hn := h.nums
  have hx : Ext (One lb) w (w.setCell ⟨lb, k, none⟩ v) := Ext.set1 _ _ _ _
  have hlen := h.len
  have hS : ∀ {u : Value} {n : Nat} {xs : List Value}, w.ownsRow base 3 1 u n xs → (w.setCell ⟨lb, k, none⟩ v).ownsRow base 3 1 u n xs := fun ho => ownsRow_ext ho hx (fun x hx' (e : x = lb) => by have := (ho.lt x hx').1; omega)
  have hne : ∀ {α : Type} [Inhabited α] (xs : List α) (y : α) (i : Nat), i < xs.length → i ≠ k → nth (xs.set k y) i = nth xs i := fun xs y i hi hik => by
    rw [nth_eq (by simpa using hi), nth_eq hi, List.getElem_set_ne (fun e => hik e.symm)]
  have heq : ∀ {α : Type} [Inhabited α] (xs : List α) (y : α), k < xs.length → nth (xs.set k y) k = y := fun xs y hi => by
    rw [nth_eq (by simpa using hi)]; simp
  refine ⟨?_, h.l.set k v, by simp [hlen], fun i hi => ?_, fun i j x hi hj h1 h2 => ?_, ?_⟩
  · rw [List.length_set]; exact h.n.ext hx (fun e : nb = lb => hn.1 e)
  · rw [List.length_set] at hi
    by_cases hik : i = k
    · subst hik
      rw [heq _ _ (by omega), heq _ _ hi]; exact hS hv
    · rw [hne _ _ _ (by omega) hik, hne _ _ _ hi hik]; exact hS (h.rows i hi)
  · rw [List.length_set] at hi hj
    by_cases hik : i = k
    · by_cases hjk : j = k
      · omega
      · subst hik
        rw [heq _ _ (by omega)] at h1
        rw [hne _ _ _ (by omega) hjk] at h2
        exact absurd h2 (hap j x hj hjk h1)
    · by_cases hjk : j = k
      · subst hjk
        rw [heq _ _ (by omega)] at h2
        rw [hne _ _ _ (by omega) hik] at h1
        exact absurd h1 (hap i x hi hik h2)
      · rw [hne _ _ _ (by omega) hik] at h1
        rw [hne _ _ _ (by omega) hjk] at h2
        exact h.apart i j x hi hj h1 h2
  · rw [List.length_set]; exact hn

/-- The same behind something that may have written the old list's block. -/
theorem NearR.put2 {w w2 : World} {nb lb base : Nat} {vs : List Value} {ll : List (List Int)} {cap : Int} {T : TypeId} (h : NearR w nb lb base vs ll cap T) (k : Nat) (hk : k < ll.length) (v : Value) (l : List Int)
    (hx0 : Ext (OwnOf (nth vs k)) w w2) (hv : w2.ownsRow base 3 1 v l.length (l.map int)) (hap : ∀ j x, j < ll.length → j ≠ k → OwnOf v x → ¬ OwnOf (nth vs j) x) : NearR (w2.setCell ⟨lb, k, none⟩ v) nb lb base (vs.set k v) (ll.set k l) cap T := by
  have hn := h.nums
  have hx : Ext (One lb) w2 (w2.setCell ⟨lb, k, none⟩ v) := Ext.set1 _ _ _ _
  have hob : ∀ x, OwnOf (nth vs k) x → base ≤ x := fun x hx' => ((h.rows k hk).lt x hx').1
  have hlen := h.len
  have hS : ∀ {u : Value} {n : Nat} {xs : List Value}, w2.ownsRow base 3 1 u n xs → (w2.setCell ⟨lb, k, none⟩ v).ownsRow base 3 1 u n xs := fun ho => ownsRow_ext ho hx (fun x hx' (e : x = lb) => by have := (ho.lt x hx').1; omega)
  have hne : ∀ {α : Type} [Inhabited α] (xs : List α) (y : α) (i : Nat), i < xs.length → i ≠ k → nth (xs.set k y) i = nth xs i := fun xs y i hi hik => by
    rw [nth_eq (by simpa using hi), nth_eq hi, List.getElem_set_ne (fun e => hik e.symm)]
  have heq : ∀ {α : Type} [Inhabited α] (xs : List α) (y : α), k < xs.length → nth (xs.set k y) k = y := fun xs y hi => by
    rw [nth_eq (by simpa using hi)]; simp
  refine ⟨?_, (h.l.ext hx0 (fun ho => by have := hob _ ho; omega)).set k v, by simp [hlen], fun i hi => ?_, fun i j x hi hj h1 h2 => ?_, ?_⟩
  · rw [List.length_set]; exact (h.n.ext hx0 (fun ho => by have := hob _ ho; omega)).ext hx (fun e : nb = lb => hn.1 e)
  · rw [List.length_set] at hi
    by_cases hik : i = k
    · subst hik
      rw [heq _ _ (by omega), heq _ _ hi]; exact hS hv
    · rw [hne _ _ _ (by omega) hik, hne _ _ _ hi hik]; exact hS (ownsRow_ext (h.rows i hi) hx0 (fun x hx' hs => hik (h.apart i k x hi hk hx' hs)))
  · rw [List.length_set] at hi hj
    by_cases hik : i = k
    · by_cases hjk : j = k
      · omega
      · subst hik
        rw [heq _ _ (by omega)] at h1
        rw [hne _ _ _ (by omega) hjk] at h2
        exact absurd h2 (hap j x hj hjk h1)
    · by_cases hjk : j = k
      · subst hjk
        rw [heq _ _ (by omega)] at h2
        rw [hne _ _ _ (by omega) hik] at h1
        exact absurd h1 (hap i x hi hik h2)
      · rw [hne _ _ _ (by omega) hik] at h1
        rw [hne _ _ _ (by omega) hjk] at h2
        exact h.apart i j x hi hj h1 h2
  · rw [List.length_set]; exact hn

theorem near_drain (w : World) (nb lb base : Nat) (vs : List Value) (ll : List (List Int)) (cap : Int) (h : NearR w nb lb base vs ll cap) (c : Nat) (hc : c < ll.length) :
    Calls Try.prog 53 #[.pointer (some ⟨nb, 0, none⟩), .int .i64 c] w fun e w' => e = .returned (nth vs c) ∧ w' = w.setCell ⟨lb, c, none⟩ (.slice none 0 0) ∧
      NearR w' nb lb base (vs.set c (.slice none 0 0)) (ll.set c []) cap ∧ w'.ownsRow base 3 1 (nth vs c) (nth ll c).length ((nth ll c).map int) := by
  have hrow := h.rows c hc
  obtain ⟨av, cv, ev, hcv⟩ := ownsRow_val hrow
  have hput := Lib.hid (h.put c hc (.slice none 0 0) [] (World.ownsRow_nil _ _ _ _) (fun j x _ _ ho => by simp [OwnOf, Value.ownBlock] at ho))
  have hrow' := Lib.hid (ownsRow_ext hrow (Ext.set1 w lb c (.slice none 0 0)) (fun x hx (e : x = lb) => by have := (hrow.lt x hx).1; have := h.nums; omega))
  have c0 := h.l.cell' (i := c) (v := nth vs c) (nth_some (by rw [h.len]; exact hc))
  have f0 := h.l.frozen c
  rw [ev] at c0 hrow' ⊢
  clear hrow ev
  go_enter Try.func53, Try.ntmps53
  go_wp2_with fail
  refine (near_list_at w nb lb base vs ll cap h c hc).mono ?_
  rintro e w1 ⟨rfl, rfl⟩
  go_wp2_with fail
  go_ret
  exact ⟨rfl, rfl, hput.out, hrow'.out⟩
theorem near_drain_out (w : World) (nb lb base : Nat) (vs : List Value) (ll : List (List Int)) (cap : Int) (h : NearR w nb lb base vs ll cap) (c : Int) (hc : c < 0 ∨ (ll.length : Int) ≤ c) :
    Calls Try.prog 53 #[.pointer (some ⟨nb, 0, none⟩), .int .i64 c] w fun e w' => e = .returned (.slice none 0 0) ∧ w = w' := by
  go_enter Try.func53, Try.ntmps53
  go_wp2_with fail
  refine (near_list_out w nb lb base vs ll cap h c hc).mono ?_
  rintro e w1 ⟨rfl, rfl⟩
  go_wp2_with fail
  go_ret
  exact ⟨rfl, rfl⟩

theorem nth_map {α β : Type} [Inhabited α] [Inhabited β] (f : α → β) {l : List α} {n : Nat} (h : n < l.length) : nth (l.map f) n = f (nth l n) := by
  rw [nth_eq (l := l.map f) (by simpa using h), nth_eq (l := l) h, List.getElem_map]
theorem own_shrink {w : World} {base e n m cap : Nat} {a : Option Addr} {xs : List Value} (h : w.ownsRow base e 1 (.slice a n cap) n xs) (hm : m ≤ n) (ha : a ≠ none) : w.ownsRow base e 1 (.slice a m cap) m (xs.take m) := by
  obtain ⟨hl, ⟨e1, _⟩ | ⟨g, cap', cur, e1, hb, hg, hn, hc, hs, ht⟩⟩ := h
  · cases e1; exact absurd rfl ha
  · cases e1
    refine ⟨by simp at hl ⊢; omega, .inr ⟨g, cap, cur, rfl, hb, hg, by omega, hc, hs, ?_⟩⟩
    rw [← ht, List.take_take]
    congr 1
    simp; omega

theorem near_take_empty (w : World) (nb lb base : Nat) (vs : List Value) (ll : List (List Int)) (cap : Int) (h : NearR w nb lb base vs ll cap) (c : Nat) (hc : c < ll.length) (hz : nth ll c = []) :
    Calls Try.prog 52 #[.pointer (some ⟨nb, 0, none⟩), .int .i64 c] w fun e w' => e = .returned (.tuple #[.int .i64 0, .bool false]) ∧ w = w' := by
  have hrow := h.rows c hc
  rw [hz] at hrow
  obtain ⟨av, cv, ev, hcv⟩ := ownsRow_val hrow
  have c0 := h.l.cell' (i := c) (v := nth vs c) (nth_some (by rw [h.len]; exact hc))
  rw [ev] at c0
  simp only [List.length_nil] at c0
  clear hrow ev hz
  go_enter Try.func52, Try.ntmps52
  go_wp2_with fail
  refine (near_list_at w nb lb base vs ll cap h c hc).mono ?_
  rintro e w1 ⟨rfl, rfl⟩
  go_wp2_with fail
  go_ret2
  exact ⟨rfl, rfl⟩

theorem near_take_at (w : World) (nb lb base : Nat) (vs : List Value) (ll : List (List Int)) (cap : Int) (h : NearR w nb lb base vs ll cap) (c : Nat) (hc : c < ll.length) (n : Nat) (hz : (nth ll c).length = n + 1) (hbig : n < 4611686018427387904) :
    Calls Try.prog 52 #[.pointer (some ⟨nb, 0, none⟩), .int .i64 c] w fun e w' => e = .returned (.tuple #[.int .i64 (nth (nth ll c) n), .bool true]) ∧
      ∃ v', w' = w.setCell ⟨lb, c, none⟩ v' ∧ NearR w' nb lb base (vs.set c v') (ll.set c ((nth ll c).take n)) cap ∧ ∀ x, OwnOf v' x → OwnOf (nth vs c) x := by
  have hrow := h.rows c hc
  rw [hz] at hrow
  obtain ⟨b, cv, ev, hcv, hcv2, hob, hbw, hcell, hfr, _⟩ := own_at (k := n) hrow (by omega)
  have e1 : nth ((nth ll c).map int) n = int (nth (nth ll c) n) := nth_map int (by omega)
  rw [e1] at hcell
  simp only [int] at hcell
  rw [ev] at hrow
  have hsh := own_shrink hrow (m := n) (by omega) (by simp)
  have e2 : ((nth ll c).map int).take n = ((nth ll c).take n).map int := by rw [List.map_take]
  have e3 : ((nth ll c).take n).length = n := by simp; omega
  rw [e2] at hsh
  have hput := Lib.hid (h.put c hc (.slice (some ⟨b, 0, none⟩) n cv) ((nth ll c).take n) (by rw [e3]; exact hsh) (fun j x hj hjc ho ho2 => hjc (h.apart j c x hj hc ho2 (by rw [ev]; exact ho))))
  have c0 := h.l.cell' (i := c) (v := nth vs c) (nth_some (by rw [h.len]; exact hc))
  have f0 := h.l.frozen c
  rw [ev] at c0 hob ⊢
  clear hrow ev hsh e1 e2 e3 hz
  go_enter Try.func52, Try.ntmps52
  go_wp2_with fail
  refine (near_list_at w nb lb base vs ll cap h c hc).mono ?_
  rintro e w1 ⟨rfl, rfl⟩
  go_wp2_with fail
  go_ret2
  exact ⟨rfl, _, rfl, hput.out, fun x hx => hx⟩

theorem near_take_none (w : World) (nb lb base : Nat) (vs : List Value) (ll : List (List Int)) (cap : Int) (h : NearR w nb lb base vs ll cap) (c : Int) (hc : c < 0 ∨ (ll.length : Int) ≤ c) :
    Calls Try.prog 52 #[.pointer (some ⟨nb, 0, none⟩), .int .i64 c] w fun e w' => e = .returned (.tuple #[.int .i64 0, .bool false]) ∧ w = w' := by
  go_enter Try.func52, Try.ntmps52
  go_wp2_with fail
  refine (near_list_out w nb lb base vs ll cap h c hc).mono ?_
  rintro e w1 ⟨rfl, rfl⟩
  go_wp2_with fail
  go_ret2
  exact ⟨rfl, rfl⟩
end Go.Proofs.Ytjkknjohmekeiaa
/- Near pages: Put. No condition but that a list is no longer than 1024. -/
namespace Go.Proofs.Ytjkknjohmekeiaa
open Go.RowKit

set_option maxRecDepth 100000 in
set_option maxHeartbeats 800000 in
theorem near_put_range (w : World) (nb lb base : Nat) (vs : List Value) (ll : List (List Int)) (cap : Int) (h : NearR w nb lb base vs ll cap) (h0 : 0 < ll.length) (c page : Int) (hc : c < 0 ∨ (ll.length : Int) ≤ c) :
    Calls Try.prog 51 #[.pointer (some ⟨nb, 0, none⟩), .int .i64 c, .int .i64 page] w fun e w' => e = .returned (.tuple #[.slice none 0 0, .int .i64 9]) ∧ w = w' := by
  have n0 := h.n.cell' (i := 0) rfl
  have hz : ((ll.length : Int) == 0) = false := by rw [beq_eq_false_iff_ne]; omega
  go_enter Try.func51, Try.ntmps51
  go_wp2_with fail
  refine (near_list_out w nb lb base vs ll cap h c hc).mono ?_
  rintro e w1 ⟨rfl, rfl⟩
  go_wp2_with fail
  go_ret2
  exact ⟨rfl, rfl⟩

set_option maxRecDepth 100000 in
set_option maxHeartbeats 800000 in
theorem near_put_has (w : World) (nb lb base : Nat) (vs : List Value) (ll : List (List Int)) (cap : Int) (h : NearR w nb lb base vs ll cap) (hb : base ≤ w.heap.size) (c : Nat) (hc : c < ll.length) (page : Int) (hp0 : 0 ≤ page) (hp1 : page < 1024) (hh : hasIn ll page = true) :
    Calls Try.prog 51 #[.pointer (some ⟨nb, 0, none⟩), .int .i64 c, .int .i64 page] w fun e w' => e = .returned (.tuple #[.slice none 0 0, .int .i64 60]) ∧ Ext No w w' := by
  have n0 := h.n.cell' (i := 0) rfl
  have hz : ((ll.length : Int) == 0) = false := by rw [beq_eq_false_iff_ne]; omega
  go_enter Try.func51, Try.ntmps51
  go_wp2_with fail
  refine (near_list_at w nb lb base vs ll cap h c hc).mono ?_
  rintro e w1 ⟨rfl, rfl⟩
  go_wp2_with fail
  refine (near_has w nb lb base vs ll cap h hb page).mono ?_
  rintro e w1 ⟨rfl, hx⟩
  rw [hh]
  go_wp2_with fail
  go_ret2
  exact ⟨rfl, hx⟩

set_option maxRecDepth 100000 in
set_option maxHeartbeats 800000 in
theorem near_put_page (w : World) (nb lb base : Nat) (vs : List Value) (ll : List (List Int)) (cap : Int) (h : NearR w nb lb base vs ll cap) (c : Nat) (hc : c < ll.length) (page : Int) (hp : page < 0 ∨ 1024 ≤ page) :
    Calls Try.prog 51 #[.pointer (some ⟨nb, 0, none⟩), .int .i64 c, .int .i64 page] w fun e w' => e = .returned (.tuple #[.slice none 0 0, .int .i64 9]) ∧ w = w' := by
  have n0 := h.n.cell' (i := 0) rfl
  have hz : ((ll.length : Int) == 0) = false := by rw [beq_eq_false_iff_ne]; omega
  by_cases h0 : page < 0
  · go_enter Try.func51, Try.ntmps51
    go_wp2_with fail
    refine (near_list_at w nb lb base vs ll cap h c hc).mono ?_
    rintro e w1 ⟨rfl, rfl⟩
    go_wp2_with fail
    go_ret2
    exact ⟨rfl, rfl⟩
  · have h1 : 1024 ≤ page := by omega
    go_enter Try.func51, Try.ntmps51
    go_wp2_with fail
    refine (near_list_at w nb lb base vs ll cap h c hc).mono ?_
    rintro e w1 ⟨rfl, rfl⟩
    go_wp2_with fail
    go_ret2
    exact ⟨rfl, rfl⟩

theorem own_sub {w : World} {base e n cap k : Nat} {a : Option Addr} {xs : List Int} (h : w.ownsRow base e 1 (.slice a n cap) n (xs.map int)) (hk : k < n) :
    ∃ b, a = some ⟨b, 0, none⟩ ∧ OwnOf (.slice a n cap) b ∧ n ≤ cap ∧ RdI (One b) w (.slice (some ⟨b, k, none⟩) (n - k) (cap - k)) (xs.drop k) := by
  obtain ⟨b, cap', ev, h1, h2, h3, h4, _⟩ := own_at h hk
  cases ev
  have hl : xs.length = n := by have := h.1; simpa using this
  refine ⟨b, rfl, h3, h1, ?_⟩
  have e1 : (xs.drop k).length = n - k := by simp [hl]
  unfold RdI
  rw [e1]
  refine ⟨_, _, rfl, by simp [hl], by omega, by unfold maxLen; omega, fun _ => ⟨b, k, rfl, rfl, h4, fun i u hu => ?_⟩⟩
  have hi : i < n - k := by have := (List.getElem?_eq_some_iff.1 hu).1; simp [hl] at this; omega
  obtain ⟨b', cap2, ev2, _, _, _, _, hc, _⟩ := own_at h (k := k + i) (by omega)
  cases ev2
  rw [hc, ← hu, ← nth_some (by simp [hl]; omega)]
  simp [List.getElem?_drop]
end Go.Proofs.Ytjkknjohmekeiaa
/- Near pages: Put that is taken. No condition but that a list is no longer than 1024. -/
namespace Go.Proofs.Ytjkknjohmekeiaa
open Go.RowKit

set_option maxRecDepth 100000 in
set_option maxHeartbeats 800000 in
theorem near_put_fit (w : World) (nb lb base : Nat) (vs : List Value) (ll : List (List Int)) (cap : Int) (h : NearR w nb lb base vs ll cap) (hb : base ≤ w.heap.size) (c : Nat) (hc : c < ll.length) (page : Int) (hp0 : 0 ≤ page) (hp1 : page < 1024) (hh : hasIn ll page = false)
    (hlen : (nth ll c).length ≤ 1024) (hfit : ((nth ll c).length : Int) + 1 ≤ cap) :
    Calls Try.prog 51 #[.pointer (some ⟨nb, 0, none⟩), .int .i64 c, .int .i64 page] w fun e w' => ∃ a, e = .returned (.tuple #[.slice a 0 0, .int .i64 0]) ∧
      (∃ v', NearR w' nb lb base (vs.set c v') (ll.set c (nth ll c ++ [page])) cap ∧ ∀ x, OwnOf v' x → w.heap.size ≤ x) ∧ Ext (NearF nb lb vs) w w' := by
  have n0 := h.n.cell' (i := 0) rfl
  have hz : ((ll.length : Int) == 0) = false := by rw [beq_eq_false_iff_ne]; omega
  have hrow := h.rows c hc
  obtain ⟨av, cv, ev, hcv⟩ := ownsRow_val hrow
  have c0 := h.l.cell' (i := c) (v := nth vs c) (nth_some (by rw [h.len]; exact hc))
  rw [ev] at c0 hrow
  have hn := h.nums
  have hwb : ∀ x, OwnOf (.slice av (nth ll c).length cv) x → base ≤ x := fun x hx => (hrow.lt x hx).1
  go_enter Try.func51, Try.ntmps51
  go_wp2_with fail
  refine (near_list_at w nb lb base vs ll cap h c hc).mono ?_
  rintro e w1 ⟨rfl, rfl⟩
  go_wp2_with fail
  refine (near_has w nb lb base vs ll cap h hb page).mono ?_
  rintro e w2 ⟨rfl, hx2⟩
  rw [hh]
  have c2 := hx2.cell c0 id
  have hrow2 := ownsRow_ext hrow hx2 (fun _ _ => id)
  have hn2 := (h.n.extNo hx2).cell' (i := 1) rfl
  clear hz n0
  go_wp2_with (at_builtin; refine stop_here ?_)
  refine Stop.mk ?_
  have hxa : Ext No w2 (w2.alloc (.cells #[.int .i64 page] 3)) := (Ext.refl _ _).alloc _
  have hz2 := hx2.size
  refine wpList_app (v := .slice av (nth ll c).length cv) (m := 1) ty_int rfl _ _ rfl rfl (ownsRow_ext hrow2 hxa (fun _ _ => id)) rfl (Rd.of_blk (n := 1) (Blk.new' rfl) rfl (by decide)) (by simp [Value.oneCell']) (by omega) (by unfold maxLen; omega) (by simp only [World.size_alloc]; omega) ?_
  intro v' w3 hown3 hx3 hnil hfr3
  obtain ⟨aw, cw, rfl, hcw⟩ := ownsRow_val hown3
  have e7 : (nth ll c).map int ++ [.int .i64 page] = (nth ll c ++ [page]).map int := by simp [int]
  rw [e7] at hown3
  obtain ⟨ab, rfl, hob, hcw2, hsub⟩ := own_sub (k := 0) hown3 (by omega)
  simp only [Nat.sub_zero, List.drop_zero] at hsub
  have hxA : Ext (OwnOf (.slice av (nth ll c).length cv)) w w3 := ((hx2.transNo hxa).of_no).transSame hx3
  have hnb : ¬ OwnOf (.slice av (nth ll c).length cv) nb := fun ho => by have := hwb _ ho; omega
  have hlbn : ¬ OwnOf (.slice av (nth ll c).length cv) lb := fun ho => by have := hwb _ ho; omega
  have n3 := (h.n.ext hxA hnb).cell' (i := 1) rfl
  have n30 := (h.n.ext hxA hnb).cell' (i := 0) rfl
  have hL3 := h.l.ext hxA hlbn
  clear e7 c0 c2 hn2
  go_wp2_with fail
  refine (clone102_spec _ _ (nth ll c ++ [page]) _ hsub (by simp; omega)).mono ?_
  rintro e w4 ⟨r, rfl, ho4, hx4⟩
  obtain ⟨ar, cr, rfl, hcr⟩ := ownsRow_val ho4
  have f4 := (hL3.extNo hx4).frozen c
  have c4 := (hL3.extNo hx4).cell' (i := c) (v := nth vs c) (nth_some (by rw [h.len]; exact hc))
  rw [ev] at c4
  go_wp2_with fail
  go_ret2
  have hx04 : Ext (OwnOf (nth vs c)) w w4 := by rw [ev]; exact hxA.transNo hx4
  have hnew : ∀ x, OwnOf (.slice ar (nth ll c ++ [page]).length cr) x → w.heap.size ≤ x := fun x hx => by have := (ho4.lt x hx).1; have := hxA.size; omega
  have hput := h.put2 c hc (.slice ar (nth ll c ++ [page]).length cr) (nth ll c ++ [page]) hx04 (ownsRow_base ho4 (by have := hxA.size; omega)) (fun j x hj _ ho ho2 => by have := hnew x ho; have := ((h.rows j hj).lt x ho2).2; omega)
  have e1 : (nth ll c ++ [page]).length = (nth ll c).length + 1 := by simp
  refine ⟨some ⟨ab, 0, none⟩, rfl, ⟨.slice ar (nth ll c ++ [page]).length cr, ?_, hnew⟩, ?_⟩
  · rw [e1] at hput ⊢; exact hput
  · exact (hx04.mono (fun x _ ho => .inr (.inr ⟨c, by rw [h.len]; exact hc, ho⟩))).trans (Ext.set1 _ _ _ _) (fun x _ (e : x = lb) => .inr (.inl e))
end Go.Proofs.Ytjkknjohmekeiaa
/- Near pages: Put that gives pages back. No condition but that a list is no longer than 1024. -/
namespace Go.Proofs.Ytjkknjohmekeiaa
open Go.RowKit

theorem own_sub2 {w : World} {base e n cap k : Nat} {a : Option Addr} {xs : List Int} (h : w.ownsRow base e 1 (.slice a n cap) n (xs.map int)) (hn : 0 < n) (hk : k ≤ n) :
    ∃ b, a = some ⟨b, 0, none⟩ ∧ OwnOf (.slice a n cap) b ∧ n ≤ cap ∧ cap ≤ 9223372036854775807 ∧ RdI (One b) w (.slice (some ⟨b, k, none⟩) (n - k) (cap - k)) (xs.drop k) := by
  have hl : xs.length = n := by have := h.1; simpa using this
  rcases Nat.lt_or_ge k n with h1 | h1
  · obtain ⟨b, e1, e2, e3, e4⟩ := own_sub h h1
    obtain ⟨b', cap', ev, _, g2, _⟩ := own_at h hn
    cases ev
    exact ⟨b, e1, e2, e3, g2, e4⟩
  · obtain ⟨b, cap', ev, g1, g2, g3, _⟩ := own_at h hn
    cases ev
    have e0 : k = n := by omega
    subst e0
    refine ⟨b, rfl, g3, g1, g2, ?_⟩
    rw [List.drop_of_length_le (by omega), Nat.sub_self]
    exact ⟨_, _, rfl, by simp, by simp, by unfold maxLen; omega, fun hne => absurd rfl hne⟩

theorem own_blk {w : World} {base e n cap b off : Nat} {xs : List Value} (h : w.ownsRow base e 1 (.slice (some ⟨b, off, none⟩) n cap) n xs) :
    off = 0 ∧ ∃ cs, Blk w b cs e ∧ cs.take n = xs ∧ cs.length = cap ∧ base ≤ b := by
  obtain ⟨hl, ⟨e1, _⟩ | ⟨g, cap', cur, e1, hb, hg, hn, hm, hs, ht⟩⟩ := h
  · cases e1
  · cases e1
    refine ⟨rfl, cur.toList, ?_, by simpa using ht, by simpa using hs, hb⟩
    unfold Blk; rw [hg]

set_option maxRecDepth 100000 in
set_option maxHeartbeats 800000 in
theorem near_put_spill (w : World) (nb lb base : Nat) (vs : List Value) (ll : List (List Int)) (cap : Int) (h : NearR w nb lb base vs ll cap) (hb : base ≤ w.heap.size) (c : Nat) (hc : c < ll.length) (page : Int) (hp0 : 0 ≤ page) (hp1 : page < 1024) (hh : hasIn ll page = false)
    (hlen : (nth ll c).length ≤ 1024) (_hcap : 0 ≤ cap) (hfit : cap < ((nth ll c).length : Int) + 1) (k : Nat) (hk : ((nth ll c).length + 2) / 2 = k) :
    Calls Try.prog 51 #[.pointer (some ⟨nb, 0, none⟩), .int .i64 c, .int .i64 page] w fun e w' => ∃ a cs, e = .returned (.tuple #[.slice (some ⟨a, 0, none⟩) k k, .int .i64 0]) ∧ Blk w' a cs 3 ∧ cs.take k = ((nth ll c ++ [page]).take k).map int ∧ (NearF nb lb vs a ∨ w.heap.size ≤ a) ∧
      (∃ v', NearR w' nb lb base (vs.set c v') (ll.set c ((nth ll c ++ [page]).drop k)) cap ∧ (∀ x, OwnOf v' x → w.heap.size ≤ x) ∧ ¬ NearF nb lb (vs.set c v') a) ∧ Ext (NearF nb lb vs) w w' := by
  have n0 := h.n.cell' (i := 0) rfl
  have hz : ((ll.length : Int) == 0) = false := by rw [beq_eq_false_iff_ne]; omega
  have hrow := h.rows c hc
  obtain ⟨av, cv, ev, hcv⟩ := ownsRow_val hrow
  have c0 := h.l.cell' (i := c) (v := nth vs c) (nth_some (by rw [h.len]; exact hc))
  rw [ev] at c0 hrow
  have hn := h.nums
  have hwb : ∀ x, OwnOf (.slice av (nth ll c).length cv) x → base ≤ x := fun x hx => (hrow.lt x hx).1
  go_enter Try.func51, Try.ntmps51
  go_wp2_with fail
  refine (near_list_at w nb lb base vs ll cap h c hc).mono ?_
  rintro e w1 ⟨rfl, rfl⟩
  go_wp2_with fail
  refine (near_has w nb lb base vs ll cap h hb page).mono ?_
  rintro e w2 ⟨rfl, hx2⟩
  rw [hh]
  have c2 := hx2.cell c0 id
  have hrow2 := ownsRow_ext hrow hx2 (fun _ _ => id)
  have hn2 := (h.n.extNo hx2).cell' (i := 1) rfl
  clear hz n0
  go_wp2_with (at_builtin; refine stop_here ?_)
  refine Stop.mk ?_
  have hxa : Ext No w2 (w2.alloc (.cells #[.int .i64 page] 3)) := (Ext.refl _ _).alloc _
  have hz2 := hx2.size
  refine wpList_app (v := .slice av (nth ll c).length cv) (m := 1) ty_int rfl _ _ rfl rfl (ownsRow_ext hrow2 hxa (fun _ _ => id)) rfl (Rd.of_blk (n := 1) (Blk.new' rfl) rfl (by decide)) (by simp [Value.oneCell']) (by omega) (by unfold maxLen; omega) (by simp only [World.size_alloc]; omega) ?_
  intro v' w3 hown3 hx3 hnil hfr3
  obtain ⟨aw, cw, rfl, hcw⟩ := ownsRow_val hown3
  have e7 : (nth ll c).map int ++ [.int .i64 page] = (nth ll c ++ [page]).map int := by simp [int]
  rw [e7] at hown3
  have hkn : k ≤ (nth ll c).length + 1 := by omega
  obtain ⟨ab, rfl, hob, hcw2, hcw3, hsub⟩ := own_sub2 (k := k) hown3 (by omega) hkn
  have hxA : Ext (OwnOf (.slice av (nth ll c).length cv)) w w3 := ((hx2.transNo hxa).of_no).transSame hx3
  have hnb : ¬ OwnOf (.slice av (nth ll c).length cv) nb := fun ho => by have := hwb _ ho; omega
  have hlbn : ¬ OwnOf (.slice av (nth ll c).length cv) lb := fun ho => by have := hwb _ ho; omega
  have n3 := (h.n.ext hxA hnb).cell' (i := 1) rfl
  have n30 := (h.n.ext hxA hnb).cell' (i := 0) rfl
  have hL3 := h.l.ext hxA hlbn
  obtain ⟨_, cs3, hB3, htk3, _, hbab⟩ := own_blk hown3
  have hB3' := Lib.hid hB3
  have hab3 := hB3.lt
  have htk3' : Hid (cs3.take k = ((nth ll c ++ [page]).take k).map int) := by
    show _ = _
    rw [List.map_take, ← htk3, List.take_take, Nat.min_eq_left (by omega)]
  have hfa := hfr3 ab hob
  have hold : Hid (NearF nb lb vs ab ∨ w.heap.size ≤ ab) := by
    show _ ∨ _
    rcases hfa with h1 | h1
    · exact .inl (.inr (.inr ⟨c, by rw [h.len]; exact hc, by rw [ev]; exact h1⟩))
    · exact .inr (by simp only [World.size_alloc] at h1; omega)
  have hnot : ∀ v', (∀ x, OwnOf v' x → w3.heap.size ≤ x) → ¬ NearF nb lb (vs.set c v') ab := by
    intro v' hv' hN
    rcases hN with e | e | ⟨i, hi, ho⟩
    · omega
    · omega
    · rw [List.length_set] at hi
      by_cases hic : i = c
      · subst hic
        rw [nth_eq (by simpa using hi)] at ho
        simp only [List.getElem_set_self] at ho
        have := hv' _ ho; omega
      · have hi2 : i < ll.length := by rw [← h.len]; exact hi
        rw [nth_eq (by simpa using hi), List.getElem_set_ne (fun e => hic e.symm), ← nth_eq hi] at ho
        rcases hfa with h1 | h1
        · exact hic (h.apart i c ab hi2 hc ho (by rw [ev]; exact h1))
        · have := ((h.rows i hi2).lt ab ho).2; simp only [World.size_alloc] at h1; omega
  clear hB3 htk3 hfa
  have hnot' := Lib.hid hnot; clear hnot
  clear e7 c0 c2 hn2
  by_cases hck : cw = k
  · have hdr : Hid ((nth ll c ++ [page]).drop k = []) := by show _ = _; apply List.drop_of_length_le; simp; omega
    have hck1 : cw - k = 0 := by omega
    have hsubE : RdI (One ab) w3 (.slice (some ⟨ab, 0, none⟩) ((nth ll c).length + 1 - k) 0) ((nth ll c ++ [page]).drop k) := by
      have e0 : ((nth ll c ++ [page]).drop k).length = (nth ll c).length + 1 - k := by simp
      unfold RdI
      rw [e0]
      refine ⟨_, _, rfl, by simp, by omega, by unfold maxLen; omega, fun hne => absurd (by rw [hdr.out]; rfl) hne⟩
    have hck' := Lib.hid hck; clear hck
    go_wp2_with fail
    refine (clone102_spec _ _ ((nth ll c ++ [page]).drop k) _ hsubE (by simp; omega)).mono ?_
    rintro e w4 ⟨r, rfl, ho4, hx4⟩
    obtain ⟨ar, cr, rfl, hcr⟩ := ownsRow_val ho4
    have f4 := (hL3.extNo hx4).frozen c
    have c4 := (hL3.extNo hx4).cell' (i := c) (v := nth vs c) (nth_some (by rw [h.len]; exact hc))
    rw [ev] at c4
    go_wp2_with fail
    go_ret2
    have hx04 : Ext (OwnOf (nth vs c)) w w4 := by rw [ev]; exact hxA.transNo hx4
    have hnew : ∀ x, OwnOf (.slice ar ((nth ll c ++ [page]).drop k).length cr) x → w.heap.size ≤ x := fun x hx => by have := (ho4.lt x hx).1; have := hxA.size; omega
    have hput := h.put2 c hc (.slice ar ((nth ll c ++ [page]).drop k).length cr) ((nth ll c ++ [page]).drop k) hx04 (ownsRow_base ho4 (by have := hxA.size; omega)) (fun j x hj _ ho ho2 => by have := hnew x ho; have := ((h.rows j hj).lt x ho2).2; omega)
    have e1 : ((nth ll c ++ [page]).drop k).length = (nth ll c).length + 1 - k := by simp
    have hset : Ext (One lb) w4 (w4.setCell ⟨lb, c, none⟩ (.slice ar ((nth ll c ++ [page]).drop k).length cr)) := Ext.set1 _ _ _ _
    have hnotv := hnot'.out (.slice ar ((nth ll c ++ [page]).drop k).length cr) (fun x hx => (ho4.lt x hx).1)
    have hBf := (hB3'.out.extNo hx4).ext hset (fun e : ab = lb => by omega)
    refine ⟨ab, cs3, by subst hk; rfl, ?_, htk3'.out, hold.out, ⟨.slice ar ((nth ll c ++ [page]).drop k).length cr, ?_, hnew, hnotv⟩, ?_⟩
    · rw [e1] at hBf; exact hBf
    · rw [e1] at hput ⊢; exact hput
    · exact (hx04.mono (fun x _ ho => .inr (.inr ⟨c, by rw [h.len]; exact hc, ho⟩))).trans (Ext.set1 _ _ _ _) (fun x _ (e : x = lb) => .inr (.inl e))
  have hck2 : 0 < cw - k := by omega
  go_wp2_with fail
  refine (clone102_spec _ _ ((nth ll c ++ [page]).drop k) _ hsub (by simp; omega)).mono ?_
  rintro e w4 ⟨r, rfl, ho4, hx4⟩
  obtain ⟨ar, cr, rfl, hcr⟩ := ownsRow_val ho4
  have f4 := (hL3.extNo hx4).frozen c
  have c4 := (hL3.extNo hx4).cell' (i := c) (v := nth vs c) (nth_some (by rw [h.len]; exact hc))
  rw [ev] at c4
  go_wp2_with fail
  go_ret2
  have hx04 : Ext (OwnOf (nth vs c)) w w4 := by rw [ev]; exact hxA.transNo hx4
  have hnew : ∀ x, OwnOf (.slice ar ((nth ll c ++ [page]).drop k).length cr) x → w.heap.size ≤ x := fun x hx => by have := (ho4.lt x hx).1; have := hxA.size; omega
  have hput := h.put2 c hc (.slice ar ((nth ll c ++ [page]).drop k).length cr) ((nth ll c ++ [page]).drop k) hx04 (ownsRow_base ho4 (by have := hxA.size; omega)) (fun j x hj _ ho ho2 => by have := hnew x ho; have := ((h.rows j hj).lt x ho2).2; omega)
  have e1 : ((nth ll c ++ [page]).drop k).length = (nth ll c).length + 1 - k := by simp
  have hset : Ext (One lb) w4 (w4.setCell ⟨lb, c, none⟩ (.slice ar ((nth ll c ++ [page]).drop k).length cr)) := Ext.set1 _ _ _ _
  have hnotv := hnot'.out (.slice ar ((nth ll c ++ [page]).drop k).length cr) (fun x hx => (ho4.lt x hx).1)
  have hBf := (hB3'.out.extNo hx4).ext hset (fun e : ab = lb => by omega)
  refine ⟨ab, cs3, by subst hk; rfl, ?_, htk3'.out, hold.out, ⟨.slice ar ((nth ll c ++ [page]).drop k).length cr, ?_, hnew, hnotv⟩, ?_⟩
  · rw [e1] at hBf; exact hBf
  · rw [e1] at hput ⊢; exact hput
  · exact (hx04.mono (fun x _ ho => .inr (.inr ⟨c, by rw [h.len]; exact hc, ho⟩))).trans (Ext.set1 _ _ _ _) (fun x _ (e : x = lb) => .inr (.inl e))
end Go.Proofs.Ytjkknjohmekeiaa
/- Near pages as a state with a footprint: New, Put, Take, Drain, Has, List, each said once. No condition. -/
namespace Go.Proofs.Ytjkknjohmekeiaa
open Go.RowKit

theorem nth_set_eq {α : Type} [Inhabited α] {l : List α} {k : Nat} (y : α) (h : k < l.length) : nth (l.set k y) k = y := by
  rw [nth_eq (by simpa using h)]; simp
theorem nth_set_ne {α : Type} [Inhabited α] {l : List α} {k i : Nat} (y : α) (h : i < l.length) (hk : i ≠ k) : nth (l.set k y) i = nth l i := by
  rw [nth_eq (by simpa using h), nth_eq h, List.getElem_set_ne (fun e => hk e.symm)]
theorem nth_mem {α : Type} [Inhabited α] {l : List α} {k : Nat} (h : k < l.length) : nth l k ∈ l := by rw [nth_eq h]; exact List.getElem_mem _

/-! ### Plain -/
def inR (ll : List (List Int)) (c : Int) : Bool := decide (0 ≤ c) && decide (c < ll.length)
def putE (ll : List (List Int)) (c page : Int) : Int := if inR ll c && (decide (0 ≤ page) && decide (page < 1024)) then if hasIn ll page then 60 else 0 else 9
def putK (n : Nat) (cap : Int) : Nat := if (n : Int) + 1 ≤ cap then 0 else (n + 2) / 2
def putL (ll : List (List Int)) (cap c page : Int) : List (List Int) := if putE ll c page = 0 then ll.set c.toNat ((listIn ll c ++ [page]).drop (putK (listIn ll c).length cap)) else ll
def putA (ll : List (List Int)) (cap c page : Int) : List Int := if putE ll c page = 0 then (listIn ll c ++ [page]).take (putK (listIn ll c).length cap) else []
def takeX (ll : List (List Int)) (c : Int) : Int := (listIn ll c).getLastD 0
def takeB (ll : List (List Int)) (c : Int) : Bool := !(listIn ll c).isEmpty
def dropL (ll : List (List Int)) (c : Int) : List (List Int) := if inR ll c then ll.set c.toNat (listIn ll c).dropLast else ll
def drainL (ll : List (List Int)) (c : Int) : List (List Int) := if inR ll c then ll.set c.toNat [] else ll

structure NOk (ll : List (List Int)) (cap : Int) : Prop where
  n1 : 0 < ll.length
  n8 : ll.length ≤ 8
  cap0 : 0 ≤ cap
  cap1 : cap ≤ 64
  lens : ∀ l ∈ ll, (l.length : Int) ≤ cap
  nums : ∀ l ∈ ll, ∀ x ∈ l, 0 ≤ x ∧ x < 1024

theorem NOk.set {ll : List (List Int)} {cap : Int} (h : NOk ll cap) (k : Nat) (l : List Int) (hl : (l.length : Int) ≤ cap) (hn : ∀ x ∈ l, 0 ≤ x ∧ x < 1024) : NOk (ll.set k l) cap :=
  ⟨by simpa using h.n1, by simpa using h.n8, h.cap0, h.cap1,
   fun x hx => by rcases List.mem_or_eq_of_mem_set hx with h1 | h1; exact h.lens x h1; subst h1; exact hl,
   fun x hx => by rcases List.mem_or_eq_of_mem_set hx with h1 | h1; exact h.nums x h1; subst h1; exact hn⟩
theorem listIn_in {ll : List (List Int)} {c : Int} (h : inR ll c = true) : listIn ll c = nth ll c.toNat ∧ c.toNat < ll.length ∧ (c.toNat : Int) = c := by
  simp only [inR, Bool.and_eq_true, decide_eq_true_eq] at h
  exact ⟨if_pos h, by omega, by omega⟩
theorem listIn_out {ll : List (List Int)} {c : Int} (h : inR ll c = false) : listIn ll c = [] ∧ (c < 0 ∨ (ll.length : Int) ≤ c) := by
  have : ¬ (0 ≤ c ∧ c < ll.length) := by
    intro hh
    simp only [inR, Bool.and_eq_false_iff, decide_eq_false_iff_not] at h
    omega
  exact ⟨if_neg this, by omega⟩
theorem NOk.list {ll : List (List Int)} {cap : Int} (h : NOk ll cap) (c : Int) : ((listIn ll c).length : Int) ≤ cap ∧ ∀ x ∈ listIn ll c, 0 ≤ x ∧ x < 1024 := by
  cases hi : inR ll c
  · rw [(listIn_out hi).1]; exact ⟨by simpa using h.cap0, by simp⟩
  · obtain ⟨e, hl, _⟩ := listIn_in hi
    rw [e]; exact ⟨h.lens _ (nth_mem hl), h.nums _ (nth_mem hl)⟩
theorem putE_zero {ll : List (List Int)} {c page : Int} : putE ll c page = 0 ↔ inR ll c = true ∧ 0 ≤ page ∧ page < 1024 ∧ hasIn ll page = false := by
  unfold putE
  cases h1 : inR ll c <;> cases h2 : hasIn ll page <;> simp
  split <;> decide
theorem NOk.put {ll : List (List Int)} {cap : Int} (h : NOk ll cap) (c page : Int) : NOk (putL ll cap c page) cap := by
  unfold putL
  split
  · rename_i h0
    obtain ⟨h1, h2, h3, _⟩ := putE_zero.1 h0
    obtain ⟨g1, g2⟩ := h.list c
    apply h.set
    · simp only [List.length_drop, List.length_append, List.length_cons, List.length_nil]
      unfold putK; split <;> omega
    · intro x hx
      have := List.mem_of_mem_drop hx
      rw [List.mem_append] at this
      rcases this with h4 | h4
      · exact g2 x h4
      · simp only [List.mem_singleton] at h4; subst h4; exact ⟨h2, h3⟩
  · exact h
theorem NOk.dropL {ll : List (List Int)} {cap : Int} (h : NOk ll cap) (c : Int) : NOk (dropL ll c) cap := by
  obtain ⟨g1, g2⟩ := h.list c
  unfold Proofs.Ytjkknjohmekeiaa.dropL
  split
  · exact h.set _ _ (by simp only [List.length_dropLast]; have := h.cap0; omega) (fun x hx => g2 x (List.dropLast_subset _ hx))
  · exact h
theorem NOk.drain {ll : List (List Int)} {cap : Int} (h : NOk ll cap) (c : Int) : NOk (drainL ll c) cap := by
  unfold drainL
  split
  · exact h.set _ _ (by simpa using h.cap0) (by simp)
  · exact h
theorem NOk.new {n : Nat} {cap : Int} (h0 : 1 ≤ n) (h8 : n ≤ 8) (hc : 0 ≤ cap) (hc2 : cap ≤ 64) : NOk (List.replicate n []) cap :=
  ⟨by simp; omega, by simpa using h8, hc, hc2, fun l hl => by rw [List.mem_replicate] at hl; rw [hl.2]; simpa using hc, fun l hl => by rw [List.mem_replicate] at hl; rw [hl.2]; simp⟩

/-! ### The state -/
def Grows (w : World) (F F' : Nat → Prop) : Prop := ∀ x, F' x → F x ∨ w.heap.size ≤ x
/-- An answered slice of numbers, in a block of N that is known whole. -/
def Ans (w : World) (v : Value) (l : List Int) (N : Nat → Prop) : Prop :=
  (∃ a cap, v = .slice a 0 cap ∧ l = [] ∧ cap ≤ maxLen) ∨ ∃ b cs cap, v = .slice (some ⟨b, 0, none⟩) l.length cap ∧ l.length ≤ cap ∧ cap ≤ maxLen ∧ Blk w b cs 3 ∧ cs.take l.length = l.map int ∧ N b
theorem Ans.rd {w : World} {v : Value} {l : List Int} {N : Nat → Prop} (h : Ans w v l N) : RdI N w v l := by
  rcases h with ⟨a, cap, rfl, rfl, hc⟩ | ⟨b, cs, cap, rfl, h1, h2, h3, h4, h5⟩
  · exact ⟨_, _, rfl, by simp, by simp, hc, fun hne => absurd rfl hne⟩
  · refine ⟨_, _, rfl, by simp, h1, h2, fun _ => ⟨b, 0, rfl, h5, h3.lt, fun i u hu => ?_⟩⟩
    rw [Nat.zero_add]
    apply h3.cell'
    rw [← h4, List.getElem?_take] at hu
    split at hu
    · exact hu
    · cases hu
theorem Ans.nil (w : World) (N : Nat → Prop) : Ans w (.slice none 0 0) [] N := .inl ⟨none, 0, rfl, rfl, by simp [maxLen]⟩
theorem Ans.mono {w : World} {v : Value} {l : List Int} {N M : Nat → Prop} (h : Ans w v l N) (hm : ∀ x, N x → M x) : Ans w v l M := by
  rcases h with h | ⟨b, cs, cap, h0, h1, h2, h3, h4, h5⟩
  · exact .inl h
  · exact .inr ⟨b, cs, cap, h0, h1, h2, h3, h4, hm _ h5⟩
theorem Ans.ext {S : Nat → Prop} {w w' : World} {v : Value} {l : List Int} {N : Nat → Prop} (h : Ans w v l N) (hx : Ext S w w') (hS : ∀ x, N x → ¬ S x) : Ans w' v l N := by
  rcases h with h | ⟨b, cs, cap, h0, h1, h2, h3, h4, h5⟩
  · exact .inl h
  · exact .inr ⟨b, cs, cap, h0, h1, h2, h3.ext hx (hS _ h5), h4, h5⟩
theorem Ans.of_own {w : World} {v : Value} {l : List Int} {base : Nat} (h : w.ownsRow base 3 1 v l.length (l.map int)) : Ans w v l (fun b => OwnOf v b) := by
  obtain ⟨hl, ⟨rfl, h0⟩ | ⟨g, cap, cur, rfl, hb, hg, hn, hm, hs, ht⟩⟩ := h
  · have : l = [] := by apply List.eq_nil_of_length_eq_zero; simpa using h0
    subst this
    exact .inl ⟨none, 0, rfl, rfl, by simp [maxLen]⟩
  · refine .inr ⟨g, cur.toList, cap, rfl, hn, hm, ?_, by simpa using ht, rfl⟩
    unfold Blk; rw [hg]

/-- Near pages at block p, in the blocks F. -/
def NS (w : World) (p : Nat) (F : Nat → Prop) (ll : List (List Int)) (cap : Int) (T : TypeId := 95) : Prop :=
  NOk ll cap ∧ ∃ lb base vs, NearR w p lb base vs ll cap T ∧ base ≤ w.heap.size ∧ F = NearF p lb vs
theorem NearR.lt {w : World} {nb lb base : Nat} {vs : List Value} {ll : List (List Int)} {cap : Int} {T : TypeId} (h : NearR w nb lb base vs ll cap T) (x : Nat) (hx : NearF nb lb vs x) : x < w.heap.size := by
  rcases hx with rfl | rfl | ⟨i, hi, ho⟩
  · exact h.n.lt
  · exact h.l.lt
  · exact ((h.rows i (by rw [← h.len]; exact hi)).lt x ho).2
theorem NS.lt {w : World} {p : Nat} {F : Nat → Prop} {ll : List (List Int)} {cap : Int} {T : TypeId} (h : NS w p F ll cap T) (x : Nat) (hx : F x) : x < w.heap.size := by
  obtain ⟨_, lb, base, vs, h1, _, rfl⟩ := h
  exact h1.lt x hx
theorem NS.ok {w : World} {p : Nat} {F : Nat → Prop} {ll : List (List Int)} {cap : Int} {T : TypeId} (h : NS w p F ll cap T) : NOk ll cap := h.1
theorem NS.ext {S : Nat → Prop} {w w' : World} {p : Nat} {F : Nat → Prop} {ll : List (List Int)} {cap : Int} {T : TypeId} (h : NS w p F ll cap T) (hx : Ext S w w') (hS : ∀ x, F x → ¬ S x) : NS w' p F ll cap T := by
  obtain ⟨h0, lb, base, vs, h1, h2, rfl⟩ := h
  exact ⟨h0, lb, base, vs, h1.ext hx hS, Nat.le_trans h2 hx.size, rfl⟩
theorem NS.extNo {w w' : World} {p : Nat} {F : Nat → Prop} {ll : List (List Int)} {cap : Int} {T : TypeId} (h : NS w p F ll cap T) (hx : Ext No w w') : NS w' p F ll cap T := h.ext hx (fun _ _ => id)

theorem nearF_set {nb lb : Nat} {vs : List Value} {w : World} {c : Nat} {v' : Value} (hv : ∀ x, OwnOf v' x → NearF nb lb vs x ∨ w.heap.size ≤ x) : Grows w (NearF nb lb vs) (NearF nb lb (vs.set c v')) := by
  intro x hx
  rcases hx with h | h | ⟨i, hi, ho⟩
  · exact .inl (.inl h)
  · exact .inl (.inr (.inl h))
  · rw [List.length_set] at hi
    by_cases hic : i = c
    · subst hic
      rw [nth_set_eq _ hi] at ho
      exact hv x ho
    · rw [nth_set_ne _ hi hic] at ho
      exact .inl (.inr (.inr ⟨i, hi, ho⟩))

/-- What a call leaves. -/
def NPost (w : World) (p : Nat) (F : Nat → Prop) (ll : List (List Int)) (cap : Int) (w' : World) (Q : (Nat → Prop) → Prop) (T : TypeId := 95) : Prop :=
  ∃ F', NS w' p F' ll cap T ∧ Ext F w w' ∧ Grows w F F' ∧ Q F'

theorem ns_new (w : World) (cpus cap : Int) :
    Calls Try.prog 45 #[.int .i64 cpus, .int .i64 cap] w fun e w' =>
      if (1 ≤ cpus ∧ cpus ≤ 8) ∧ 0 ≤ cap ∧ cap ≤ 64 then
        ∃ p F, e = .returned (.tuple #[.pointer (some ⟨p, 0, none⟩), .int .i64 0]) ∧ NS w' p F (List.replicate cpus.toNat []) cap ∧ (∀ x, F x → w.heap.size ≤ x) ∧ w.heap.size ≤ p ∧ Ext No w w'
      else e = .returned (.tuple #[.pointer none, .int .i64 2]) ∧ w = w' := by
  refine (near_new w cpus cap).mono ?_
  intro e w' h
  split at h
  · rename_i hc
    obtain ⟨⟨nb, lb, h1, h2, h3, h4⟩, h5⟩ := h
    rw [if_pos hc]
    refine ⟨nb, _, h1, ⟨NOk.new (by omega) (by omega) hc.2.1 hc.2.2, lb, _, _, h2, Nat.le_refl _, rfl⟩, fun x hx => ?_, h3, h5⟩
    rcases hx with h | h | ⟨i, hi, ho⟩
    · omega
    · omega
    · rw [nth_eq hi] at ho
      simp [OwnOf, Value.ownBlock] at ho
  · rename_i hc
    rw [if_neg hc]; exact h

theorem ns_has (w : World) (p : Nat) (F : Nat → Prop) (ll : List (List Int)) (cap : Int) (h : NS w p F ll cap) (x : Int) :
    Calls Try.prog 54 #[.pointer (some ⟨p, 0, none⟩), .int .i64 x] w fun e w' => e = .returned (.bool (hasIn ll x)) ∧ Ext No w w' := by
  obtain ⟨_, lb, base, vs, h1, h2, _⟩ := h
  exact near_has w p lb base vs ll cap h1 h2 x

theorem ns_list (w : World) (p : Nat) (F : Nat → Prop) (ll : List (List Int)) (cap : Int) (h : NS w p F ll cap) (c : Int) :
    Calls Try.prog 48 #[.pointer (some ⟨p, 0, none⟩), .int .i64 c] w fun e w' => ∃ r, e = .returned r ∧ Ans w' r (listIn ll c) (fun b => w.heap.size ≤ b) ∧ Ext No w w' := by
  obtain ⟨h0, lb, base, vs, h1, h2, _⟩ := h
  refine (near_list w p lb base vs ll cap h1 c (fun l hl => by have := h0.lens l hl; have := h0.cap1; omega)).mono ?_
  rintro e w' ⟨r, he, ho, hx⟩
  exact ⟨r, he, (Ans.of_own ho).mono (fun b hb => (ho.lt b hb).1), hx⟩

theorem ns_drain (w : World) (p : Nat) (F : Nat → Prop) (ll : List (List Int)) (cap : Int) (h : NS w p F ll cap) (c : Int) :
    Calls Try.prog 53 #[.pointer (some ⟨p, 0, none⟩), .int .i64 c] w fun e w' => ∃ r, e = .returned r ∧ NPost w p F (drainL ll c) cap w' (fun F' => Ans w' r (listIn ll c) (fun b => ¬ F' b ∧ F b)) := by
  obtain ⟨h0, lb, base, vs, h1, h2, rfl⟩ := h
  have hn := h1.nums
  cases hi : inR ll c
  · obtain ⟨e0, hc⟩ := listIn_out hi
    have e1 : drainL ll c = ll := by unfold drainL; rw [hi]; simp
    refine (near_drain_out w p lb base vs ll cap h1 c hc).mono ?_
    rintro e w' ⟨he, rfl⟩
    refine ⟨_, he, NearF p lb vs, ?_, Ext.refl _ _, fun x hx => .inl hx, ?_⟩
    · rw [e1]; exact ⟨h0, lb, base, vs, h1, h2, rfl⟩
    · rw [e0]; exact Ans.nil _ _
  · obtain ⟨e0, hk, ek⟩ := listIn_in hi
    have hD := near_drain w p lb base vs ll cap h1 c.toNat hk
    rw [ek] at hD
    refine hD.mono ?_
    rintro e w' ⟨he, hw, hN, hrow⟩
    have hx : Ext (One lb) w w' := by rw [hw]; exact Ext.set1 _ _ _ _
    have e1 : drainL ll c = ll.set c.toNat [] := by unfold drainL; rw [hi]; simp
    refine ⟨_, he, NearF p lb (vs.set c.toNat (.slice none 0 0)), ⟨h0.drain c, lb, base, _, e1 ▸ hN, Nat.le_trans h2 hx.size, rfl⟩, hx.mono (fun x _ (e : x = lb) => .inr (.inl e)), nearF_set (fun x hx => by simp [OwnOf, Value.ownBlock] at hx), ?_⟩
    rw [e0]
    refine (Ans.of_own hrow).mono (fun b hb => ⟨fun hN => ?_, .inr (.inr ⟨c.toNat, by rw [h1.len]; exact hk, hb⟩)⟩)
    have hbb := (hrow.lt b hb).1
    rcases hN with h | h | ⟨i, hi, ho⟩
    · omega
    · omega
    · rw [List.length_set] at hi
      by_cases hic : i = c.toNat
      · subst hic
        rw [nth_set_eq _ hi] at ho
        simp [OwnOf, Value.ownBlock] at ho
      · rw [nth_set_ne _ hi hic] at ho
        exact hic (h1.apart i c.toNat b (by rw [← h1.len]; exact hi) hk ho hb)

theorem ns_take (w : World) (p : Nat) (F : Nat → Prop) (ll : List (List Int)) (cap : Int) (h : NS w p F ll cap) (c : Int) :
    Calls Try.prog 52 #[.pointer (some ⟨p, 0, none⟩), .int .i64 c] w fun e w' => e = .returned (.tuple #[.int .i64 (takeX ll c), .bool (takeB ll c)]) ∧ NPost w p F (dropL ll c) cap w' (fun _ => True) := by
  have hok := h
  obtain ⟨h0, lb, base, vs, h1, h2, rfl⟩ := h
  have hn := h1.nums
  cases hi : inR ll c
  · obtain ⟨e0, hc⟩ := listIn_out hi
    have e1 : dropL ll c = ll := by unfold dropL; rw [hi]; simp
    refine (near_take_none w p lb base vs ll cap h1 c hc).mono ?_
    rintro e w' ⟨he, rfl⟩
    refine ⟨by unfold takeX takeB; rw [e0]; exact he, NearF p lb vs, ?_, Ext.refl _ _, fun x hx => .inl hx, trivial⟩
    rw [e1]; exact hok
  · obtain ⟨e0, hk, ek⟩ := listIn_in hi
    have e1 : dropL ll c = ll.set c.toNat (nth ll c.toNat).dropLast := by unfold dropL; rw [hi, e0]; simp
    obtain ⟨g1, _⟩ := h0.list c
    rw [e0] at g1
    have hcap := h0.cap1
    rcases Nat.eq_zero_or_pos (nth ll c.toNat).length with hz | hz
    · have hz' : nth ll c.toNat = [] := List.eq_nil_of_length_eq_zero hz
      have hT := near_take_empty w p lb base vs ll cap h1 c.toNat hk hz'
      rw [ek] at hT
      refine hT.mono ?_
      rintro e w' ⟨he, rfl⟩
      refine ⟨by unfold takeX takeB; rw [e0, hz']; exact he, NearF p lb vs, ?_, Ext.refl _ _, fun x hx => .inl hx, trivial⟩
      have e2 : ll.set c.toNat [] = ll := by
        have : nth ll c.toNat = [] := hz'
        rw [nth_eq hk] at this
        rw [← this]; exact List.set_getElem_self hk
      rw [e1, hz', List.dropLast_nil, e2]; exact hok
    · obtain ⟨n, hn1⟩ : ∃ n, (nth ll c.toNat).length = n + 1 := ⟨(nth ll c.toNat).length - 1, by omega⟩
      have hT := near_take_at w p lb base vs ll cap h1 c.toNat hk n hn1 (by omega)
      rw [ek] at hT
      refine hT.mono ?_
      rintro e w' ⟨he, v', hw, hN, hfr⟩
      have hx : Ext (One lb) w w' := by rw [hw]; exact Ext.set1 _ _ _ _
      have e3 : (nth ll c.toNat).take n = (nth ll c.toNat).dropLast := by rw [List.dropLast_eq_take, hn1]; rfl
      rw [e3] at hN
      refine ⟨?_, NearF p lb (vs.set c.toNat v'), ⟨h0.dropL c, lb, base, _, e1 ▸ hN, Nat.le_trans h2 hx.size, rfl⟩, hx.mono (fun x _ (e : x = lb) => .inr (.inl e)), nearF_set (fun x hx => .inl (.inr (.inr ⟨c.toNat, by rw [h1.len]; exact hk, hfr x hx⟩))), trivial⟩
      rw [he]
      unfold takeX takeB
      rw [e0]
      have hne : nth ll c.toNat ≠ [] := by intro e; rw [e] at hn1; simp at hn1
      have e4 : nth (nth ll c.toNat) n = (nth ll c.toNat).getLastD 0 := by
        have e6 : (nth ll c.toNat).length - 1 = n := by omega
        have e7 : (nth ll c.toNat)[n]? = some (nth (nth ll c.toNat) n) := nth_some (by omega)
        rw [List.getLastD_eq_getLast?, List.getLast?_eq_getElem?, e6, e7]
        rfl
      have e5 : (nth ll c.toNat).isEmpty = false := by simpa using hne
      rw [e4, e5]; rfl

theorem ns_put (w : World) (p : Nat) (F : Nat → Prop) (ll : List (List Int)) (cap : Int) (h : NS w p F ll cap) (c page : Int) :
    Calls Try.prog 51 #[.pointer (some ⟨p, 0, none⟩), .int .i64 c, .int .i64 page] w fun e w' => ∃ r, e = .returned (.tuple #[r, .int .i64 (putE ll c page)]) ∧
      NPost w p F (putL ll cap c page) cap w' (fun F' => Ans w' r (putA ll cap c page) (fun b => ¬ F' b ∧ (F b ∨ w.heap.size ≤ b))) := by
  have hok := h
  obtain ⟨h0, lb, base, vs, h1, h2, rfl⟩ := h
  have hn := h1.nums
  have hsame : putE ll c page ≠ 0 → ∀ (w' : World), Ext No w w' → NPost w p (NearF p lb vs) (putL ll cap c page) cap w' (fun F' => Ans w' (.slice none 0 0) (putA ll cap c page) (fun b => ¬ F' b ∧ (NearF p lb vs b ∨ w.heap.size ≤ b))) := by
    intro hne w' hx
    unfold putL putA
    rw [if_neg hne, if_neg hne]
    exact ⟨NearF p lb vs, hok.extNo hx, hx.of_no, fun x hx => .inl hx, Ans.nil _ _⟩
  cases hi : inR ll c
  · obtain ⟨e0, hc⟩ := listIn_out hi
    have e9 : putE ll c page = 9 := by unfold putE; rw [hi]; simp
    refine (near_put_range w p lb base vs ll cap h1 h0.n1 c page hc).mono ?_
    rintro e w' ⟨he, rfl⟩
    exact ⟨_, by rw [e9]; exact he, hsame (by rw [e9]; decide) _ (Ext.refl _ _)⟩
  · obtain ⟨e0, hk, ek⟩ := listIn_in hi
    obtain ⟨g1, _⟩ := h0.list c
    rw [e0] at g1
    have hcap := h0.cap1
    by_cases hp : 0 ≤ page ∧ page < 1024
    · cases hh : hasIn ll page
      · have ez : putE ll c page = 0 := putE_zero.2 ⟨hi, hp.1, hp.2, hh⟩
        by_cases hfit : ((nth ll c.toNat).length : Int) + 1 ≤ cap
        · have ek0 : putK (nth ll c.toNat).length cap = 0 := by unfold putK; rw [if_pos hfit]
          have eL : putL ll cap c page = ll.set c.toNat (nth ll c.toNat ++ [page]) := by unfold putL; rw [if_pos ez, e0, ek0]; rfl
          have eA : putA ll cap c page = [] := by unfold putA; rw [if_pos ez, e0, ek0]; rfl
          have hP := near_put_fit w p lb base vs ll cap h1 h2 c.toNat hk page hp.1 hp.2 hh (by omega) hfit
          rw [ek] at hP
          refine hP.mono ?_
          rintro e w' ⟨a, he, ⟨v', hN, hfr⟩, hx⟩
          refine ⟨_, by rw [ez]; exact he, NearF p lb (vs.set c.toNat v'), ⟨h0.put c page, lb, base, _, eL ▸ hN, Nat.le_trans h2 hx.size, rfl⟩, hx, nearF_set (fun x hx => .inr (hfr x hx)), ?_⟩
          rw [eA]
          exact .inl ⟨a, 0, rfl, rfl, by simp [maxLen]⟩
        · have ek0 : putK (nth ll c.toNat).length cap = ((nth ll c.toNat).length + 2) / 2 := by unfold putK; rw [if_neg hfit]
          obtain ⟨k, hk2⟩ : ∃ k, ((nth ll c.toNat).length + 2) / 2 = k := ⟨_, rfl⟩
          rw [hk2] at ek0
          have eL : putL ll cap c page = ll.set c.toNat ((nth ll c.toNat ++ [page]).drop k) := by unfold putL; rw [if_pos ez, e0, ek0]
          have eA : putA ll cap c page = (nth ll c.toNat ++ [page]).take k := by unfold putA; rw [if_pos ez, e0, ek0]
          have elen : ((nth ll c.toNat ++ [page]).take k).length = k := by simp; omega
          have hP := near_put_spill w p lb base vs ll cap h1 h2 c.toNat hk page hp.1 hp.2 hh (by omega) h0.cap0 (by omega) k hk2
          rw [ek] at hP
          refine hP.mono ?_
          rintro e w' ⟨a, cs, he, hB, htk, hold, ⟨v', hN, hfr, hnot⟩, hx⟩
          refine ⟨_, by rw [ez]; exact he, NearF p lb (vs.set c.toNat v'), ⟨h0.put c page, lb, base, _, eL ▸ hN, Nat.le_trans h2 hx.size, rfl⟩, hx, nearF_set (fun x hx => .inr (hfr x hx)), ?_⟩
          rw [eA]
          exact .inr ⟨a, cs, k, by rw [elen], by rw [elen]; exact Nat.le_refl _, by unfold maxLen; omega, hB, by rw [elen]; exact htk, hnot, hold⟩
      · have e60 : putE ll c page = 60 := by unfold putE; rw [hi, hh]; simp [hp]
        have hP := near_put_has w p lb base vs ll cap h1 h2 c.toNat hk page hp.1 hp.2 hh
        rw [ek] at hP
        refine hP.mono ?_
        rintro e w' ⟨he, hx⟩
        exact ⟨_, by rw [e60]; exact he, hsame (by rw [e60]; decide) _ hx⟩
    · have e9 : putE ll c page = 9 := by unfold putE; rw [hi]; simp; omega
      have hP := near_put_page w p lb base vs ll cap h1 c.toNat hk page (by omega)
      rw [ek] at hP
      refine hP.mono ?_
      rintro e w' ⟨he, rfl⟩
      exact ⟨_, by rw [e9]; exact he, hsame (by rw [e9]; decide) _ (Ext.refl _ _)⟩
end Go.Proofs.Ytjkknjohmekeiaa
/- Bring. The modulus lies between 1 and 4096. -/
namespace Go.Proofs.Ytjkknjohmekeiaa
open Go.RowKit

theorem bring_spec (w : World) (x n : Int) (h1 : 1 ≤ n) (h2 : n ≤ 4096) :
    Calls Try.prog 39 #[.int .i64 x, .int .i64 n] w fun e w' => e = .returned (.int .i64 (x % n)) ∧ w = w' := by
  have hn0 : (n == 0) = false := by rw [beq_eq_false_iff_ne]; omega
  have b1 : x.tmod n < n := Int.tmod_lt_of_pos x (by omega)
  have b2 : -n < x.tmod n := by
    have := Int.tmod_lt_of_pos (-x) (show 0 < n by omega)
    rw [Int.neg_tmod] at this; omega
  have e1 : x.tmod n = if x.tmod n < 0 then x % n - n else x % n := by
    have h := Int.tmod_add_mul_tdiv x n
    have h' := Int.emod_add_mul_ediv x n
    have c1 := Int.emod_nonneg x (show n ≠ 0 by omega)
    have c2 := Int.emod_lt_of_pos x (show 0 < n by omega)
    rw [Int.emod_eq_tmod]
    split
    · rename_i hneg
      have hx : ¬ (0 ≤ x ∨ n ∣ x) := by
        rintro (h0 | h0)
        · have := Int.tmod_nonneg n h0; omega
        · rw [Int.tmod_eq_zero_of_dvd h0] at hneg; omega
      rw [if_neg hx]; omega
    · rename_i hneg
      by_cases hx : 0 ≤ x ∨ n ∣ x
      · rw [if_pos hx]; omega
      · exfalso
        apply hx
        by_cases h0 : 0 ≤ x
        · exact .inl h0
        · right
          have h3 : x.tmod n ≤ 0 := by
            have := Int.tmod_nonneg n (show 0 ≤ -x by omega)
            rw [Int.neg_tmod] at this; omega
          exact Int.dvd_of_tmod_eq_zero (by omega)
  obtain ⟨r, hr⟩ : ∃ r, x.tmod n = r := ⟨_, rfl⟩
  have hw : IntKind.i64.wrap (x.tmod n) = x.tmod n := by rw [IntKind.wrap_i64]; omega
  by_cases hneg : r < 0
  · have e2 : Hid (r + n = x % n) := by show _ = _; rw [hr, if_pos hneg] at e1; omega
    rw [hr] at b1 b2 
    clear e1
    go_enter Try.func39, Try.ntmps39
    go_wp2_with fail
    go_ret
    exact ⟨ret_eq (by rw [e2.out]; rfl), rfl⟩
  · have e2 : Hid (r = x % n) := by show _ = _; rw [hr, if_neg hneg] at e1; omega
    rw [hr] at b1 b2
    clear e1
    go_enter Try.func39, Try.ntmps39
    go_wp2_with fail
    go_ret
    exact ⟨ret_eq (by rw [e2.out]; rfl), rfl⟩
end Go.Proofs.Ytjkknjohmekeiaa
/- Near pages that are new since a world; the chapter's pages are as the chapter says. No condition. -/
namespace Go.Proofs.Ytjkknjohmekeiaa
open Go.RowKit

/-- Near pages, all of whose blocks are new since w0; of what lay there nothing has changed. -/
def NT (w0 w : World) (p : Nat) (F : Nat → Prop) (ll : List (List Int)) (cap : Int) (T : TypeId := 95) : Prop :=
  Ext No w0 w ∧ NS w p F ll cap T ∧ ∀ x, F x → w0.heap.size ≤ x
section
variable {w0 w w' : World} {p : Nat} {F : Nat → Prop} {ll : List (List Int)} {cap : Int} {T : TypeId}
theorem NT.x (h : NT w0 w p F ll cap T) : Ext No w0 w := h.1
theorem NT.s (h : NT w0 w p F ll cap T) : NS w p F ll cap T := h.2.1
theorem NT.f (h : NT w0 w p F ll cap T) : ∀ x, F x → w0.heap.size ≤ x := h.2.2
theorem NT.ok (h : NT w0 w p F ll cap T) : NOk ll cap := h.2.1.1
theorem NT.ext {S : Nat → Prop} (h : NT w0 w p F ll cap T) (hx : Ext S w w') (hS : ∀ x, F x → ¬ S x) (hS2 : ∀ x, S x → w0.heap.size ≤ x) : NT w0 w' p F ll cap T :=
  ⟨h.1.transNew hx hS2, h.2.1.ext hx hS, h.2.2⟩
theorem NT.extNo (h : NT w0 w p F ll cap T) (hx : Ext No w w') : NT w0 w' p F ll cap T := h.ext hx (fun _ _ => id) (fun _ h => h.elim)
theorem NT.post {l2 : List (List Int)} {Q : (Nat → Prop) → Prop} (h : NT w0 w p F ll cap T) (hp : NPost w p F l2 cap w' Q T) :
    ∃ F', NT w0 w' p F' l2 cap T ∧ Ext F w w' ∧ Grows w F F' ∧ Q F' := by
  obtain ⟨F', h1, h2, h3, h4⟩ := hp
  refine ⟨F', ⟨h.1.transNew h2 h.2.2, h1, fun x hx => ?_⟩, h2, h3, h4⟩
  rcases h3 x hx with h5 | h5
  · exact h.2.2 x h5
  · have := h.1.size; omega

/-- A block that is new since w0 and none of F. -/
def OutF (w0 : World) (F : Nat → Prop) (b : Nat) : Prop := ¬ F b ∧ w0.heap.size ≤ b
theorem Ans.keep {F' : Nat → Prop} {v : Value} {l : List Int} (h : Ans w v l (OutF w0 F)) (hx : Ext F w w') (hg : Grows w F F') : Ans w' v l (OutF w0 F') := by
  rcases h with h | ⟨b, cs, cap, h0, h1, h2, h3, h4, h5, h6⟩
  · exact .inl h
  · refine .inr ⟨b, cs, cap, h0, h1, h2, h3.ext hx h5, h4, fun hf => ?_, h6⟩
    rcases hg b hf with h7 | h7
    · exact h5 h7
    · have := h3.lt; omega
theorem Ans.keepNo {v : Value} {l : List Int} {N : Nat → Prop} (h : Ans w v l N) (hx : Ext No w w') : Ans w' v l N := h.ext hx (fun _ _ => id)

theorem nt_new (w0 w : World) (hx : Ext No w0 w) (cpus cap : Int) (h1 : 1 ≤ cpus) (h2 : cpus ≤ 8) (h3 : 0 ≤ cap) (h4 : cap ≤ 64) (L : List (List Int)) (hL : List.replicate cpus.toNat [] = L) :
    Calls Try.prog 45 #[.int .i64 cpus, .int .i64 cap] w fun e w' => ∃ p F, e = .returned (.tuple #[.pointer (some ⟨p, 0, none⟩), .int .i64 0]) ∧ NT w0 w' p F L cap ∧ (∀ x, F x → w.heap.size ≤ x) ∧ w.heap.size ≤ p ∧ Ext No w w' := by
  refine (ns_new w cpus cap).mono ?_
  intro e w' h
  rw [if_pos ⟨⟨h1, h2⟩, h3, h4⟩, hL] at h
  obtain ⟨p, F, e1, e2, e3, e4, e5⟩ := h
  exact ⟨p, F, e1, ⟨hx.transNo e5, e2, fun x h => by have := e3 x h; have := hx.size; omega⟩, e3, e4, e5⟩

theorem nt_put (h : NT w0 w p F ll cap) (c page : Int) {E : Int} {L : List (List Int)} {A : List Int} (hE : putE ll c page = E) (hL : putL ll cap c page = L) (hA : putA ll cap c page = A) :
    Calls Try.prog 51 #[.pointer (some ⟨p, 0, none⟩), .int .i64 c, .int .i64 page] w fun e w' => ∃ r F', e = .returned (.tuple #[r, .int .i64 E]) ∧
      NT w0 w' p F' L cap ∧ Ans w' r A (fun b => OutF w0 F' b ∧ (F b ∨ w.heap.size ≤ b)) ∧ Ext F w w' ∧ Grows w F F' := by
  subst hE hL hA
  refine (ns_put w p F ll cap h.s c page).mono ?_
  rintro e w' ⟨r, he, hp⟩
  obtain ⟨F', g1, g2, g3, g4⟩ := h.post hp
  exact ⟨r, F', he, g1, g4.mono (fun b hb => ⟨⟨hb.1, by rcases hb.2 with h5 | h5; exact h.f b h5; have := h.x.size; omega⟩, hb.2⟩), g2, g3⟩
theorem nt_take (h : NT w0 w p F ll cap) (c : Int) {X : Int} {B : Bool} {L : List (List Int)} (hX : takeX ll c = X) (hB : takeB ll c = B) (hL : dropL ll c = L) :
    Calls Try.prog 52 #[.pointer (some ⟨p, 0, none⟩), .int .i64 c] w fun e w' => ∃ F', e = .returned (.tuple #[.int .i64 X, .bool B]) ∧
      NT w0 w' p F' L cap ∧ Ext F w w' ∧ Grows w F F' := by
  subst hX hL hB
  refine (ns_take w p F ll cap h.s c).mono ?_
  rintro e w' ⟨he, hp⟩
  obtain ⟨F', g1, g2, g3, _⟩ := h.post hp
  exact ⟨F', he, g1, g2, g3⟩
theorem nt_drain (h : NT w0 w p F ll cap) (c : Int) {A : List Int} {L : List (List Int)} (hA : listIn ll c = A) (hL : drainL ll c = L) :
    Calls Try.prog 53 #[.pointer (some ⟨p, 0, none⟩), .int .i64 c] w fun e w' => ∃ r F', e = .returned r ∧
      NT w0 w' p F' L cap ∧ Ans w' r A (fun b => OutF w0 F' b ∧ (F b ∨ w.heap.size ≤ b)) ∧ Ext F w w' ∧ Grows w F F' := by
  subst hA hL
  refine (ns_drain w p F ll cap h.s c).mono ?_
  rintro e w' ⟨r, he, hp⟩
  obtain ⟨F', g1, g2, g3, g4⟩ := h.post hp
  exact ⟨r, F', he, g1, g4.mono (fun b hb => ⟨⟨hb.1, h.f b hb.2⟩, .inl hb.2⟩), g2, g3⟩
theorem nt_has (h : NT w0 w p F ll cap) (x : Int) {B : Bool} (hB : hasIn ll x = B) :
    Calls Try.prog 54 #[.pointer (some ⟨p, 0, none⟩), .int .i64 x] w fun e w' => e = .returned (.bool B) ∧ NT w0 w' p F ll cap ∧ Ext No w w' := by
  subst hB
  refine (ns_has w p F ll cap h.s x).mono ?_
  rintro e w' ⟨he, hx⟩
  exact ⟨he, h.extNo hx, hx⟩
theorem nt_list (h : NT w0 w p F ll cap) (c : Int) {A : List Int} (hA : listIn ll c = A) :
    Calls Try.prog 48 #[.pointer (some ⟨p, 0, none⟩), .int .i64 c] w fun e w' => ∃ r, e = .returned r ∧ NT w0 w' p F ll cap ∧ Ans w' r A (fun b => OutF w0 F b ∧ w.heap.size ≤ b) ∧ Ext No w w' := by
  subst hA
  refine (ns_list w p F ll cap h.s c).mono ?_
  rintro e w' ⟨r, he, ha, hx⟩
  exact ⟨r, he, h.extNo hx, ha.mono (fun b hb => ⟨⟨fun hf => by have := h.s.lt b hf; omega, by have := h.x.size; omega⟩, hb⟩), hx⟩
theorem Ans.val {N : Nat → Prop} {v : Value} {l : List Int} (h : Ans w v l N) : ∃ a cap, v = .slice a l.length cap ∧ l.length ≤ cap ∧ cap ≤ 9223372036854775807 := Rd.val h.rd
end

set_option maxRecDepth 100000 in
set_option maxHeartbeats 3200000 in
theorem works50_spec (w : World) :
    Calls Try.prog 50 #[] w fun e w' => e = .returned (.bool true) ∧ Ext No w w' := by
  go_enter Try.func50, Try.ntmps50
  go_wp2_with fail
  refine (nt_new w _ (Ext.refl _ _) 2 2 (by decide) (by decide) (by decide) (by decide) [[], []] rfl).mono ?_
  rintro e w1 ⟨p, F1, rfl, h1, _, _, _⟩
  go_wp2_with fail
  refine (nt_put h1 0 5 (E := 0) (L := [[5], []]) (A := []) (by decide) (by decide) (by decide)).mono ?_
  rintro e w2 ⟨r2, F2, rfl, h2, a2, _, _⟩
  obtain ⟨aa, ca, rfl, _, _⟩ := a2.val
  go_wp2_with fail
  refine (nt_put h2 0 6 (E := 0) (L := [[5, 6], []]) (A := []) (by decide) (by decide) (by decide)).mono ?_
  rintro e w3 ⟨r3, F3, rfl, h3, a3, _, _⟩
  obtain ⟨ab, cb, rfl, _, _⟩ := a3.val
  go_wp2_with fail
  refine (nt_put h3 1 5 (E := 60) (L := [[5, 6], []]) (A := []) (by decide) (by decide) (by decide)).mono ?_
  rintro e w4 ⟨r4, F4, rfl, h4, a4, _, _⟩
  go_wp2_with fail
  refine (nt_take h4 0 (X := 6) (B := true) (L := [[5], []]) (by decide) (by decide) (by decide)).mono ?_
  rintro e w5 ⟨F5, rfl, h5, _, _⟩
  go_wp2_with fail
  refine (nt_has h5 6 (B := false) (by decide)).mono ?_
  rintro e w6 ⟨rfl, h6, _⟩
  go_wp2_with fail
  refine (nt_put h6 0 6 (E := 0) (L := [[5, 6], []]) (A := []) (by decide) (by decide) (by decide)).mono ?_
  rintro e w7 ⟨r7, F7, rfl, h7, a7, _, _⟩
  go_wp2_with fail
  refine (nt_put h7 0 7 (E := 0) (L := [[7], []]) (A := [5, 6]) (by decide) (by decide) (by decide)).mono ?_
  rintro e w8 ⟨r8, F8, rfl, h8, a8, _, _⟩
  go_wp2_with fail
  refine (nt_list h8 0 (A := [7]) (by decide)).mono ?_
  rintro e w9 ⟨r9, rfl, h9, a9, x9⟩
  go_wp2_with fail
  refine (nt_drain h9 0 (A := [7]) (L := [[], []]) (by decide) (by decide)).mono ?_
  rintro e w10 ⟨r10, F10, rfl, h10, a10, x10, g10⟩
  go_wp2_with fail
  refine (nt_take h10 0 (X := 0) (B := false) (L := [[], []]) (by decide) (by decide) (by decide)).mono ?_
  rintro e w11 ⟨F11, rfl, h11, x11, g11⟩
  go_wp2_with fail
  refine (nt_put h11 2 1 (E := 9) (L := [[], []]) (A := []) (by decide) (by decide) (by decide)).mono ?_
  rintro e w12 ⟨r12, F12, rfl, h12, a12, x12, g12⟩
  have a8 := a8.mono (fun _ h => h.1)
  have a9 := a9.mono (fun _ h => h.1)
  have a10 := a10.mono (fun _ h => h.1)
  have A8 := (((a8.keepNo x9).keep x10 g10).keep x11 g11).keep x12 g12
  have A9 := ((a9.keep x10 g10).keep x11 g11).keep x12 g12
  have A10 := (a10.keep x11 g11).keep x12 g12
  obtain ⟨b8, c8, rfl, _, _⟩ := A8.val
  obtain ⟨b9, c9, rfl, _, _⟩ := A9.val
  obtain ⟨b10, c10, rfl, _, _⟩ := A10.val
  have X := h12.x
  clear h1 h2 h3 h4 h5 h6 h7 h8 h9 h10 h11 h12 a2 a3 a4 a7 a8 a9 a10 a12 x9 x10 x11 x12 g10 g11 g12
  go_wp2_with fail
  refine (eqInts_spec _ _ _ [5, 6] [5, 6] _ _ (A8.rd.extNo ((Ext.refl _ _).alloc _)) (Rd.of_blk (n := 2) (Blk.new' rfl) rfl (by decide))).mono ?_
  rintro e w13 ⟨rfl, n1, rfl⟩
  go_wp2_with fail
  refine (eqInts_spec _ _ _ [7] [7] _ _ (A9.rd.extNo ((((Ext.refl _ _).alloc _).drewN _).alloc _)) (Rd.of_blk (n := 1) (Blk.new' (by simp)) rfl (by decide))).mono ?_
  rintro e w14 ⟨rfl, n2, rfl⟩
  go_wp2_with fail
  refine (eqInts_spec _ _ _ [7] [7] _ _ (A10.rd.extNo ((((((Ext.refl _ _).alloc _).drewN _).alloc _).drewN _).alloc _)) (Rd.of_blk (n := 1) (Blk.new' (by simp)) rfl (by decide))).mono ?_
  rintro e w15 ⟨rfl, n3, rfl⟩
  go_wp2_with fail
  go_ret
  exact ⟨rfl, X.transNo (((((((Ext.refl _ _).alloc _).drewN _).alloc _).drewN _).alloc _).drewN _)⟩
end Go.Proofs.Ytjkknjohmekeiaa
/- Plain: buddies of blocks; where free blocks lie; what is left when a block is given out. And Frees in memory. No condition. -/
namespace Go.Proofs.Ytjkknjohmekeiaa
open Go.RowKit

theorem oth_lo {i k : Nat} (h : i % pw (k + 1) = 0) : oth i k = i + pw k := by
  unfold oth pw at *
  obtain ⟨q, rfl⟩ := Nat.dvd_of_mod_eq_zero h
  have hk : 2 ^ k < 2 ^ (k + 1) := Nat.pow_lt_pow_right (by omega) (by omega)
  apply Nat.eq_of_testBit_eq
  intro j
  rw [Nat.testBit_xor, Nat.testBit_two_pow_mul_add q hk]
  have e : 2 ^ (k + 1) * q = 2 ^ (k + 1) * q + 0 := rfl
  rw [e, Nat.testBit_two_pow_mul_add q (by omega : 0 < 2 ^ (k + 1))]
  by_cases hj : j < k + 1
  · rw [if_pos hj, if_pos hj]; simp
  · rw [if_neg hj, if_neg hj]
    have : (2 ^ k).testBit j = false := by rw [Nat.testBit_two_pow]; simp; omega
    rw [this]; simp
theorem oth_oth (i k : Nat) : oth (oth i k) k = i := by unfold oth; rw [Nat.xor_assoc, Nat.xor_self, Nat.xor_zero]
theorem oth_hi {i k : Nat} (h0 : i % pw k = 0) (h : i % pw (k + 1) ≠ 0) : pw k ≤ i ∧ (i - pw k) % pw (k + 1) = 0 ∧ oth i k = i - pw k := by
  have hp := pw_pos k
  have hs := pw_succ k
  obtain ⟨q, rfl⟩ := Nat.dvd_of_mod_eq_zero h0
  have hodd : q % 2 = 1 := by
    rcases Nat.mod_two_eq_zero_or_one q with h1 | h1
    · exfalso; apply h
      obtain ⟨r, rfl⟩ : ∃ r, q = 2 * r := ⟨q / 2, by omega⟩
      rw [hs, show pw k * (2 * r) = 2 * pw k * r by rw [Nat.mul_comm 2 r, ← Nat.mul_assoc, Nat.mul_comm]; rw [← Nat.mul_assoc]]
      exact Nat.mul_mod_right _ _
    · exact h1
  obtain ⟨r, rfl⟩ : ∃ r, q = 2 * r + 1 := ⟨q / 2, by omega⟩
  have e : pw k * (2 * r + 1) = pw (k + 1) * r + pw k := by
    rw [hs, Nat.mul_add, Nat.mul_one, ← Nat.mul_assoc, Nat.mul_comm (pw k) 2]
  have e2 : (pw (k + 1) * r) % pw (k + 1) = 0 := Nat.mul_mod_right _ _
  refine ⟨by omega, ?_, ?_⟩
  · rw [e, Nat.add_sub_cancel]; exact e2
  · rw [e, Nat.add_sub_cancel]
    have := oth_lo (i := pw (k + 1) * r) (k := k) e2
    rw [← this, oth_oth]
theorem pw_dvd {a b : Nat} (h : a ≤ b) : pw a ∣ pw b := Nat.pow_dvd_pow 2 h
theorem al_down {i a b : Nat} (h : a ≤ b) (hb : i % pw b = 0) : i % pw a = 0 := Nat.mod_eq_zero_of_dvd (Nat.dvd_trans (pw_dvd h) (Nat.dvd_of_mod_eq_zero hb))

/-- Where free blocks of an order lie. -/
theorem mem_frees {l : List T3} {o : Nat} : ∀ (n i : Nat), l.length - i ≤ n → ∀ x, x ∈ freesL l o i ↔ (i ≤ x ∧ (x - i) % pw o = 0 ∧ x < l.length ∧ freeB l x o = true)
  | 0, i, h, x => by
    rw [frees_out (by omega)]
    constructor
    · intro h; cases h
    · rintro ⟨_, _, _, _⟩; omega
  | n + 1, i, h, x => by
    have hp := pw_pos o
    by_cases hi : i < l.length
    · have ih := mem_frees (l := l) (o := o) n (i + pw o) (by omega) x
      have hnext : (i + pw o ≤ x ∧ (x - (i + pw o)) % pw o = 0) ↔ (i < x ∧ (x - i) % pw o = 0) := by
        constructor
        · rintro ⟨h1, h2⟩
          refine ⟨by omega, ?_⟩
          rw [show x - i = (x - (i + pw o)) + pw o by omega, Nat.add_mod_right]; exact h2
        · rintro ⟨h1, h2⟩
          have h3 := Nat.le_of_dvd (by omega) (Nat.dvd_of_mod_eq_zero h2)
          refine ⟨by omega, ?_⟩
          rw [show x - i = (x - (i + pw o)) + pw o by omega, Nat.add_mod_right] at h2; exact h2
      cases hb : freeB l i o
      · rw [frees_no hi hb, ih]
        constructor
        · rintro ⟨h1, h2, h3, h4⟩
          obtain ⟨h5, h6⟩ := hnext.1 ⟨h1, h2⟩
          exact ⟨by omega, h6, h3, h4⟩
        · rintro ⟨h1, h2, h3, h4⟩
          rcases Nat.eq_or_lt_of_le h1 with e | e
          · subst e; rw [hb] at h4; cases h4
          · obtain ⟨h5, h6⟩ := hnext.2 ⟨e, h2⟩
            exact ⟨h5, h6, h3, h4⟩
      · rw [frees_yes hi hb, List.mem_cons, ih]
        constructor
        · rintro (rfl | ⟨h1, h2, h3, h4⟩)
          · exact ⟨Nat.le_refl _, by simp, hi, hb⟩
          · obtain ⟨h5, h6⟩ := hnext.1 ⟨h1, h2⟩
            exact ⟨by omega, h6, h3, h4⟩
        · rintro ⟨h1, h2, h3, h4⟩
          rcases Nat.eq_or_lt_of_le h1 with e | e
          · exact .inl e.symm
          · obtain ⟨h5, h6⟩ := hnext.2 ⟨e, h2⟩
            exact .inr ⟨h5, h6, h3, h4⟩
    · rw [frees_out (by omega)]
      constructor
      · intro h; cases h
      · rintro ⟨_, _, _, _⟩; omega
theorem mem_frees0 {l : List T3} {o x : Nat} : x ∈ freesL l o 0 ↔ (x % pw o = 0 ∧ x < l.length ∧ freeB l x o = true) := by
  rw [mem_frees l.length 0 (by omega)]; simp
theorem frees_len {l : List T3} {o : Nat} : ∀ (n i : Nat), l.length - i ≤ n → (freesL l o i).length ≤ n
  | 0, i, h => by rw [frees_out (by omega)]; simp
  | n + 1, i, h => by
    have hp := pw_pos o
    by_cases hi : i < l.length
    · have ih := frees_len (l := l) (o := o) n (i + pw o) (by omega)
      cases hb : freeB l i o
      · rw [frees_no hi hb]; omega
      · rw [frees_yes hi hb]; simp; omega
    · rw [frees_out (by omega)]; simp
theorem least_some {l : List T3} : ∀ (f o : Nat), 11 - o ≤ f → ∀ b, leastL l o = some b → o ≤ b.o ∧ b.o ≤ 10 ∧ b.i % pw b.o = 0 ∧ b.i < l.length ∧ freeB l b.i b.o = true
  | 0, o, h, b, hb => by
    unfold leastL at hb; rw [show 11 - o = 0 by omega] at hb; cases hb
  | f + 1, o, h, b, hb => by
    by_cases ho : o ≤ 10
    · cases hf : freesL l o 0 with
      | nil =>
        rw [least_no ho hf] at hb
        obtain ⟨h1, h2⟩ := least_some f (o + 1) (by omega) b hb
        exact ⟨by omega, h2⟩
      | cons i t =>
        rw [least_yes ho hf] at hb
        cases hb
        have hm : i ∈ freesL l o 0 := by rw [hf]; simp
        rw [mem_frees0] at hm
        exact ⟨Nat.le_refl _, ho, hm.1, hm.2.1, hm.2.2⟩
    · unfold leastL at hb; rw [show 11 - o = 0 by omega] at hb; cases hb
theorem least_none {l : List T3} : ∀ (f o : Nat), 11 - o ≤ f → (leastL l o = none ↔ ∀ k, o ≤ k → k ≤ 10 → freesL l k 0 = [])
  | 0, o, h => by
    unfold leastL; rw [show 11 - o = 0 by omega]
    exact ⟨fun _ k h1 h2 => by omega, fun _ => rfl⟩
  | f + 1, o, h => by
    by_cases ho : o ≤ 10
    · cases hf : freesL l o 0 with
      | nil =>
        rw [least_no ho hf, least_none f (o + 1) (by omega)]
        constructor
        · intro h k h1 h2
          rcases Nat.eq_or_lt_of_le h1 with e | e
          · subst e; exact hf
          · exact h k e h2
        · exact fun h k h1 h2 => h k (by omega) h2
      | cons i t =>
        rw [least_yes ho hf]
        constructor
        · intro h; cases h
        · intro h; have := h o (Nat.le_refl _) ho; rw [hf] at this; cases this
    · unfold leastL; rw [show 11 - o = 0 by omega]
      exact ⟨fun _ k h1 h2 => by omega, fun _ => rfl⟩
theorem free_is {l : List T3} {i o : Nat} : freeB l i o = true ↔ i < l.length ∧ nth l i = ⟨0, o, 0⟩ := by
  unfold freeB; simp
theorem free_ok {l : List T3} (hv : Va l) {i o : Nat} (h : freeB l i o = true) : Rch l i ∧ o ≤ 10 ∧ i % pw o = 0 ∧ i + pw o ≤ l.length := by
  obtain ⟨h1, h2⟩ := free_is.1 h
  have hr := hd_of_kind hv h1 (by rw [h2]; show (0 : Int) ≠ 1; decide)
  obtain ⟨g1, g2, g3, _⟩ := hv i hr h1
  have hs : sz (nth l i) = pw o := by rw [h2, sz_mk]
  rw [hs] at g2 g3
  have := headB_range g1
  rw [h2] at this
  have h5 : ((o : Nat) : Int) ≤ 10 := this.2
  exact ⟨hr, by omega, g2, g3⟩

/-- The halves that are laid free while a block is split. -/
def splitL (l : List T3) (i t : Nat) : Nat → List T3
  | 0 => l
  | d + 1 => splitL (setL l (oth i (t + d)) ⟨0, (t + d : Nat), 0⟩) i t d
def allocL (l : List T3) (order cache : Nat) : List T3 := match leastL l order with
  | some b => setL (splitL l b.i order (b.o - order)) b.i ⟨2, order, cache⟩
  | none => l
def allocX (l : List T3) (order : Nat) : Int := match leastL l order with
  | some b => b.i
  | none => 0
def allocE (l : List T3) (order : Nat) : Int := match leastL l order with
  | some _ => 0
  | none => 7
/-- How far a free block grows: its buddies that are free join it. -/
def mergeK (l : List T3) : Nat → Nat → Nat → Bk
  | 0, i, o => ⟨i, o⟩
  | f + 1, i, o => if freeB l (oth i o) o then mergeK l f (min i (oth i o)) (o + 1) else ⟨i, o⟩
def mergeL (l : List T3) (i o : Nat) : Bk := mergeK l (10 - o) i o
def freeT (l : List T3) (i : Nat) : List T3 := setL l (mergeL l i (nth l i).b.toNat).i ⟨0, (mergeL l i (nth l i).b.toNat).o, 0⟩
theorem merge_top (l : List T3) {i o : Nat} (h : 10 ≤ o) : mergeL l i o = ⟨i, o⟩ := by unfold mergeL; rw [show 10 - o = 0 by omega]; rfl
theorem merge_yes {l : List T3} {i o : Nat} (h : o < 10) (hf : freeB l (oth i o) o = true) : mergeL l i o = mergeL l (min i (oth i o)) (o + 1) := by
  unfold mergeL
  obtain ⟨g, hg⟩ : ∃ g, 10 - o = g + 1 := ⟨9 - o, by omega⟩
  rw [hg]; simp only [mergeK]; rw [if_pos hf, show 10 - (o + 1) = g by omega]
theorem merge_no {l : List T3} {i o : Nat} (h : o < 10) (hf : freeB l (oth i o) o = false) : mergeL l i o = ⟨i, o⟩ := by
  unfold mergeL
  obtain ⟨g, hg⟩ : ∃ g, 10 - o = g + 1 := ⟨9 - o, by omega⟩
  rw [hg]; simp only [mergeK]; rw [if_neg (by rw [hf]; decide)]
end Go.Proofs.Ytjkknjohmekeiaa
