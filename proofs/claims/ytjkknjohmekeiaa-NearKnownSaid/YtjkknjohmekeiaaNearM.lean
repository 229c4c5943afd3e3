/- The document's near pages as a state with a footprint. No condition. -/
import Derived.Test.YtjkknjohmekeiaaNearL
namespace Go.Proofs.Ytjkknjohmekeiaa
open Go.RowKit

theorem rs_new (w : World) (cpus cap : Int) :
    Calls Try.prog 46 #[.int .i64 cpus, .int .i64 cap] w fun e w' =>
      if (1 ≤ cpus ∧ cpus ≤ 8) ∧ 0 ≤ cap ∧ cap ≤ 64 then
        ∃ p F, e = .returned (.tuple #[.pointer (some ⟨p, 0, none⟩), .int .i64 0]) ∧ NS w' p F (List.replicate cpus.toNat []) cap 148 ∧ (∀ x, F x → w.heap.size ≤ x) ∧ w.heap.size ≤ p ∧ Ext No w w'
      else e = .returned (.tuple #[.pointer none, .int .i64 2]) ∧ w = w' := by
  refine (rnear_new w cpus cap).mono ?_
  intro e w' h
  split at h
  · rename_i hc
    obtain ⟨⟨nb, lb, h1, h2, h3, h4⟩, h5⟩ := h
    rw [if_pos hc]
    refine ⟨nb, _, h1, ⟨NOk.new (by omega) (by omega) hc.2.1 hc.2.2, lb, _, _, h2, Nat.le_refl _, rfl⟩, fun x hx => ?_, h3, h5⟩
    rcases hx with h | h | ⟨i, hi, ho⟩
    · omega
    · omega
    · rw [nth_eq hi] at ho
      simp [OwnOf, Value.ownBlock] at ho
  · rename_i hc
    rw [if_neg hc]; exact h

theorem rs_has (w : World) (p : Nat) (F : Nat → Prop) (ll : List (List Int)) (cap : Int) (h : NS w p F ll cap 148) (x : Int) :
    Calls Try.prog 100 #[.pointer (some ⟨p, 0, none⟩), .int .i64 x] w fun e w' => e = .returned (.bool (hasIn ll x)) ∧ w = w' := by
  obtain ⟨_, lb, base, vs, h1, h2, _⟩ := h
  exact rnear_has w p lb base vs ll cap h1 x

theorem rs_list (w : World) (p : Nat) (F : Nat → Prop) (ll : List (List Int)) (cap : Int) (h : NS w p F ll cap 148) (c : Int) :
    Calls Try.prog 49 #[.pointer (some ⟨p, 0, none⟩), .int .i64 c] w fun e w' => ∃ r, e = .returned r ∧ Ans w' r (listIn ll c) (fun b => w.heap.size ≤ b) ∧ Ext No w w' := by
  obtain ⟨h0, lb, base, vs, h1, h2, _⟩ := h
  refine (rnear_list w p lb base vs ll cap h1 c (fun l hl => by have := h0.lens l hl; have := h0.cap1; omega)).mono ?_
  rintro e w' ⟨r, he, ho, hx⟩
  exact ⟨r, he, (Ans.of_own ho).mono (fun b hb => (ho.lt b hb).1), hx⟩

theorem rs_drain (w : World) (p : Nat) (F : Nat → Prop) (ll : List (List Int)) (cap : Int) (h : NS w p F ll cap 148) (c : Int) :
    Calls Try.prog 99 #[.pointer (some ⟨p, 0, none⟩), .int .i64 c] w fun e w' => ∃ r, e = .returned r ∧ NPost w p F (drainL ll c) cap w' (fun F' => Ans w' r (listIn ll c) (fun b => ¬ F' b ∧ F b)) 148 := by
  have hok := h
  obtain ⟨h0, lb, base, vs, h1, h2, rfl⟩ := h
  have hn := h1.nums
  cases hi : inR ll c
  · obtain ⟨e0, hc⟩ := listIn_out hi
    have e1 : drainL ll c = ll := by unfold drainL; rw [hi]; simp
    refine (rnear_drain_out w p lb base vs ll cap h1 c hi).mono ?_
    rintro e w' ⟨he, rfl⟩
    refine ⟨_, he, NearF p lb vs, ?_, Ext.refl _ _, fun x hx => .inl hx, ?_⟩
    · rw [e1]; exact hok
    · rw [e0]; exact Ans.nil _ _
  · obtain ⟨e0, hk, ek⟩ := listIn_in hi
    have hD := rnear_drain w p lb base vs ll cap h1 c.toNat hk
    rw [ek] at hD
    refine hD.mono ?_
    rintro e w' ⟨he, hw, hN, hrow⟩
    have hx : Ext (One lb) w w' := by rw [hw]; exact Ext.set1 _ _ _ _
    have e1 : drainL ll c = ll.set c.toNat [] := by unfold drainL; rw [hi]; simp
    refine ⟨_, he, NearF p lb (vs.set c.toNat (.slice none 0 0)), ⟨h0.drain c, lb, base, _, e1 ▸ hN, Nat.le_trans h2 hx.size, rfl⟩, hx.mono (fun x _ (e : x = lb) => .inr (.inl e)), nearF_set (fun x hx => by simp [OwnOf, Value.ownBlock] at hx), ?_⟩
    rw [e0]
    refine (Ans.of_own hrow).mono (fun b hb => ⟨fun hN => ?_, .inr (.inr ⟨c.toNat, by rw [h1.len]; exact hk, hb⟩)⟩)
    have hbb := (hrow.lt b hb).1
    rcases hN with h | h | ⟨i, hi, ho⟩
    · omega
    · omega
    · rw [List.length_set] at hi
      by_cases hic : i = c.toNat
      · subst hic
        rw [nth_set_eq _ hi] at ho
        simp [OwnOf, Value.ownBlock] at ho
      · rw [nth_set_ne _ hi hic] at ho
        exact hic (h1.apart i c.toNat b (by rw [← h1.len]; exact hi) hk ho hb)

theorem rs_take (w : World) (p : Nat) (F : Nat → Prop) (ll : List (List Int)) (cap : Int) (h : NS w p F ll cap 148) (c : Int) :
    Calls Try.prog 98 #[.pointer (some ⟨p, 0, none⟩), .int .i64 c] w fun e w' => e = .returned (.tuple #[.int .i64 (takeX ll c), .bool (takeB ll c)]) ∧ NPost w p F (dropL ll c) cap w' (fun _ => True) 148 := by
  have hok := h
  obtain ⟨h0, lb, base, vs, h1, h2, rfl⟩ := h
  have hn := h1.nums
  cases hi : inR ll c
  · obtain ⟨e0, hc⟩ := listIn_out hi
    have e1 : dropL ll c = ll := by unfold dropL; rw [hi]; simp
    refine (rnear_take_none w p lb base vs ll cap h1 c hi).mono ?_
    rintro e w' ⟨he, rfl⟩
    refine ⟨by unfold takeX takeB; rw [e0]; exact he, NearF p lb vs, ?_, Ext.refl _ _, fun x hx => .inl hx, trivial⟩
    rw [e1]; exact hok
  · obtain ⟨e0, hk, ek⟩ := listIn_in hi
    have e1 : dropL ll c = ll.set c.toNat (nth ll c.toNat).dropLast := by unfold dropL; rw [hi, e0]; simp
    obtain ⟨g1, _⟩ := h0.list c
    rw [e0] at g1
    have hcap := h0.cap1
    rcases Nat.eq_zero_or_pos (nth ll c.toNat).length with hz | hz
    · have hz' : nth ll c.toNat = [] := List.eq_nil_of_length_eq_zero hz
      have hT := rnear_take_empty w p lb base vs ll cap h1 c.toNat hk hz'
      rw [ek] at hT
      refine hT.mono ?_
      rintro e w' ⟨he, rfl⟩
      refine ⟨by unfold takeX takeB; rw [e0, hz']; exact he, NearF p lb vs, ?_, Ext.refl _ _, fun x hx => .inl hx, trivial⟩
      have e2 : ll.set c.toNat [] = ll := by
        have : nth ll c.toNat = [] := hz'
        rw [nth_eq hk] at this
        rw [← this]; exact List.set_getElem_self hk
      rw [e1, hz', List.dropLast_nil, e2]; exact hok
    · obtain ⟨n, hn1⟩ : ∃ n, (nth ll c.toNat).length = n + 1 := ⟨(nth ll c.toNat).length - 1, by omega⟩
      have hT := rnear_take_at w p lb base vs ll cap h1 c.toNat hk n hn1 (by omega)
      rw [ek] at hT
      refine hT.mono ?_
      rintro e w' ⟨he, hx, v', hN, hfr⟩
      have e3 : (nth ll c.toNat).take n = (nth ll c.toNat).dropLast := by rw [List.dropLast_eq_take, hn1]; rfl
      rw [e3] at hN
      refine ⟨?_, NearF p lb (vs.set c.toNat v'), ⟨h0.dropL c, lb, base, _, e1 ▸ hN, Nat.le_trans h2 hx.size, rfl⟩, hx.mono (fun x _ (e : x = lb) => .inr (.inl e)), nearF_set (fun x hx => .inl (.inr (.inr ⟨c.toNat, by rw [h1.len]; exact hk, hfr x hx⟩))), trivial⟩
      rw [he]
      unfold takeX takeB
      rw [e0]
      have hne : nth ll c.toNat ≠ [] := by intro e; rw [e] at hn1; simp at hn1
      have e4 : nth (nth ll c.toNat) n = (nth ll c.toNat).getLastD 0 := by
        have e6 : (nth ll c.toNat).length - 1 = n := by omega
        have e7 : (nth ll c.toNat)[n]? = some (nth (nth ll c.toNat) n) := nth_some (by omega)
        rw [List.getLastD_eq_getLast?, List.getLast?_eq_getElem?, e6, e7]
        rfl
      have e5 : (nth ll c.toNat).isEmpty = false := by simpa using hne
      rw [e4, e5]; rfl

theorem rs_put (w : World) (p : Nat) (F : Nat → Prop) (ll : List (List Int)) (cap : Int) (h : NS w p F ll cap 148) (c page : Int) :
    Calls Try.prog 97 #[.pointer (some ⟨p, 0, none⟩), .int .i64 c, .int .i64 page] w fun e w' => ∃ r, e = .returned (.tuple #[r, .int .i64 (putE ll c page)]) ∧
      NPost w p F (putL ll cap c page) cap w' (fun F' => Ans w' r (putA ll cap c page) (fun b => ¬ F' b ∧ w.heap.size ≤ b)) 148 := by
  have hok := h
  obtain ⟨h0, lb, base, vs, h1, h2, rfl⟩ := h
  have hn := h1.nums
  have hsame : putE ll c page ≠ 0 → ∀ (w' : World), Ext No w w' → NPost w p (NearF p lb vs) (putL ll cap c page) cap w' (fun F' => Ans w' (.slice none 0 0) (putA ll cap c page) (fun b => ¬ F' b ∧ w.heap.size ≤ b)) 148 := by
    intro hne w' hx
    unfold putL putA
    rw [if_neg hne, if_neg hne]
    exact ⟨NearF p lb vs, hok.extNo hx, hx.of_no, fun x hx => .inl hx, Ans.nil _ _⟩
  cases hi : inR ll c
  · have e9 : putE ll c page = 9 := by unfold putE; rw [hi]; simp
    refine (rnear_put_range w p lb base vs ll cap h1 c page hi).mono ?_
    rintro e w' ⟨he, rfl⟩
    exact ⟨_, by rw [e9]; exact he, hsame (by rw [e9]; decide) _ (Ext.refl _ _)⟩
  · obtain ⟨e0, hk, ek⟩ := listIn_in hi
    obtain ⟨g1, _⟩ := h0.list c
    rw [e0] at g1
    have hcap := h0.cap1
    by_cases hp : 0 ≤ page ∧ page < 1024
    · cases hh : hasIn ll page
      · have ez : putE ll c page = 0 := putE_zero.2 ⟨hi, hp.1, hp.2, hh⟩
        by_cases hfit : ((nth ll c.toNat).length : Int) + 1 ≤ cap
        · have ek0 : putK (nth ll c.toNat).length cap = 0 := by unfold putK; rw [if_pos hfit]
          have eL : putL ll cap c page = ll.set c.toNat (nth ll c.toNat ++ [page]) := by unfold putL; rw [if_pos ez, e0, ek0]; rfl
          have eA : putA ll cap c page = [] := by unfold putA; rw [if_pos ez, e0, ek0]; rfl
          have hP := rnear_put_fit w p lb base vs ll cap h1 h2 c.toNat hk page hp.1 hp.2 hh (by omega) hfit
          rw [ek] at hP
          refine hP.mono ?_
          rintro e w' ⟨he, ⟨v', hN, hfr⟩, hx⟩
          refine ⟨_, by rw [ez]; exact he, NearF p lb (vs.set c.toNat v'), ⟨h0.put c page, lb, base, _, eL ▸ hN, Nat.le_trans h2 hx.size, rfl⟩, hx.mono (fun x _ (e : x = lb) => .inr (.inl e)), nearF_set (fun x hx => .inr (hfr x hx)), ?_⟩
          rw [eA]
          exact Ans.nil _ _
        · have ek0 : putK (nth ll c.toNat).length cap = ((nth ll c.toNat).length + 2) / 2 := by unfold putK; rw [if_neg hfit]
          obtain ⟨k, hk2⟩ : ∃ k, ((nth ll c.toNat).length + 2) / 2 = k := ⟨_, rfl⟩
          rw [hk2] at ek0
          have eL : putL ll cap c page = ll.set c.toNat ((nth ll c.toNat ++ [page]).drop k) := by unfold putL; rw [if_pos ez, e0, ek0]
          have eA : putA ll cap c page = (nth ll c.toNat ++ [page]).take k := by unfold putA; rw [if_pos ez, e0, ek0]
          have elen : ((nth ll c.toNat ++ [page]).take k).length = k := by simp; omega
          have hP := rnear_put_spill w p lb base vs ll cap h1 h2 c.toNat hk page hp.1 hp.2 hh (by omega) (by omega) k hk2
          rw [ek] at hP
          refine hP.mono ?_
          rintro e w' ⟨r, he, hrow, ⟨v', hN, hfr, hnot⟩, hx⟩
          refine ⟨r, by rw [ez]; exact he, NearF p lb (vs.set c.toNat v'), ⟨h0.put c page, lb, base, _, eL ▸ hN, Nat.le_trans h2 hx.size, rfl⟩, hx.mono (fun x _ (e : x = lb) => .inr (.inl e)), nearF_set (fun x hx => .inr (hfr x hx)), ?_⟩
          rw [eA]
          have hA := Ans.of_own (l := (nth ll c.toNat ++ [page]).take k) (by rw [elen]; exact hrow)
          refine hA.mono (fun b hb => ⟨fun hF => ?_, (hrow.lt b hb).1⟩)
          have hbb := (hrow.lt b hb).1
          rcases hF with h | h | ⟨i, hi2, ho⟩
          · omega
          · omega
          · rw [List.length_set] at hi2
            by_cases hic : i = c.toNat
            · subst hic
              rw [nth_set_eq _ hi2] at ho
              exact hnot b hb ho
            · rw [nth_set_ne _ hi2 hic] at ho
              have := ((h1.rows i (by rw [← h1.len]; exact hi2)).lt b ho).2
              omega
      · have e60 : putE ll c page = 60 := by unfold putE; rw [hi, hh]; simp [hp]
        refine (rnear_put_has w p lb base vs ll cap h1 c page hi hp.1 hp.2 hh).mono ?_
        rintro e w' ⟨he, rfl⟩
        exact ⟨_, by rw [e60]; exact he, hsame (by rw [e60]; decide) _ (Ext.refl _ _)⟩
    · have e9 : putE ll c page = 9 := by unfold putE; rw [hi]; simp; omega
      refine (rnear_put_page w p lb base vs ll cap h1 c page hi (by omega)).mono ?_
      rintro e w' ⟨he, rfl⟩
      exact ⟨_, by rw [e9]; exact he, hsame (by rw [e9]; decide) _ (Ext.refl _ _)⟩

/-! ### Both, side by side -/
/-- The program's near pages and the document's, with the same lists, in blocks of their own that are new since w0. -/
def NB (w0 w : World) (p q : Nat) (F G : Nat → Prop) (ll : List (List Int)) (cap : Int) : Prop :=
  NT w0 w p F ll cap ∧ NT w0 w q G ll cap 148 ∧ ∀ x, F x → ¬ G x
section
variable {w0 w w' : World} {p q : Nat} {F G : Nat → Prop} {ll L : List (List Int)} {cap : Int}
theorem NB.ext {S : Nat → Prop} (h : NB w0 w p q F G ll cap) (hx : Ext S w w') (hS : ∀ x, S x → ¬ F x ∧ ¬ G x ∧ w0.heap.size ≤ x) : NB w0 w' p q F G ll cap :=
  ⟨h.1.ext hx (fun x hf hs => (hS x hs).1 hf) (fun x hs => (hS x hs).2.2), h.2.1.ext hx (fun x hf hs => (hS x hs).2.1 hf) (fun x hs => (hS x hs).2.2), h.2.2⟩
theorem NB.extNo (h : NB w0 w p q F G ll cap) (hx : Ext No w w') : NB w0 w' p q F G ll cap := h.ext hx (fun _ h => h.elim)
/-- A step of the program's. -/
theorem NB.left {F' : Nat → Prop} (h : NB w0 w p q F G ll cap) (h1 : NT w0 w' p F' L cap) (hx : Ext F w w') (hg : Grows w F F') : NT w0 w' q G ll cap 148 ∧ ∀ x, F' x → ¬ G x :=
  ⟨h.2.1.ext hx (fun x hG hF => h.2.2 x hF hG) h.1.f, fun x hx hG => by
    rcases hg x hx with h1 | h1
    · exact h.2.2 x h1 hG
    · have := h.2.1.s.lt x hG; omega⟩
end
end Go.Proofs.Ytjkknjohmekeiaa
