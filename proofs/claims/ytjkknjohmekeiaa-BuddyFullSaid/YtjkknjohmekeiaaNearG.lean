/- Near pages as a state with a footprint: New, Put, Take, Drain, Has, List, each said once. No condition. -/
import Derived.Test.YtjkknjohmekeiaaNearF
namespace Go.Proofs.Ytjkknjohmekeiaa
open Go.RowKit

theorem nth_set_eq {α : Type} [Inhabited α] {l : List α} {k : Nat} (y : α) (h : k < l.length) : nth (l.set k y) k = y := by
  rw [nth_eq (by simpa using h)]; simp
theorem nth_set_ne {α : Type} [Inhabited α] {l : List α} {k i : Nat} (y : α) (h : i < l.length) (hk : i ≠ k) : nth (l.set k y) i = nth l i := by
  rw [nth_eq (by simpa using h), nth_eq h, List.getElem_set_ne (fun e => hk e.symm)]
theorem nth_mem {α : Type} [Inhabited α] {l : List α} {k : Nat} (h : k < l.length) : nth l k ∈ l := by rw [nth_eq h]; exact List.getElem_mem _

/-! ### Plain -/
def inR (ll : List (List Int)) (c : Int) : Bool := decide (0 ≤ c) && decide (c < ll.length)
def putE (ll : List (List Int)) (c page : Int) : Int := if inR ll c && (decide (0 ≤ page) && decide (page < 1024)) then if hasIn ll page then 60 else 0 else 9
def putK (n : Nat) (cap : Int) : Nat := if (n : Int) + 1 ≤ cap then 0 else (n + 2) / 2
def putL (ll : List (List Int)) (cap c page : Int) : List (List Int) := if putE ll c page = 0 then ll.set c.toNat ((listIn ll c ++ [page]).drop (putK (listIn ll c).length cap)) else ll
def putA (ll : List (List Int)) (cap c page : Int) : List Int := if putE ll c page = 0 then (listIn ll c ++ [page]).take (putK (listIn ll c).length cap) else []
def takeX (ll : List (List Int)) (c : Int) : Int := (listIn ll c).getLastD 0
def takeB (ll : List (List Int)) (c : Int) : Bool := !(listIn ll c).isEmpty
def dropL (ll : List (List Int)) (c : Int) : List (List Int) := if inR ll c then ll.set c.toNat (listIn ll c).dropLast else ll
def drainL (ll : List (List Int)) (c : Int) : List (List Int) := if inR ll c then ll.set c.toNat [] else ll

structure NOk (ll : List (List Int)) (cap : Int) : Prop where
  n1 : 0 < ll.length
  n8 : ll.length ≤ 8
  cap0 : 0 ≤ cap
  cap1 : cap ≤ 64
  lens : ∀ l ∈ ll, (l.length : Int) ≤ cap
  nums : ∀ l ∈ ll, ∀ x ∈ l, 0 ≤ x ∧ x < 1024

theorem NOk.set {ll : List (List Int)} {cap : Int} (h : NOk ll cap) (k : Nat) (l : List Int) (hl : (l.length : Int) ≤ cap) (hn : ∀ x ∈ l, 0 ≤ x ∧ x < 1024) : NOk (ll.set k l) cap :=
  ⟨by simpa using h.n1, by simpa using h.n8, h.cap0, h.cap1,
   fun x hx => by rcases List.mem_or_eq_of_mem_set hx with h1 | h1; exact h.lens x h1; subst h1; exact hl,
   fun x hx => by rcases List.mem_or_eq_of_mem_set hx with h1 | h1; exact h.nums x h1; subst h1; exact hn⟩
theorem listIn_in {ll : List (List Int)} {c : Int} (h : inR ll c = true) : listIn ll c = nth ll c.toNat ∧ c.toNat < ll.length ∧ (c.toNat : Int) = c := by
  simp only [inR, Bool.and_eq_true, decide_eq_true_eq] at h
  exact ⟨if_pos h, by omega, by omega⟩
theorem listIn_out {ll : List (List Int)} {c : Int} (h : inR ll c = false) : listIn ll c = [] ∧ (c < 0 ∨ (ll.length : Int) ≤ c) := by
  have : ¬ (0 ≤ c ∧ c < ll.length) := by
    intro hh
    simp only [inR, Bool.and_eq_false_iff, decide_eq_false_iff_not] at h
    omega
  exact ⟨if_neg this, by omega⟩
theorem NOk.list {ll : List (List Int)} {cap : Int} (h : NOk ll cap) (c : Int) : ((listIn ll c).length : Int) ≤ cap ∧ ∀ x ∈ listIn ll c, 0 ≤ x ∧ x < 1024 := by
  cases hi : inR ll c
  · rw [(listIn_out hi).1]; exact ⟨by simpa using h.cap0, by simp⟩
  · obtain ⟨e, hl, _⟩ := listIn_in hi
    rw [e]; exact ⟨h.lens _ (nth_mem hl), h.nums _ (nth_mem hl)⟩
theorem putE_zero {ll : List (List Int)} {c page : Int} : putE ll c page = 0 ↔ inR ll c = true ∧ 0 ≤ page ∧ page < 1024 ∧ hasIn ll page = false := by
  unfold putE
  cases h1 : inR ll c <;> cases h2 : hasIn ll page <;> simp
  split <;> decide
theorem NOk.put {ll : List (List Int)} {cap : Int} (h : NOk ll cap) (c page : Int) : NOk (putL ll cap c page) cap := by
  unfold putL
  split
  · rename_i h0
    obtain ⟨h1, h2, h3, _⟩ := putE_zero.1 h0
    obtain ⟨g1, g2⟩ := h.list c
    apply h.set
    · simp only [List.length_drop, List.length_append, List.length_cons, List.length_nil]
      unfold putK; split <;> omega
    · intro x hx
      have := List.mem_of_mem_drop hx
      rw [List.mem_append] at this
      rcases this with h4 | h4
      · exact g2 x h4
      · simp only [List.mem_singleton] at h4; subst h4; exact ⟨h2, h3⟩
  · exact h
theorem NOk.dropL {ll : List (List Int)} {cap : Int} (h : NOk ll cap) (c : Int) : NOk (dropL ll c) cap := by
  obtain ⟨g1, g2⟩ := h.list c
  unfold Proofs.Ytjkknjohmekeiaa.dropL
  split
  · exact h.set _ _ (by simp only [List.length_dropLast]; have := h.cap0; omega) (fun x hx => g2 x (List.dropLast_subset _ hx))
  · exact h
theorem NOk.drain {ll : List (List Int)} {cap : Int} (h : NOk ll cap) (c : Int) : NOk (drainL ll c) cap := by
  unfold drainL
  split
  · exact h.set _ _ (by simpa using h.cap0) (by simp)
  · exact h
theorem NOk.new {n : Nat} {cap : Int} (h0 : 1 ≤ n) (h8 : n ≤ 8) (hc : 0 ≤ cap) (hc2 : cap ≤ 64) : NOk (List.replicate n []) cap :=
  ⟨by simp; omega, by simpa using h8, hc, hc2, fun l hl => by rw [List.mem_replicate] at hl; rw [hl.2]; simpa using hc, fun l hl => by rw [List.mem_replicate] at hl; rw [hl.2]; simp⟩

/-! ### The state -/
def Grows (w : World) (F F' : Nat → Prop) : Prop := ∀ x, F' x → F x ∨ w.heap.size ≤ x
/-- An answered slice of numbers, in a block of N that is known whole. -/
def Ans (w : World) (v : Value) (l : List Int) (N : Nat → Prop) : Prop :=
  (∃ a cap, v = .slice a 0 cap ∧ l = [] ∧ cap ≤ maxLen) ∨ ∃ b cs cap, v = .slice (some ⟨b, 0, none⟩) l.length cap ∧ l.length ≤ cap ∧ cap ≤ maxLen ∧ Blk w b cs 3 ∧ cs.take l.length = l.map int ∧ N b
theorem Ans.rd {w : World} {v : Value} {l : List Int} {N : Nat → Prop} (h : Ans w v l N) : RdI N w v l := by
  rcases h with ⟨a, cap, rfl, rfl, hc⟩ | ⟨b, cs, cap, rfl, h1, h2, h3, h4, h5⟩
  · exact ⟨_, _, rfl, by simp, by simp, hc, fun hne => absurd rfl hne⟩
  · refine ⟨_, _, rfl, by simp, h1, h2, fun _ => ⟨b, 0, rfl, h5, h3.lt, fun i u hu => ?_⟩⟩
    rw [Nat.zero_add]
    apply h3.cell'
    rw [← h4, List.getElem?_take] at hu
    split at hu
    · exact hu
    · cases hu
theorem Ans.nil (w : World) (N : Nat → Prop) : Ans w (.slice none 0 0) [] N := .inl ⟨none, 0, rfl, rfl, by simp [maxLen]⟩
theorem Ans.mono {w : World} {v : Value} {l : List Int} {N M : Nat → Prop} (h : Ans w v l N) (hm : ∀ x, N x → M x) : Ans w v l M := by
  rcases h with h | ⟨b, cs, cap, h0, h1, h2, h3, h4, h5⟩
  · exact .inl h
  · exact .inr ⟨b, cs, cap, h0, h1, h2, h3, h4, hm _ h5⟩
theorem Ans.ext {S : Nat → Prop} {w w' : World} {v : Value} {l : List Int} {N : Nat → Prop} (h : Ans w v l N) (hx : Ext S w w') (hS : ∀ x, N x → ¬ S x) : Ans w' v l N := by
  rcases h with h | ⟨b, cs, cap, h0, h1, h2, h3, h4, h5⟩
  · exact .inl h
  · exact .inr ⟨b, cs, cap, h0, h1, h2, h3.ext hx (hS _ h5), h4, h5⟩
theorem Ans.of_own {w : World} {v : Value} {l : List Int} {base : Nat} (h : w.ownsRow base 3 1 v l.length (l.map int)) : Ans w v l (fun b => OwnOf v b) := by
  obtain ⟨hl, ⟨rfl, h0⟩ | ⟨g, cap, cur, rfl, hb, hg, hn, hm, hs, ht⟩⟩ := h
  · have : l = [] := by apply List.eq_nil_of_length_eq_zero; simpa using h0
    subst this
    exact .inl ⟨none, 0, rfl, rfl, by simp [maxLen]⟩
  · refine .inr ⟨g, cur.toList, cap, rfl, hn, hm, ?_, by simpa using ht, rfl⟩
    unfold Blk; rw [hg]

/-- Near pages at block p, in the blocks F. -/
def NS (w : World) (p : Nat) (F : Nat → Prop) (ll : List (List Int)) (cap : Int) (T : TypeId := 95) : Prop :=
  NOk ll cap ∧ ∃ lb base vs, NearR w p lb base vs ll cap T ∧ base ≤ w.heap.size ∧ F = NearF p lb vs
theorem NearR.lt {w : World} {nb lb base : Nat} {vs : List Value} {ll : List (List Int)} {cap : Int} {T : TypeId} (h : NearR w nb lb base vs ll cap T) (x : Nat) (hx : NearF nb lb vs x) : x < w.heap.size := by
  rcases hx with rfl | rfl | ⟨i, hi, ho⟩
  · exact h.n.lt
  · exact h.l.lt
  · exact ((h.rows i (by rw [← h.len]; exact hi)).lt x ho).2
theorem NS.lt {w : World} {p : Nat} {F : Nat → Prop} {ll : List (List Int)} {cap : Int} {T : TypeId} (h : NS w p F ll cap T) (x : Nat) (hx : F x) : x < w.heap.size := by
  obtain ⟨_, lb, base, vs, h1, _, rfl⟩ := h
  exact h1.lt x hx
theorem NS.ok {w : World} {p : Nat} {F : Nat → Prop} {ll : List (List Int)} {cap : Int} {T : TypeId} (h : NS w p F ll cap T) : NOk ll cap := h.1
theorem NS.ext {S : Nat → Prop} {w w' : World} {p : Nat} {F : Nat → Prop} {ll : List (List Int)} {cap : Int} {T : TypeId} (h : NS w p F ll cap T) (hx : Ext S w w') (hS : ∀ x, F x → ¬ S x) : NS w' p F ll cap T := by
  obtain ⟨h0, lb, base, vs, h1, h2, rfl⟩ := h
  exact ⟨h0, lb, base, vs, h1.ext hx hS, Nat.le_trans h2 hx.size, rfl⟩
theorem NS.extNo {w w' : World} {p : Nat} {F : Nat → Prop} {ll : List (List Int)} {cap : Int} {T : TypeId} (h : NS w p F ll cap T) (hx : Ext No w w') : NS w' p F ll cap T := h.ext hx (fun _ _ => id)

theorem nearF_set {nb lb : Nat} {vs : List Value} {w : World} {c : Nat} {v' : Value} (hv : ∀ x, OwnOf v' x → NearF nb lb vs x ∨ w.heap.size ≤ x) : Grows w (NearF nb lb vs) (NearF nb lb (vs.set c v')) := by
  intro x hx
  rcases hx with h | h | ⟨i, hi, ho⟩
  · exact .inl (.inl h)
  · exact .inl (.inr (.inl h))
  · rw [List.length_set] at hi
    by_cases hic : i = c
    · subst hic
      rw [nth_set_eq _ hi] at ho
      exact hv x ho
    · rw [nth_set_ne _ hi hic] at ho
      exact .inl (.inr (.inr ⟨i, hi, ho⟩))

/-- What a call leaves. -/
def NPost (w : World) (p : Nat) (F : Nat → Prop) (ll : List (List Int)) (cap : Int) (w' : World) (Q : (Nat → Prop) → Prop) (T : TypeId := 95) : Prop :=
  ∃ F', NS w' p F' ll cap T ∧ Ext F w w' ∧ Grows w F F' ∧ Q F'

theorem ns_new (w : World) (cpus cap : Int) :
    Calls Try.prog 45 #[.int .i64 cpus, .int .i64 cap] w fun e w' =>
      if (1 ≤ cpus ∧ cpus ≤ 8) ∧ 0 ≤ cap ∧ cap ≤ 64 then
        ∃ p F, e = .returned (.tuple #[.pointer (some ⟨p, 0, none⟩), .int .i64 0]) ∧ NS w' p F (List.replicate cpus.toNat []) cap ∧ (∀ x, F x → w.heap.size ≤ x) ∧ w.heap.size ≤ p ∧ Ext No w w'
      else e = .returned (.tuple #[.pointer none, .int .i64 2]) ∧ w = w' := by
  refine (near_new w cpus cap).mono ?_
  intro e w' h
  split at h
  · rename_i hc
    obtain ⟨⟨nb, lb, h1, h2, h3, h4⟩, h5⟩ := h
    rw [if_pos hc]
    refine ⟨nb, _, h1, ⟨NOk.new (by omega) (by omega) hc.2.1 hc.2.2, lb, _, _, h2, Nat.le_refl _, rfl⟩, fun x hx => ?_, h3, h5⟩
    rcases hx with h | h | ⟨i, hi, ho⟩
    · omega
    · omega
    · rw [nth_eq hi] at ho
      simp [OwnOf, Value.ownBlock] at ho
  · rename_i hc
    rw [if_neg hc]; exact h

theorem ns_has (w : World) (p : Nat) (F : Nat → Prop) (ll : List (List Int)) (cap : Int) (h : NS w p F ll cap) (x : Int) :
    Calls Try.prog 54 #[.pointer (some ⟨p, 0, none⟩), .int .i64 x] w fun e w' => e = .returned (.bool (hasIn ll x)) ∧ Ext No w w' := by
  obtain ⟨_, lb, base, vs, h1, h2, _⟩ := h
  exact near_has w p lb base vs ll cap h1 h2 x

theorem ns_list (w : World) (p : Nat) (F : Nat → Prop) (ll : List (List Int)) (cap : Int) (h : NS w p F ll cap) (c : Int) :
    Calls Try.prog 48 #[.pointer (some ⟨p, 0, none⟩), .int .i64 c] w fun e w' => ∃ r, e = .returned r ∧ Ans w' r (listIn ll c) (fun b => w.heap.size ≤ b) ∧ Ext No w w' := by
  obtain ⟨h0, lb, base, vs, h1, h2, _⟩ := h
  refine (near_list w p lb base vs ll cap h1 c (fun l hl => by have := h0.lens l hl; have := h0.cap1; omega)).mono ?_
  rintro e w' ⟨r, he, ho, hx⟩
  exact ⟨r, he, (Ans.of_own ho).mono (fun b hb => (ho.lt b hb).1), hx⟩

theorem ns_drain (w : World) (p : Nat) (F : Nat → Prop) (ll : List (List Int)) (cap : Int) (h : NS w p F ll cap) (c : Int) :
    Calls Try.prog 53 #[.pointer (some ⟨p, 0, none⟩), .int .i64 c] w fun e w' => ∃ r, e = .returned r ∧ NPost w p F (drainL ll c) cap w' (fun F' => Ans w' r (listIn ll c) (fun b => ¬ F' b ∧ F b)) := by
  obtain ⟨h0, lb, base, vs, h1, h2, rfl⟩ := h
  have hn := h1.nums
  cases hi : inR ll c
  · obtain ⟨e0, hc⟩ := listIn_out hi
    have e1 : drainL ll c = ll := by unfold drainL; rw [hi]; simp
    refine (near_drain_out w p lb base vs ll cap h1 c hc).mono ?_
    rintro e w' ⟨he, rfl⟩
    refine ⟨_, he, NearF p lb vs, ?_, Ext.refl _ _, fun x hx => .inl hx, ?_⟩
    · rw [e1]; exact ⟨h0, lb, base, vs, h1, h2, rfl⟩
    · rw [e0]; exact Ans.nil _ _
  · obtain ⟨e0, hk, ek⟩ := listIn_in hi
    have hD := near_drain w p lb base vs ll cap h1 c.toNat hk
    rw [ek] at hD
    refine hD.mono ?_
    rintro e w' ⟨he, hw, hN, hrow⟩
    have hx : Ext (One lb) w w' := by rw [hw]; exact Ext.set1 _ _ _ _
    have e1 : drainL ll c = ll.set c.toNat [] := by unfold drainL; rw [hi]; simp
    refine ⟨_, he, NearF p lb (vs.set c.toNat (.slice none 0 0)), ⟨h0.drain c, lb, base, _, e1 ▸ hN, Nat.le_trans h2 hx.size, rfl⟩, hx.mono (fun x _ (e : x = lb) => .inr (.inl e)), nearF_set (fun x hx => by simp [OwnOf, Value.ownBlock] at hx), ?_⟩
    rw [e0]
    refine (Ans.of_own hrow).mono (fun b hb => ⟨fun hN => ?_, .inr (.inr ⟨c.toNat, by rw [h1.len]; exact hk, hb⟩)⟩)
    have hbb := (hrow.lt b hb).1
    rcases hN with h | h | ⟨i, hi, ho⟩
    · omega
    · omega
    · rw [List.length_set] at hi
      by_cases hic : i = c.toNat
      · subst hic
        rw [nth_set_eq _ hi] at ho
        simp [OwnOf, Value.ownBlock] at ho
      · rw [nth_set_ne _ hi hic] at ho
        exact hic (h1.apart i c.toNat b (by rw [← h1.len]; exact hi) hk ho hb)

theorem ns_take (w : World) (p : Nat) (F : Nat → Prop) (ll : List (List Int)) (cap : Int) (h : NS w p F ll cap) (c : Int) :
    Calls Try.prog 52 #[.pointer (some ⟨p, 0, none⟩), .int .i64 c] w fun e w' => e = .returned (.tuple #[.int .i64 (takeX ll c), .bool (takeB ll c)]) ∧ NPost w p F (dropL ll c) cap w' (fun _ => True) := by
  have hok := h
  obtain ⟨h0, lb, base, vs, h1, h2, rfl⟩ := h
  have hn := h1.nums
  cases hi : inR ll c
  · obtain ⟨e0, hc⟩ := listIn_out hi
    have e1 : dropL ll c = ll := by unfold dropL; rw [hi]; simp
    refine (near_take_none w p lb base vs ll cap h1 c hc).mono ?_
    rintro e w' ⟨he, rfl⟩
    refine ⟨by unfold takeX takeB; rw [e0]; exact he, NearF p lb vs, ?_, Ext.refl _ _, fun x hx => .inl hx, trivial⟩
    rw [e1]; exact hok
  · obtain ⟨e0, hk, ek⟩ := listIn_in hi
    have e1 : dropL ll c = ll.set c.toNat (nth ll c.toNat).dropLast := by unfold dropL; rw [hi, e0]; simp
    obtain ⟨g1, _⟩ := h0.list c
    rw [e0] at g1
    have hcap := h0.cap1
    rcases Nat.eq_zero_or_pos (nth ll c.toNat).length with hz | hz
    · have hz' : nth ll c.toNat = [] := List.eq_nil_of_length_eq_zero hz
      have hT := near_take_empty w p lb base vs ll cap h1 c.toNat hk hz'
      rw [ek] at hT
      refine hT.mono ?_
      rintro e w' ⟨he, rfl⟩
      refine ⟨by unfold takeX takeB; rw [e0, hz']; exact he, NearF p lb vs, ?_, Ext.refl _ _, fun x hx => .inl hx, trivial⟩
      have e2 : ll.set c.toNat [] = ll := by
        have : nth ll c.toNat = [] := hz'
        rw [nth_eq hk] at this
        rw [← this]; exact List.set_getElem_self hk
      rw [e1, hz', List.dropLast_nil, e2]; exact hok
    · obtain ⟨n, hn1⟩ : ∃ n, (nth ll c.toNat).length = n + 1 := ⟨(nth ll c.toNat).length - 1, by omega⟩
      have hT := near_take_at w p lb base vs ll cap h1 c.toNat hk n hn1 (by omega)
      rw [ek] at hT
      refine hT.mono ?_
      rintro e w' ⟨he, v', hw, hN, hfr⟩
      have hx : Ext (One lb) w w' := by rw [hw]; exact Ext.set1 _ _ _ _
      have e3 : (nth ll c.toNat).take n = (nth ll c.toNat).dropLast := by rw [List.dropLast_eq_take, hn1]; rfl
      rw [e3] at hN
      refine ⟨?_, NearF p lb (vs.set c.toNat v'), ⟨h0.dropL c, lb, base, _, e1 ▸ hN, Nat.le_trans h2 hx.size, rfl⟩, hx.mono (fun x _ (e : x = lb) => .inr (.inl e)), nearF_set (fun x hx => .inl (.inr (.inr ⟨c.toNat, by rw [h1.len]; exact hk, hfr x hx⟩))), trivial⟩
      rw [he]
      unfold takeX takeB
      rw [e0]
      have hne : nth ll c.toNat ≠ [] := by intro e; rw [e] at hn1; simp at hn1
      have e4 : nth (nth ll c.toNat) n = (nth ll c.toNat).getLastD 0 := by
        have e6 : (nth ll c.toNat).length - 1 = n := by omega
        have e7 : (nth ll c.toNat)[n]? = some (nth (nth ll c.toNat) n) := nth_some (by omega)
        rw [List.getLastD_eq_getLast?, List.getLast?_eq_getElem?, e6, e7]
        rfl
      have e5 : (nth ll c.toNat).isEmpty = false := by simpa using hne
      rw [e4, e5]; rfl

theorem ns_put (w : World) (p : Nat) (F : Nat → Prop) (ll : List (List Int)) (cap : Int) (h : NS w p F ll cap) (c page : Int) :
    Calls Try.prog 51 #[.pointer (some ⟨p, 0, none⟩), .int .i64 c, .int .i64 page] w fun e w' => ∃ r, e = .returned (.tuple #[r, .int .i64 (putE ll c page)]) ∧
      NPost w p F (putL ll cap c page) cap w' (fun F' => Ans w' r (putA ll cap c page) (fun b => ¬ F' b ∧ (F b ∨ w.heap.size ≤ b))) := by
  have hok := h
  obtain ⟨h0, lb, base, vs, h1, h2, rfl⟩ := h
  have hn := h1.nums
  have hsame : putE ll c page ≠ 0 → ∀ (w' : World), Ext No w w' → NPost w p (NearF p lb vs) (putL ll cap c page) cap w' (fun F' => Ans w' (.slice none 0 0) (putA ll cap c page) (fun b => ¬ F' b ∧ (NearF p lb vs b ∨ w.heap.size ≤ b))) := by
    intro hne w' hx
    unfold putL putA
    rw [if_neg hne, if_neg hne]
    exact ⟨NearF p lb vs, hok.extNo hx, hx.of_no, fun x hx => .inl hx, Ans.nil _ _⟩
  cases hi : inR ll c
  · obtain ⟨e0, hc⟩ := listIn_out hi
    have e9 : putE ll c page = 9 := by unfold putE; rw [hi]; simp
    refine (near_put_range w p lb base vs ll cap h1 h0.n1 c page hc).mono ?_
    rintro e w' ⟨he, rfl⟩
    exact ⟨_, by rw [e9]; exact he, hsame (by rw [e9]; decide) _ (Ext.refl _ _)⟩
  · obtain ⟨e0, hk, ek⟩ := listIn_in hi
    obtain ⟨g1, _⟩ := h0.list c
    rw [e0] at g1
    have hcap := h0.cap1
    by_cases hp : 0 ≤ page ∧ page < 1024
    · cases hh : hasIn ll page
      · have ez : putE ll c page = 0 := putE_zero.2 ⟨hi, hp.1, hp.2, hh⟩
        by_cases hfit : ((nth ll c.toNat).length : Int) + 1 ≤ cap
        · have ek0 : putK (nth ll c.toNat).length cap = 0 := by unfold putK; rw [if_pos hfit]
          have eL : putL ll cap c page = ll.set c.toNat (nth ll c.toNat ++ [page]) := by unfold putL; rw [if_pos ez, e0, ek0]; rfl
          have eA : putA ll cap c page = [] := by unfold putA; rw [if_pos ez, e0, ek0]; rfl
          have hP := near_put_fit w p lb base vs ll cap h1 h2 c.toNat hk page hp.1 hp.2 hh (by omega) hfit
          rw [ek] at hP
          refine hP.mono ?_
          rintro e w' ⟨a, he, ⟨v', hN, hfr⟩, hx⟩
          refine ⟨_, by rw [ez]; exact he, NearF p lb (vs.set c.toNat v'), ⟨h0.put c page, lb, base, _, eL ▸ hN, Nat.le_trans h2 hx.size, rfl⟩, hx, nearF_set (fun x hx => .inr (hfr x hx)), ?_⟩
          rw [eA]
          exact .inl ⟨a, 0, rfl, rfl, by simp [maxLen]⟩
        · have ek0 : putK (nth ll c.toNat).length cap = ((nth ll c.toNat).length + 2) / 2 := by unfold putK; rw [if_neg hfit]
          obtain ⟨k, hk2⟩ : ∃ k, ((nth ll c.toNat).length + 2) / 2 = k := ⟨_, rfl⟩
          rw [hk2] at ek0
          have eL : putL ll cap c page = ll.set c.toNat ((nth ll c.toNat ++ [page]).drop k) := by unfold putL; rw [if_pos ez, e0, ek0]
          have eA : putA ll cap c page = (nth ll c.toNat ++ [page]).take k := by unfold putA; rw [if_pos ez, e0, ek0]
          have elen : ((nth ll c.toNat ++ [page]).take k).length = k := by simp; omega
          have hP := near_put_spill w p lb base vs ll cap h1 h2 c.toNat hk page hp.1 hp.2 hh (by omega) h0.cap0 (by omega) k hk2
          rw [ek] at hP
          refine hP.mono ?_
          rintro e w' ⟨a, cs, he, hB, htk, hold, ⟨v', hN, hfr, hnot⟩, hx⟩
          refine ⟨_, by rw [ez]; exact he, NearF p lb (vs.set c.toNat v'), ⟨h0.put c page, lb, base, _, eL ▸ hN, Nat.le_trans h2 hx.size, rfl⟩, hx, nearF_set (fun x hx => .inr (hfr x hx)), ?_⟩
          rw [eA]
          exact .inr ⟨a, cs, k, by rw [elen], by rw [elen]; exact Nat.le_refl _, by unfold maxLen; omega, hB, by rw [elen]; exact htk, hnot, hold⟩
      · have e60 : putE ll c page = 60 := by unfold putE; rw [hi, hh]; simp [hp]
        have hP := near_put_has w p lb base vs ll cap h1 h2 c.toNat hk page hp.1 hp.2 hh
        rw [ek] at hP
        refine hP.mono ?_
        rintro e w' ⟨he, hx⟩
        exact ⟨_, by rw [e60]; exact he, hsame (by rw [e60]; decide) _ hx⟩
    · have e9 : putE ll c page = 9 := by unfold putE; rw [hi]; simp; omega
      have hP := near_put_page w p lb base vs ll cap h1 c.toNat hk page (by omega)
      rw [ek] at hP
      refine hP.mono ?_
      rintro e w' ⟨he, rfl⟩
      exact ⟨_, by rw [e9]; exact he, hsame (by rw [e9]; decide) _ (Ext.refl _ _)⟩
end Go.Proofs.Ytjkknjohmekeiaa
