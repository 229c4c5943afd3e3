/- Buddies to which calls are done; what is out of them. No condition. -/
import Derived.Test.YtjkknjohmekeiaaBuddyN
import Derived.Test.YtjkknjohmekeiaaLawA
namespace Go.Proofs.Ytjkknjohmekeiaa
open Go.RowKit

/-- What is left of a list out of which one is taken, the last in its place. -/
def rmv (out : List Nat) (k : Nat) : List Nat := (out.set k (nth out (out.length - 1))).take (out.length - 1)
theorem rmv_perm {out : List Nat} {k : Nat} (h : k < out.length) : (nth out k :: rmv out k).Perm out := by
  obtain ⟨A, x, R, rfl, hA⟩ : ∃ A x R, out = A ++ x :: R ∧ A.length = k :=
    ⟨out.take k, out[k], out.drop (k + 1), by rw [List.getElem_cons_drop, List.take_append_drop], by simp; omega⟩
  subst hA
  have e1 : nth (A ++ x :: R) A.length = x := by rw [nth_eq h]; simp
  rw [e1]
  rcases List.eq_nil_or_concat R with rfl | ⟨B, y, rfl⟩
  · unfold rmv
    have : (A ++ [x]).length - 1 = A.length := by simp
    rw [this, List.set_append_right _ _ (Nat.le_refl _), List.take_left' rfl]
    exact (List.perm_append_comm (l₁ := [x]) (l₂ := A))
  · rw [List.concat_eq_append] at *
    unfold rmv
    have hl : (A ++ x :: (B ++ [y])).length - 1 = A.length + (B.length + 1) := by simp
    have hy : nth (A ++ x :: (B ++ [y])) (A.length + (B.length + 1)) = y := by
      rw [nth_eq (by simp)]
      rw [List.getElem_append_right (by omega)]
      simp
    rw [hl, hy, List.set_append_right _ _ (Nat.le_refl _), Nat.sub_self, List.set_cons_zero]
    have e : A ++ y :: (B ++ [y]) = (A ++ y :: B) ++ [y] := by simp
    rw [e, List.take_left' (by simp)]
    have p1 : (A ++ y :: B).Perm (y :: (A ++ B)) := List.perm_middle
    have p2 : (A ++ x :: (B ++ [y])).Perm (x :: (A ++ (B ++ [y]))) := List.perm_middle
    refine List.Perm.trans (.cons x ?_) p2.symm
    refine p1.trans ?_
    have p3 : (A ++ B ++ [y]).Perm (y :: (A ++ B)) := by
      have := List.perm_append_comm (l₁ := A ++ B) (l₂ := [y])
      exact this
    rw [← List.append_assoc]
    exact p3.symm
theorem rmv_len {out : List Nat} {k : Nat} (h : k < out.length) : (rmv out k).length = out.length - 1 := by
  have := (rmv_perm h).length_eq
  simp at this; omega
theorem toI_nth {l : List Nat} {k : Nat} (h : k < l.length) : nth ((toI l).map int) k = .int .i64 ((nth l k : Nat) : Int) := by
  rw [nth_map int (by rw [toI_len]; exact h)]
  unfold toI
  rw [nth_map _ h]; rfl
theorem toI_set (l : List Nat) (k x : Nat) : ((toI l).map int).set k (.int .i64 x) = (toI (l.set k x)).map int := by
  unfold toI; rw [List.map_set, List.map_set]; rfl
theorem toI_take (l : List Nat) (k : Nat) : ((toI l).map int).take k = (toI (l.take k)).map int := by
  unfold toI; rw [List.map_take, List.map_take]
theorem own_take {w : World} {base e n : Nat} {a : Option Addr} {cap : Nat} {xs : List Value} (h : w.ownsRow base e 1 (.slice a n cap) n xs) {m : Nat} (hm : m ≤ n) (hn : 0 < n) : w.ownsRow base e 1 (.slice a m cap) m (xs.take m) := by
  obtain ⟨hl, ⟨h1, h2⟩ | ⟨g, cap', cur, h1, hb, hg, hc, hx, hs, ht⟩⟩ := h
  · omega
  · cases h1
    refine ⟨by simp; omega, .inr ⟨g, cap, cur, rfl, hb, hg, by omega, hx, hs, ?_⟩⟩
    rw [← ht, List.take_take]; simp; omega

/-- Buddies, and what is out of them, as a list. -/
structure PS (w0 w : World) (p : Nat) (v : Value) (l : List T3) (vo : Value) (out : List Nat) : Prop where
  b : BT w0 w p v l
  o : ∃ base, w0.heap.size ≤ base ∧ base ≤ w.heap.size ∧ w.ownsRow base 3 1 vo out.length ((toI out).map int)
  d : ∀ x, OwnOf vo x → x ≠ p ∧ ¬ OwnOf v x
  nd : out.Nodup
  mem : ∀ x, x ∈ out ↔ x < l.length ∧ (nth l x).a = 2
  len : out.length ≤ 60
section
variable {w0 w w' : World} {p : Nat} {v vo : Value} {l l' : List T3} {out : List Nat}
theorem PS.extNo (h : PS w0 w p v l vo out) (hx : Ext No w w') : PS w0 w' p v l vo out := by
  obtain ⟨base, h1, h2, h3⟩ := h.o
  exact ⟨h.b.extNo hx, ⟨base, h1, Nat.le_trans h2 hx.size, ownsRow_ext h3 hx (fun _ _ => id)⟩, h.d, h.nd, h.mem, h.len⟩
/-- The calls change the pages alone. -/
theorem PS.keep (h : PS w0 w p v l vo out) (hb : BT w0 w' p v l') (hx : Ext (OwnOf v) w w') (hl : l'.length = l.length) {out' : List Nat} (ho : out' = out)
    (hm : ∀ x, x ∈ out' ↔ x < l'.length ∧ (nth l' x).a = 2) : PS w0 w' p v l' vo out' := by
  subst ho
  obtain ⟨base, h1, h2, h3⟩ := h.o
  exact ⟨hb, ⟨base, h1, Nat.le_trans h2 hx.size, ownsRow_ext h3 hx (fun k hk => (h.d k hk).2)⟩, h.d, h.nd, hm, h.len⟩
theorem PS.val (h : PS w0 w p v l vo out) : ∃ a cap, vo = .slice a out.length cap ∧ out.length ≤ cap := by
  obtain ⟨base, _, _, h3⟩ := h.o
  exact ownsRow_val h3
theorem out_alloc (h : BI l) {t c : Nat} (hc : c ≤ 8) {b : Bk} (hb : leastL l t = some b) (hm : ∀ x, x ∈ out ↔ x < l.length ∧ (nth l x).a = 2) (hnd : out.Nodup) :
    (out ++ [b.i]).Nodup ∧ (∀ x, x ∈ out ++ [b.i] ↔ x < (allocL l t c).length ∧ (nth (allocL l t c) x).a = 2) ∧ (allocL l t c).length = l.length := by
  obtain ⟨_, _, _, h4, h5⟩ := least_some (11 - t) t (Nat.le_refl _) b hb
  obtain ⟨hp, _⟩ := h.alloc hc hb
  have hni : b.i ∉ out := by
    rw [hm]; rintro ⟨_, h2⟩
    rw [(free_is.1 h5).2] at h2; exact absurd h2 (by show ¬ (0 : Int) = 2; decide)
  refine ⟨?_, fun x => ?_, hp.len⟩
  · rw [List.nodup_append]
    exact ⟨hnd, by simp, fun a ha b' hb' => by simp at hb'; subst hb'; exact fun e => hni (e ▸ ha)⟩
  · rw [List.mem_append, List.mem_singleton, hm, hp.len]
    constructor
    · rintro (⟨h1, h2⟩ | rfl)
      · exact ⟨h1, (hp.out x h1).2 (.inr h2)⟩
      · exact ⟨h4, (hp.out _ h4).2 (.inl rfl)⟩
    · rintro ⟨h1, h2⟩
      rcases (hp.out x h1).1 h2 with e | e
      · exact .inr e
      · exact .inl ⟨h1, e⟩
theorem out_free (h : BI l) {k : Nat} (hk : k < out.length) (hm : ∀ x, x ∈ out ↔ x < l.length ∧ (nth l x).a = 2) (hnd : out.Nodup) :
    (rmv out k).Nodup ∧ (∀ x, x ∈ rmv out k ↔ x < (freeT l (nth out k)).length ∧ (nth (freeT l (nth out k)) x).a = 2) ∧ (freeT l (nth out k)).length = l.length ∧ frS l < frS (freeT l (nth out k)) := by
  have hmem : nth out k ∈ out := nth_mem hk
  obtain ⟨h1, h2⟩ := (hm _).1 hmem
  obtain ⟨q, c, hq, he⟩ := out_is h.va h1 h2
  obtain ⟨hp, _⟩ := h.free h1 he
  have hperm := rmv_perm hk
  have hnd2 := hperm.nodup_iff.2 hnd
  rw [List.nodup_cons] at hnd2
  refine ⟨hnd2.2, fun x => ?_, hp.len, by rw [hp.fr]; have := pw_pos q; omega⟩
  have hmm := hperm.mem_iff (a := x)
  rw [List.mem_cons] at hmm
  rw [hp.len]
  constructor
  · intro hx
    have h3 := (hm x).1 (hmm.1 (.inr hx))
    exact ⟨h3.1, (hp.out x h3.1).2 ⟨fun e => hnd2.1 (e ▸ hx), h3.2⟩⟩
  · rintro ⟨h3, h4⟩
    obtain ⟨h5, h6⟩ := (hp.out x h3).1 h4
    rcases hmm.2 ((hm x).2 ⟨h3, h6⟩) with e | e
    · exact absurd e h5
    · exact e
end
end Go.Proofs.Ytjkknjohmekeiaa
