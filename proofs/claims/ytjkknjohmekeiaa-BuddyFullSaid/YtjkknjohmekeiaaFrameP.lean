/- Plain: the blocks of a table, in their order. No condition. -/
import Derived.Test.YtjkknjohmekeiaaFrameA
namespace Go.Proofs.Ytjkknjohmekeiaa
open Go.RowKit

/-- How many pages a block has. -/
def sz (p : T3) : Nat := 2 ^ p.b.toNat
/-- What stands inside a block is marked so. -/
def mid (l : List T3) (i : Nat) : List T3 := (l.drop (i + 1)).take (sz (nth l i) - 1)
def okAt (l : List T3) (i : Nat) : Bool := headB (nth l i) && (decide (i % sz (nth l i) = 0) && (decide (i + sz (nth l i) ≤ l.length) && !(mid l i).any notIn))
def bseqF (l : List T3) : Nat → Nat → List (Int × T3)
  | 0, _ => []
  | f + 1, i => if i < l.length then if okAt l i then ((i : Int), nth l i) :: bseqF l f (i + sz (nth l i)) else [(-1, nth l i)] else []
/-- The blocks from a place on; behind one that may not be there is none, and it is told as -1. -/
def bseq (l : List T3) (i : Nat) : List (Int × T3) := bseqF l (l.length - i) i
def bl (l : List T3) : List (Int × T3) := bseq l 0

theorem sz_pos (p : T3) : 1 ≤ sz p := Nat.one_le_two_pow
theorem bseqF_ge (l : List T3) : ∀ (f i : Nat), l.length - i ≤ f → bseqF l f i = bseqF l (l.length - i) i
  | 0, i, h => by rw [show l.length - i = 0 by omega]
  | f + 1, i, h => by
    by_cases hi : i < l.length
    · obtain ⟨g, hg⟩ : ∃ g, l.length - i = g + 1 := ⟨l.length - i - 1, by omega⟩
      rw [hg]
      simp only [bseqF]
      have hp := sz_pos (nth l i)
      rw [bseqF_ge l f (i + sz (nth l i)) (by omega), bseqF_ge l g (i + sz (nth l i)) (by omega)]
    · rw [show l.length - i = 0 by omega]
      simp only [bseqF]
      rw [if_neg hi]
theorem bseq_out {l : List T3} {i : Nat} (h : l.length ≤ i) : bseq l i = [] := by
  unfold bseq; rw [show l.length - i = 0 by omega]; rfl
theorem bseq_ok {l : List T3} {i : Nat} (h : i < l.length) (ho : okAt l i = true) : bseq l i = ((i : Int), nth l i) :: bseq l (i + sz (nth l i)) := by
  unfold bseq
  obtain ⟨g, hg⟩ : ∃ g, l.length - i = g + 1 := ⟨l.length - i - 1, by omega⟩
  have hp := sz_pos (nth l i)
  rw [hg]
  simp only [bseqF]
  rw [if_pos h, if_pos ho, bseqF_ge l g _ (by omega)]
theorem bseq_bad {l : List T3} {i : Nat} (h : i < l.length) (ho : okAt l i = false) : bseq l i = [(-1, nth l i)] := by
  unfold bseq
  obtain ⟨g, hg⟩ : ∃ g, l.length - i = g + 1 := ⟨l.length - i - 1, by omega⟩
  rw [hg]
  simp only [bseqF]
  rw [if_pos h, ho]; rfl

theorem headB_range {p : T3} (h : headB p = true) : 0 ≤ p.b ∧ p.b ≤ 10 := by
  simp only [headB, Bool.and_eq_true, decide_eq_true_eq] at h
  exact h.1
theorem sz_le {p : T3} (h : headB p = true) : sz p ≤ 1024 := by
  have := headB_range h
  unfold sz
  calc 2 ^ p.b.toNat ≤ 2 ^ 10 := Nat.pow_le_pow_right (by omega) (by omega)
    _ = 1024 := rfl
theorem okAt_iff {l : List T3} {i : Nat} : okAt l i = true ↔ headB (nth l i) = true ∧ i % sz (nth l i) = 0 ∧ i + sz (nth l i) ≤ l.length ∧ (mid l i).any notIn = false := by
  unfold okAt
  simp only [Bool.and_eq_true, decide_eq_true_eq, Bool.not_eq_true']

/-- The order's last four bits, and one shifted by them. -/
theorem shl_any (x : Int) : ∃ s : Int, (∀ w, (Op.shift .shl .i64 1 .i64 (Go.bits .and .i64 x 15)).run Try.prog w = .ok (.int .i64 s) w) ∧ (0 ≤ x → x ≤ 10 → s = ((2 ^ x.toNat : Nat) : Int)) := by
  obtain ⟨m, hm⟩ : ∃ m : Nat, (BitVec.ofInt 64 x).toNat &&& 15 = m := ⟨_, rfl⟩
  have hm15 : m ≤ 15 := by rw [← hm]; exact Nat.and_le_right
  have hb : Go.bits .and .i64 x 15 = (m : Int) := by
    show IntKind.i64.wrap ((BitVec.ofInt 64 x &&& BitVec.ofInt 64 15).toNat : Int) = _
    rw [BitVec.toNat_and, show (BitVec.ofInt 64 15).toNat = 15 from rfl, hm, IntKind.wrap_i64]
    omega
  refine ⟨IntKind.i64.wrap (1 * 2 ^ m), fun w => ?_, fun h0 h1 => ?_⟩
  · rw [hb, shift_shl_i64 (yk := .i64) (x := 1) (y := (m : Int)) (by omega) (by omega)]
    rfl
  · have hx : (BitVec.ofInt 64 x).toNat = x.toNat := by
      obtain ⟨k, rfl⟩ : ∃ k : Nat, x = (k : Int) := ⟨x.toNat, by omega⟩
      rw [BitVec.ofInt_natCast, BitVec.toNat_ofNat, Int.toNat_natCast]
      exact Nat.mod_eq_of_lt (Nat.lt_of_le_of_lt (show k ≤ 10 by omega) (by decide))
    have hmx : m = x.toNat := by
      rw [← hm, hx, show (15 : Nat) = 2 ^ 4 - 1 from rfl, Nat.and_two_pow_sub_one_eq_mod]
      omega
    subst hmx
    have hle : 2 ^ x.toNat ≤ 2 ^ 10 := Nat.pow_le_pow_right (by omega) (by omega)
    have e : (1 * 2 ^ x.toNat : Int) = ((2 ^ x.toNat : Nat) : Int) := by rw [Int.one_mul]; norm_cast
    obtain ⟨z, hz⟩ : ∃ z : Nat, 2 ^ x.toNat = z := ⟨_, rfl⟩
    rw [e, IntKind.wrap_i64]
    rw [hz] at hle ⊢
    have hle : z ≤ 1024 := hle
    omega
theorem and_mask (i : Nat) (p : T3) (hi : i < 4611686018427387904) (h : headB p = true) : Go.bits .and .i64 (i : Int) ((sz p : Int) - 1) = ((i % sz p : Nat) : Int) := by
  have h1 := sz_pos p
  have h2 := sz_le h
  have e1 : ((sz p : Int) - 1) = ((sz p - 1 : Nat) : Int) := by omega
  have e2 : i &&& (sz p - 1) = i % sz p := by unfold sz; exact Nat.and_two_pow_sub_one_eq_mod _ _
  have h3 : i % sz p < sz p := Nat.mod_lt _ (by omega)
  rw [e1, bits_and_i64 i (sz p - 1) hi (by omega) (by rw [e2]; omega), e2]

/-- A part of a slice. -/
theorem RdT.sub {F : Nat → Prop} {w : World} {b off n cap : Nat} {l : List T3} (h : RdT F w (.slice (some ⟨b, off, none⟩) n cap) l) {lo m : Nat} (h2 : lo + m ≤ l.length) :
    RdT F w (.slice (some ⟨b, off + lo * 3, none⟩) m (cap - lo)) ((l.drop lo).take m) := by
  have hl : ((l.drop lo).take m).length = m := by simp; omega
  obtain ⟨a', cap', e, g1, g2, g3, g4⟩ := h
  cases e
  unfold RdT
  rw [hl]
  refine ⟨_, _, rfl, by rw [t3sCells_len, hl], by omega, by unfold maxLen at *; omega, fun hne => ?_⟩
  have hm : 0 < m := by
    rcases Nat.eq_zero_or_pos m with h0 | h0
    · subst h0; exact absurd (by simp [t3sCells]) hne
    · exact h0
  obtain ⟨b', off', e2, k1, k2, k3⟩ := g4 (by intro e; rw [e] at g1; simp at g1; omega)
  cases e2
  refine ⟨b, off + lo * 3, rfl, k1, k2, fun i u hu => ?_⟩
  have hi : i < m * 3 := by
    have := (List.getElem?_eq_some_iff.1 hu).1
    rw [t3sCells_len, hl] at this; exact this
  have hq : i / 3 < m := by omega
  have hdm : i / 3 * 3 + i % 3 = i := by omega
  rw [← hdm, t3sCells_at (by rw [hl]; exact hq) (by omega)] at hu
  have e3 : nth ((l.drop lo).take m) (i / 3) = nth l (lo + i / 3) := by
    rw [nth_eq (by rw [hl]; exact hq), nth_eq (by omega)]
    simp
  rw [e3] at hu
  have := k3 ((lo + i / 3) * 3 + i % 3) u (by rw [t3sCells_at (by omega) (by omega)]; exact hu)
  rw [show off + lo * 3 + i = off + ((lo + i / 3) * 3 + i % 3) by omega]
  exact this
theorem RdT.empty {F : Nat → Prop} {w : World} (a : Option Addr) (cap : Nat) (hc : cap ≤ 9223372036854775807) : RdT F w (.slice a 0 cap) [] :=
  ⟨_, _, rfl, rfl, Nat.zero_le _, by unfold maxLen; omega, fun hne => absurd rfl hne⟩
end Go.Proofs.Ytjkknjohmekeiaa
