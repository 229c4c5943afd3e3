/- Plain: buddies of blocks; where free blocks lie; what is left when a block is given out. And Frees in memory. No condition. -/
import Derived.Test.YtjkknjohmekeiaaBuddyF
import Derived.Test.YtjkknjohmekeiaaFrameI
import Derived.Test.YtjkknjohmekeiaaNearH
namespace Go.Proofs.Ytjkknjohmekeiaa
open Go.RowKit

theorem oth_lo {i k : Nat} (h : i % pw (k + 1) = 0) : oth i k = i + pw k := by
  unfold oth pw at *
  obtain ⟨q, rfl⟩ := Nat.dvd_of_mod_eq_zero h
  have hk : 2 ^ k < 2 ^ (k + 1) := Nat.pow_lt_pow_right (by omega) (by omega)
  apply Nat.eq_of_testBit_eq
  intro j
  rw [Nat.testBit_xor, Nat.testBit_two_pow_mul_add q hk]
  have e : 2 ^ (k + 1) * q = 2 ^ (k + 1) * q + 0 := rfl
  rw [e, Nat.testBit_two_pow_mul_add q (by omega : 0 < 2 ^ (k + 1))]
  by_cases hj : j < k + 1
  · rw [if_pos hj, if_pos hj]; simp
  · rw [if_neg hj, if_neg hj]
    have : (2 ^ k).testBit j = false := by rw [Nat.testBit_two_pow]; simp; omega
    rw [this]; simp
theorem oth_oth (i k : Nat) : oth (oth i k) k = i := by unfold oth; rw [Nat.xor_assoc, Nat.xor_self, Nat.xor_zero]
theorem oth_hi {i k : Nat} (h0 : i % pw k = 0) (h : i % pw (k + 1) ≠ 0) : pw k ≤ i ∧ (i - pw k) % pw (k + 1) = 0 ∧ oth i k = i - pw k := by
  have hp := pw_pos k
  have hs := pw_succ k
  obtain ⟨q, rfl⟩ := Nat.dvd_of_mod_eq_zero h0
  have hodd : q % 2 = 1 := by
    rcases Nat.mod_two_eq_zero_or_one q with h1 | h1
    · exfalso; apply h
      obtain ⟨r, rfl⟩ : ∃ r, q = 2 * r := ⟨q / 2, by omega⟩
      rw [hs, show pw k * (2 * r) = 2 * pw k * r by rw [Nat.mul_comm 2 r, ← Nat.mul_assoc, Nat.mul_comm]; rw [← Nat.mul_assoc]]
      exact Nat.mul_mod_right _ _
    · exact h1
  obtain ⟨r, rfl⟩ : ∃ r, q = 2 * r + 1 := ⟨q / 2, by omega⟩
  have e : pw k * (2 * r + 1) = pw (k + 1) * r + pw k := by
    rw [hs, Nat.mul_add, Nat.mul_one, ← Nat.mul_assoc, Nat.mul_comm (pw k) 2]
  have e2 : (pw (k + 1) * r) % pw (k + 1) = 0 := Nat.mul_mod_right _ _
  refine ⟨by omega, ?_, ?_⟩
  · rw [e, Nat.add_sub_cancel]; exact e2
  · rw [e, Nat.add_sub_cancel]
    have := oth_lo (i := pw (k + 1) * r) (k := k) e2
    rw [← this, oth_oth]
theorem pw_dvd {a b : Nat} (h : a ≤ b) : pw a ∣ pw b := Nat.pow_dvd_pow 2 h
theorem al_down {i a b : Nat} (h : a ≤ b) (hb : i % pw b = 0) : i % pw a = 0 := Nat.mod_eq_zero_of_dvd (Nat.dvd_trans (pw_dvd h) (Nat.dvd_of_mod_eq_zero hb))

/-- Where free blocks of an order lie. -/
theorem mem_frees {l : List T3} {o : Nat} : ∀ (n i : Nat), l.length - i ≤ n → ∀ x, x ∈ freesL l o i ↔ (i ≤ x ∧ (x - i) % pw o = 0 ∧ x < l.length ∧ freeB l x o = true)
  | 0, i, h, x => by
    rw [frees_out (by omega)]
    constructor
    · intro h; cases h
    · rintro ⟨_, _, _, _⟩; omega
  | n + 1, i, h, x => by
    have hp := pw_pos o
    by_cases hi : i < l.length
    · have ih := mem_frees (l := l) (o := o) n (i + pw o) (by omega) x
      have hnext : (i + pw o ≤ x ∧ (x - (i + pw o)) % pw o = 0) ↔ (i < x ∧ (x - i) % pw o = 0) := by
        constructor
        · rintro ⟨h1, h2⟩
          refine ⟨by omega, ?_⟩
          rw [show x - i = (x - (i + pw o)) + pw o by omega, Nat.add_mod_right]; exact h2
        · rintro ⟨h1, h2⟩
          have h3 := Nat.le_of_dvd (by omega) (Nat.dvd_of_mod_eq_zero h2)
          refine ⟨by omega, ?_⟩
          rw [show x - i = (x - (i + pw o)) + pw o by omega, Nat.add_mod_right] at h2; exact h2
      cases hb : freeB l i o
      · rw [frees_no hi hb, ih]
        constructor
        · rintro ⟨h1, h2, h3, h4⟩
          obtain ⟨h5, h6⟩ := hnext.1 ⟨h1, h2⟩
          exact ⟨by omega, h6, h3, h4⟩
        · rintro ⟨h1, h2, h3, h4⟩
          rcases Nat.eq_or_lt_of_le h1 with e | e
          · subst e; rw [hb] at h4; cases h4
          · obtain ⟨h5, h6⟩ := hnext.2 ⟨e, h2⟩
            exact ⟨h5, h6, h3, h4⟩
      · rw [frees_yes hi hb, List.mem_cons, ih]
        constructor
        · rintro (rfl | ⟨h1, h2, h3, h4⟩)
          · exact ⟨Nat.le_refl _, by simp, hi, hb⟩
          · obtain ⟨h5, h6⟩ := hnext.1 ⟨h1, h2⟩
            exact ⟨by omega, h6, h3, h4⟩
        · rintro ⟨h1, h2, h3, h4⟩
          rcases Nat.eq_or_lt_of_le h1 with e | e
          · exact .inl e.symm
          · obtain ⟨h5, h6⟩ := hnext.2 ⟨e, h2⟩
            exact .inr ⟨h5, h6, h3, h4⟩
    · rw [frees_out (by omega)]
      constructor
      · intro h; cases h
      · rintro ⟨_, _, _, _⟩; omega
theorem mem_frees0 {l : List T3} {o x : Nat} : x ∈ freesL l o 0 ↔ (x % pw o = 0 ∧ x < l.length ∧ freeB l x o = true) := by
  rw [mem_frees l.length 0 (by omega)]; simp
theorem frees_len {l : List T3} {o : Nat} : ∀ (n i : Nat), l.length - i ≤ n → (freesL l o i).length ≤ n
  | 0, i, h => by rw [frees_out (by omega)]; simp
  | n + 1, i, h => by
    have hp := pw_pos o
    by_cases hi : i < l.length
    · have ih := frees_len (l := l) (o := o) n (i + pw o) (by omega)
      cases hb : freeB l i o
      · rw [frees_no hi hb]; omega
      · rw [frees_yes hi hb]; simp; omega
    · rw [frees_out (by omega)]; simp
theorem least_some {l : List T3} : ∀ (f o : Nat), 11 - o ≤ f → ∀ b, leastL l o = some b → o ≤ b.o ∧ b.o ≤ 10 ∧ b.i % pw b.o = 0 ∧ b.i < l.length ∧ freeB l b.i b.o = true
  | 0, o, h, b, hb => by
    unfold leastL at hb; rw [show 11 - o = 0 by omega] at hb; cases hb
  | f + 1, o, h, b, hb => by
    by_cases ho : o ≤ 10
    · cases hf : freesL l o 0 with
      | nil =>
        rw [least_no ho hf] at hb
        obtain ⟨h1, h2⟩ := least_some f (o + 1) (by omega) b hb
        exact ⟨by omega, h2⟩
      | cons i t =>
        rw [least_yes ho hf] at hb
        cases hb
        have hm : i ∈ freesL l o 0 := by rw [hf]; simp
        rw [mem_frees0] at hm
        exact ⟨Nat.le_refl _, ho, hm.1, hm.2.1, hm.2.2⟩
    · unfold leastL at hb; rw [show 11 - o = 0 by omega] at hb; cases hb
theorem least_none {l : List T3} : ∀ (f o : Nat), 11 - o ≤ f → (leastL l o = none ↔ ∀ k, o ≤ k → k ≤ 10 → freesL l k 0 = [])
  | 0, o, h => by
    unfold leastL; rw [show 11 - o = 0 by omega]
    exact ⟨fun _ k h1 h2 => by omega, fun _ => rfl⟩
  | f + 1, o, h => by
    by_cases ho : o ≤ 10
    · cases hf : freesL l o 0 with
      | nil =>
        rw [least_no ho hf, least_none f (o + 1) (by omega)]
        constructor
        · intro h k h1 h2
          rcases Nat.eq_or_lt_of_le h1 with e | e
          · subst e; exact hf
          · exact h k e h2
        · exact fun h k h1 h2 => h k (by omega) h2
      | cons i t =>
        rw [least_yes ho hf]
        constructor
        · intro h; cases h
        · intro h; have := h o (Nat.le_refl _) ho; rw [hf] at this; cases this
    · unfold leastL; rw [show 11 - o = 0 by omega]
      exact ⟨fun _ k h1 h2 => by omega, fun _ => rfl⟩
theorem free_is {l : List T3} {i o : Nat} : freeB l i o = true ↔ i < l.length ∧ nth l i = ⟨0, o, 0⟩ := by
  unfold freeB; simp
theorem free_ok {l : List T3} (hv : Va l) {i o : Nat} (h : freeB l i o = true) : Rch l i ∧ o ≤ 10 ∧ i % pw o = 0 ∧ i + pw o ≤ l.length := by
  obtain ⟨h1, h2⟩ := free_is.1 h
  have hr := hd_of_kind hv h1 (by rw [h2]; show (0 : Int) ≠ 1; decide)
  obtain ⟨g1, g2, g3, _⟩ := hv i hr h1
  have hs : sz (nth l i) = pw o := by rw [h2, sz_mk]
  rw [hs] at g2 g3
  have := headB_range g1
  rw [h2] at this
  have h5 : ((o : Nat) : Int) ≤ 10 := this.2
  exact ⟨hr, by omega, g2, g3⟩

/-- The halves that are laid free while a block is split. -/
def splitL (l : List T3) (i t : Nat) : Nat → List T3
  | 0 => l
  | d + 1 => splitL (setL l (oth i (t + d)) ⟨0, (t + d : Nat), 0⟩) i t d
def allocL (l : List T3) (order cache : Nat) : List T3 := match leastL l order with
  | some b => setL (splitL l b.i order (b.o - order)) b.i ⟨2, order, cache⟩
  | none => l
def allocX (l : List T3) (order : Nat) : Int := match leastL l order with
  | some b => b.i
  | none => 0
def allocE (l : List T3) (order : Nat) : Int := match leastL l order with
  | some _ => 0
  | none => 7
/-- How far a free block grows: its buddies that are free join it. -/
def mergeK (l : List T3) : Nat → Nat → Nat → Bk
  | 0, i, o => ⟨i, o⟩
  | f + 1, i, o => if freeB l (oth i o) o then mergeK l f (min i (oth i o)) (o + 1) else ⟨i, o⟩
def mergeL (l : List T3) (i o : Nat) : Bk := mergeK l (10 - o) i o
def freeT (l : List T3) (i : Nat) : List T3 := setL l (mergeL l i (nth l i).b.toNat).i ⟨0, (mergeL l i (nth l i).b.toNat).o, 0⟩
theorem merge_top (l : List T3) {i o : Nat} (h : 10 ≤ o) : mergeL l i o = ⟨i, o⟩ := by unfold mergeL; rw [show 10 - o = 0 by omega]; rfl
theorem merge_yes {l : List T3} {i o : Nat} (h : o < 10) (hf : freeB l (oth i o) o = true) : mergeL l i o = mergeL l (min i (oth i o)) (o + 1) := by
  unfold mergeL
  obtain ⟨g, hg⟩ : ∃ g, 10 - o = g + 1 := ⟨9 - o, by omega⟩
  rw [hg]; simp only [mergeK]; rw [if_pos hf, show 10 - (o + 1) = g by omega]
theorem merge_no {l : List T3} {i o : Nat} (h : o < 10) (hf : freeB l (oth i o) o = false) : mergeL l i o = ⟨i, o⟩ := by
  unfold mergeL
  obtain ⟨g, hg⟩ : ∃ g, 10 - o = g + 1 := ⟨9 - o, by omega⟩
  rw [hg]; simp only [mergeK]; rw [if_neg (by rw [hf]; decide)]
end Go.Proofs.Ytjkknjohmekeiaa
