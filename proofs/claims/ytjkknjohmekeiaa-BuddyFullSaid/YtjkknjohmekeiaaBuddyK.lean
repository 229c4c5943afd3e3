/- Plain: a table as its blocks, one behind the other; a block given out. No condition. -/
import Derived.Test.YtjkknjohmekeiaaBuddyG
namespace Go.Proofs.Ytjkknjohmekeiaa

def cell1 (p : T3) : List T3 := p :: List.replicate (sz p - 1) inside
def cellsB : List T3 → List T3
  | [] => []
  | p :: r => cell1 p ++ cellsB r
def tot : List T3 → Nat
  | [] => 0
  | p :: r => sz p + tot r
def Al : Nat → List T3 → Prop
  | _, [] => True
  | s, p :: r => headB p = true ∧ s % sz p = 0 ∧ Al (s + sz p) r
theorem cell1_len (p : T3) : (cell1 p).length = sz p := by have := sz_pos p; simp [cell1]; omega
theorem cellsB_len : ∀ bs, (cellsB bs).length = tot bs
  | [] => rfl
  | p :: r => by simp only [cellsB, tot, List.length_append, cell1_len, cellsB_len r]
theorem cellsB_app : ∀ A B, cellsB (A ++ B) = cellsB A ++ cellsB B
  | [], _ => rfl
  | p :: r, B => by simp only [List.cons_append, cellsB, cellsB_app r B, List.append_assoc]
theorem tot_app : ∀ A B, tot (A ++ B) = tot A + tot B
  | [], _ => by simp [tot]
  | p :: r, B => by simp only [List.cons_append, tot, tot_app r B]; omega
theorem al_app : ∀ (A B : List T3) (s : Nat), Al s (A ++ B) ↔ Al s A ∧ Al (s + tot A) B
  | [], B, s => by simp [Al, tot]
  | p :: r, B, s => by
    simp only [List.cons_append, Al, tot, al_app r B, Nat.add_assoc]
    constructor
    · rintro ⟨h1, h2, h3, h4⟩; exact ⟨⟨h1, h2, h3⟩, h4⟩
    · rintro ⟨⟨h1, h2, h3⟩, h4⟩; exact ⟨h1, h2, h3, h4⟩
theorem ext_nth {l l' : List T3} (h : l.length = l'.length) (h2 : ∀ j, j < l.length → nth l j = nth l' j) : l = l' := by
  apply List.ext_getElem h
  intro j h3 h4
  have := h2 j h3
  rw [nth_eq h3, nth_eq h4] at this; exact this
theorem nth_l {X Y : List T3} {j : Nat} (h : j < X.length) : nth (X ++ Y) j = nth X j := by
  rw [nth_eq (by simp; omega), nth_eq h, List.getElem_append_left h]
theorem nth_r {X Y : List T3} {j : Nat} (h : j < Y.length) : nth (X ++ Y) (X.length + j) = nth Y j := by
  rw [nth_eq (by simp; omega), nth_eq h, List.getElem_append_right (by omega)]
  congr 1; omega
theorem nth_r' {X Y : List T3} {j : Nat} (h1 : X.length ≤ j) (h : j < X.length + Y.length) : nth (X ++ Y) j = nth Y (j - X.length) := by
  have := nth_r (X := X) (Y := Y) (j := j - X.length) (by omega)
  rw [show X.length + (j - X.length) = j by omega] at this; exact this
theorem cell1_0 (p : T3) : nth (cell1 p) 0 = p := rfl
theorem cell1_in {p : T3} {j : Nat} (h0 : 0 < j) (h : j < sz p) : nth (cell1 p) j = inside := by
  have hl := cell1_len p
  rw [nth_eq (by omega)]
  unfold cell1
  obtain ⟨k, rfl⟩ : ∃ k, j = k + 1 := ⟨j - 1, by omega⟩
  simp
theorem set_tile {X Y Z : List T3} {i : Nat} {p : T3} (hi : X.length = i) (hy : Y.length = sz p) : setL (X ++ (Y ++ Z)) i p = X ++ (cell1 p ++ Z) := by
  subst hi
  unfold setL
  rw [List.take_left' rfl, ← hy, ← List.drop_drop, List.drop_left' rfl, List.drop_left' rfl, List.append_assoc]
  unfold cell1; rw [hy]
theorem take_tile {l X C D : List T3} {i s : Nat} (h : l = X ++ (C ++ D)) (hi : X.length = i) (hs : C.length = s) : l.take (i + s) = X ++ C := by
  rw [h, ← List.append_assoc, List.take_left' (by rw [List.length_append]; omega)]
theorem headB_free {o : Nat} (h : o ≤ 10) : headB ⟨0, o, 0⟩ = true := by
  unfold headB
  rw [decide_eq_true (Int.natCast_nonneg o), decide_eq_true (show (o : Int) ≤ 10 by omega)]; rfl
theorem headB_out {o c : Nat} (h : o ≤ 10) (hc : c ≤ 8) : headB ⟨2, o, c⟩ = true := by
  unfold headB
  rw [decide_eq_true (Int.natCast_nonneg o), decide_eq_true (show (o : Int) ≤ 10 by omega), decide_eq_true (Int.natCast_nonneg c), decide_eq_true (show (c : Int) ≤ 8 by omega)]; rfl

theorem setL_self {l : List T3} {i : Nat} (h : Ok l i) : setL l i (nth l i) = l := by
  have hf := h.2.2.1
  apply ext_nth (setL_len hf)
  intro j hj
  rw [setL_len hf] at hj
  rw [setL_nth hf hj]
  split
  · next e => rw [e]
  · split
    · next e => exact (h.2.2.2 j e.1 e.2).symm
    · rfl
theorem drop_tile {l : List T3} {i : Nat} (h : Ok l i) (hi : i < l.length) : l.drop i = cell1 (nth l i) ++ l.drop (i + sz (nth l i)) := by
  conv => lhs; rw [← setL_self h]
  unfold setL
  rw [List.append_assoc, List.drop_left' (by simp; omega)]
  rfl
theorem va_from {l : List T3} (hv : Va l) : ∀ (n i : Nat), l.length - i ≤ n → Rch l i → ∃ bs, l.drop i = cellsB bs ∧ Al i bs
  | 0, i, hn, hr => ⟨[], by rw [List.drop_eq_nil_of_le (by omega)]; rfl, trivial⟩
  | n + 1, i, hn, hr => by
    by_cases hi : i < l.length
    · have hok := hv i hr hi
      have hp := sz_pos (nth l i)
      obtain ⟨bs, h1, h2⟩ := va_from hv n (i + sz (nth l i)) (by omega) (hr.step hi)
      exact ⟨nth l i :: bs, by rw [drop_tile hok hi, h1]; rfl, hok.1, hok.2.1, h2⟩
    · exact ⟨[], by rw [List.drop_eq_nil_of_le (by omega)]; rfl, trivial⟩
theorem va_pre {l : List T3} (hv : Va l) {i : Nat} (hr : Rch l i) : ∃ A, l.take i = cellsB A ∧ Al 0 A := by
  induction hr with
  | zero => exact ⟨[], by simp [cellsB], trivial⟩
  | @step i hr hi ih =>
    obtain ⟨A, h1, h2⟩ := ih
    have hok := hv i hr hi
    have hf := hok.2.2.1
    have ht : tot A = i := by rw [← cellsB_len, ← h1]; simp; omega
    refine ⟨A ++ [nth l i], ?_, ?_⟩
    · have hd := drop_tile hok hi
      have e : l = l.take i ++ (cell1 (nth l i) ++ l.drop (i + sz (nth l i))) := by rw [← hd, List.take_append_drop]
      rw [cellsB_app, ← h1, take_tile e (by simp; omega) (cell1_len _)]
      simp [cellsB]
    · rw [al_app]
      refine ⟨h2, ?_, ?_, trivial⟩
      · exact hok.1
      · rw [ht, Nat.zero_add]; exact hok.2.1
/-- A table as blocks around one that begins at a place. -/
theorem va_split {l : List T3} (hv : Va l) {i : Nat} (hr : Rch l i) (hi : i < l.length) :
    ∃ A B, l = cellsB A ++ (cell1 (nth l i) ++ cellsB B) ∧ tot A = i ∧ Al 0 A ∧ Al (i + sz (nth l i)) B := by
  have hok := hv i hr hi
  have hf := hok.2.2.1
  obtain ⟨A, h1, h2⟩ := va_pre hv hr
  obtain ⟨B, h3, h4⟩ := va_from hv l.length _ (by omega) (hr.step hi)
  refine ⟨A, B, ?_, by rw [← cellsB_len, ← h1]; simp; omega, h2, h4⟩
  rw [← h1, ← h3, ← drop_tile hok hi, List.take_append_drop]
theorem tile_at {A B : List T3} {p : T3} {j : Nat} (h : j < sz p) : nth (cellsB (A ++ p :: B)) (tot A + j) = if j = 0 then p else inside := by
  rw [cellsB_app, ← cellsB_len A, nth_r (by simp only [cellsB, List.length_append, cell1_len]; omega)]
  simp only [cellsB]
  rw [nth_l (by rw [cell1_len]; exact h)]
  split
  · next e => subst e; rfl
  · exact cell1_in (by omega) h
theorem rch_tile {bs : List T3} {i : Nat} (hr : Rch (cellsB bs) i) : ∃ A B, bs = A ++ B ∧ tot A = i := by
  induction hr with
  | zero => exact ⟨[], bs, rfl, rfl⟩
  | @step i hr hi ih =>
    obtain ⟨A, B, rfl, h2⟩ := ih
    cases B with
    | nil => rw [cellsB_len, List.append_nil] at hi; omega
    | cons p r =>
      have := tile_at (A := A) (B := r) (p := p) (j := 0) (sz_pos p)
      rw [Nat.add_zero, h2, if_pos rfl] at this
      rw [this]
      exact ⟨A ++ [p], r, by simp, by rw [tot_app, h2]; simp [tot]⟩
theorem tile_va {bs : List T3} (h : Al 0 bs) : Va (cellsB bs) := by
  intro i hr hi
  obtain ⟨A, B, rfl, rfl⟩ := rch_tile hr
  cases B with
  | nil => rw [cellsB_len, List.append_nil] at hi; omega
  | cons p r =>
    rw [al_app] at h
    obtain ⟨_, h1, h2, _⟩ := h
    have h0 := tile_at (A := A) (B := r) (p := p) (j := 0) (sz_pos p)
    rw [Nat.add_zero, if_pos rfl] at h0
    unfold Ok
    rw [h0]
    refine ⟨h1, by simpa using h2, by rw [cellsB_len, tot_app]; simp [tot], fun j g1 g2 => ?_⟩
    have := tile_at (A := A) (B := r) (p := p) (j := j - tot A) (by omega)
    rw [show tot A + (j - tot A) = j by omega, if_neg (by omega)] at this; exact this

/-! ### Sums -/
def smB (c : T3 → Int) : List T3 → Int
  | [] => 0
  | p :: r => c p + smB c r
theorem smB_app (c : T3 → Int) : ∀ A B, smB c (A ++ B) = smB c A + smB c B
  | [], B => by simp [smB]
  | p :: r, B => by simp only [List.cons_append, smB, smB_app c r B]; omega
theorem smB_in (c : T3 → Int) (hc : c inside = 0) : ∀ n, smB c (List.replicate n inside) = 0
  | 0 => rfl
  | n + 1 => by rw [List.replicate_succ]; simp only [smB, smB_in c hc n, hc]; rfl
theorem smB_cell (c : T3 → Int) (hc : c inside = 0) (p : T3) : smB c (cell1 p) = c p := by
  unfold cell1; simp only [smB, smB_in c hc]; omega
theorem smB_tile (c : T3 → Int) (hc : c inside = 0) : ∀ bs, smB c (cellsB bs) = smB c bs
  | [] => rfl
  | p :: r => by simp only [cellsB, smB, smB_app, smB_cell c hc, smB_tile c hc r]
theorem sumTo_take (c : T3 → Int) (l : List T3) : ∀ k, k ≤ l.length → sumTo c l k = smB c (l.take k)
  | 0, _ => by simp [sumTo, smB]
  | k + 1, h => by
    rw [take_nth (by omega), smB_app]
    simp only [sumTo, smB, sumTo_take c l k (by omega)]; omega
/-- How many pages are free. -/
def frS (l : List T3) : Int := smB cFree l
theorem freeF_is {l : List T3} (h : tabOk l = true) : freeF l = frS l := by
  have hv := (tab_iff.1 h).2.2
  unfold freeF
  rw [if_pos h, ← free_all hv, sumTo_take _ _ _ (Nat.le_refl _), List.take_length]; rfl

/-! ### A block given out -/
def halves (t : Nat) : Nat → List T3
  | 0 => []
  | d + 1 => halves t d ++ [⟨0, (t + d : Nat), 0⟩]
theorem halves_tot (t : Nat) : ∀ d, tot (halves t d) + pw t = pw (t + d)
  | 0 => by simp [halves, tot]
  | d + 1 => by
    have ih := halves_tot t d
    have hs := pw_succ (t + d)
    simp only [halves, tot_app, tot]
    rw [sz_mk, show t + (d + 1) = t + d + 1 by omega]; omega
theorem split_tile {X : List T3} {i t : Nat} (c : Nat) (hi : X.length = i) : ∀ (d : Nat) (Z : List T3) (q : T3), i % pw (t + d) = 0 →
    setL (splitL (X ++ ((q :: List.replicate (pw (t + d) - 1) inside) ++ Z)) i t d) i ⟨2, t, c⟩ = X ++ (cell1 ⟨2, t, c⟩ ++ (cellsB (halves t d) ++ Z))
  | 0, Z, q, _ => by
    simp only [splitL, halves, cellsB, List.nil_append]
    have := pw_pos t
    exact set_tile hi (by rw [sz_mk]; simp; omega)
  | d + 1, Z, q, ha => by
    have hp := pw_pos (t + d)
    have hs := pw_succ (t + d)
    have hs' : pw (t + (d + 1)) = 2 * pw (t + d) := by rw [show t + (d + 1) = t + d + 1 by omega]; exact hs
    have hoth := oth_lo (i := i) (k := t + d) (by rw [show t + d + 1 = t + (d + 1) by omega]; exact ha)
    have hrep : (q :: List.replicate (pw (t + (d + 1)) - 1) inside) ++ Z = (q :: List.replicate (pw (t + d) - 1) inside) ++ (List.replicate (pw (t + d)) inside ++ Z) := by
      rw [show pw (t + (d + 1)) - 1 = (pw (t + d) - 1) + pw (t + d) by omega, ← List.replicate_append_replicate]
      simp only [List.cons_append, List.append_assoc]
    have hstep : setL (X ++ ((q :: List.replicate (pw (t + (d + 1)) - 1) inside) ++ Z)) (oth i (t + d)) ⟨0, (t + d : Nat), 0⟩ =
        X ++ ((q :: List.replicate (pw (t + d) - 1) inside) ++ (cell1 ⟨0, (t + d : Nat), 0⟩ ++ Z)) := by
      rw [hrep, ← List.append_assoc, set_tile (by rw [hoth]; simp; omega) (by rw [sz_mk]; simp), List.append_assoc]
    simp only [splitL]
    rw [hstep, split_tile c hi d _ q (al_down (by omega) ha)]
    simp only [halves, cellsB_app, cellsB, List.append_nil, List.append_assoc]
theorem halves_al {t : Nat} {i : Nat} : ∀ d, t + d ≤ 11 → i % pw (t + d) = 0 → Al (i + pw t) (halves t d)
  | 0, _, _ => trivial
  | d + 1, h, ha => by
    have hp := pw_succ (t + d)
    have hd := al_down (a := t + d) (b := t + (d + 1)) (by omega) ha
    simp only [halves]
    rw [al_app]
    refine ⟨halves_al d (by omega) hd, ?_, ?_, trivial⟩
    · exact headB_free (by omega)
    · have ht := halves_tot t d
      rw [sz_mk, show i + pw t + tot (halves t d) = i + pw (t + d) by omega, Nat.add_mod_right]; exact hd
theorem halves_at {t : Nat} : ∀ (d j o : Nat), j < tot (halves t d) → nth (cellsB (halves t d)) j = ⟨0, o, 0⟩ → t ≤ o ∧ o < t + d ∧ j + pw t = pw o
  | 0, j, o, h, _ => by simp [halves, tot] at h
  | d + 1, j, o, h, he => by
    have ht := halves_tot t d
    simp only [halves] at h he
    rw [cellsB_app] at he
    rw [tot_app] at h
    by_cases hj : j < tot (halves t d)
    · rw [nth_l (by rw [cellsB_len]; exact hj)] at he
      obtain ⟨h1, h2, h3⟩ := halves_at d j o hj he
      exact ⟨h1, by omega, h3⟩
    · rw [nth_r' (by rw [cellsB_len]; omega) (by simp only [cellsB_len]; exact h)] at he
      simp only [cellsB, List.append_nil, cellsB_len] at he
      simp only [tot] at h
      by_cases h0 : j - tot (halves t d) = 0
      · rw [h0, cell1_0] at he
        injection he with _ e2 _
        have : t + d = o := by exact_mod_cast e2
        subst this
        exact ⟨by omega, by omega, by omega⟩
      · rw [cell1_in (by omega) (by omega)] at he
        unfold inside at he
        injection he with e1
        omega
theorem halves_out {t : Nat} : ∀ (d j : Nat), j < tot (halves t d) → (nth (cellsB (halves t d)) j).a ≠ 2
  | 0, j, h => by simp [halves, tot] at h
  | d + 1, j, h => by
    simp only [halves] at h ⊢
    rw [cellsB_app]
    rw [tot_app] at h
    by_cases hj : j < tot (halves t d)
    · rw [nth_l (by rw [cellsB_len]; exact hj)]; exact halves_out d j hj
    · rw [nth_r' (by rw [cellsB_len]; omega) (by simp only [cellsB_len]; exact h)]
      simp only [cellsB, List.append_nil, cellsB_len]
      simp only [tot] at h
      by_cases h0 : j - tot (halves t d) = 0
      · rw [h0, cell1_0]; show (0 : Int) ≠ 2; decide
      · rw [cell1_in (by omega) (by omega)]; decide
theorem halves_sm (t : Nat) : ∀ d, smB cFree (halves t d) + pw t = pw (t + d)
  | 0 => by simp [halves, smB]
  | d + 1 => by
    have ih := halves_sm t d
    have hs := pw_succ (t + d)
    have e : cFree ⟨0, (t + d : Nat), 0⟩ = pw (t + d) := by unfold cFree; rw [if_pos (by rfl), sz_mk]
    simp only [halves, smB_app, smB]
    rw [e, show t + (d + 1) = t + d + 1 by omega]; omega

/-- What is so of a table out of which a block is given. -/
structure AllocP (l l' : List T3) (i t k c : Nat) : Prop where
  len : l'.length = l.length
  va : Va l'
  fr : frS l' = frS l - pw t
  at0 : nth l' i = ⟨2, t, c⟩
  out : ∀ x, x < l.length → ((nth l' x).a = 2 ↔ x = i ∨ (nth l x).a = 2)
  free : ∀ x o, freeB l' x o = true → freeB l x o = true ∨ (x = i + pw o ∧ o < k ∧ t ≤ o)
theorem allocP {l : List T3} (hv : Va l) {i t k c : Nat} (hf : freeB l i k = true) (ht : t ≤ k) (hc : c ≤ 8) : AllocP l (setL (splitL l i t (k - t)) i ⟨2, t, c⟩) i t k c := by
  obtain ⟨hr, hk, ha, hfit⟩ := free_ok hv hf
  obtain ⟨hi, he⟩ := free_is.1 hf
  obtain ⟨A, B, hl, hA, hA1, hB⟩ := va_split hv hr hi
  rw [he] at hl hB
  rw [sz_mk] at hB
  obtain ⟨d, rfl⟩ : ∃ d, k = t + d := ⟨k - t, by omega⟩
  rw [show t + d - t = d by omega]
  have hXl : (cellsB A).length = i := by rw [cellsB_len, hA]
  have hsp := split_tile c hXl d (cellsB B) ⟨0, (t + d : Nat), 0⟩ ha
  have hc1 : cell1 ⟨0, (t + d : Nat), 0⟩ = ⟨0, (t + d : Nat), 0⟩ :: List.replicate (pw (t + d) - 1) inside := by unfold cell1; rw [sz_mk]
  rw [← hc1, ← hl] at hsp
  rw [hsp]
  have hht := halves_tot t d
  have hlen : (cellsB A ++ (cell1 ⟨2, t, c⟩ ++ (cellsB (halves t d) ++ cellsB B))).length = l.length := by
    rw [hl]
    simp only [List.length_append, cell1_len, cellsB_len, sz_mk]; omega
  have htile : cellsB A ++ (cell1 ⟨2, t, c⟩ ++ (cellsB (halves t d) ++ cellsB B)) = cellsB (A ++ (⟨2, t, c⟩ :: (halves t d ++ B))) := by
    simp only [cellsB_app, cellsB]
  have hat : ∀ j, j < sz ⟨2, t, c⟩ → nth (cellsB A ++ (cell1 ⟨2, t, c⟩ ++ (cellsB (halves t d) ++ cellsB B))) (i + j) = if j = 0 then ⟨2, t, c⟩ else inside := by
    intro j hj
    rw [htile, ← hA]; exact tile_at hj
  have hin : ∀ x, i < x → x < i + pw (t + d) → nth l x = inside := by
    intro x h1 h2
    have := (hv i hr hi).2.2.2 x h1 (by rw [he, sz_mk]; exact h2)
    exact this
  have hfar : ∀ x, x < l.length → (x < i ∨ i + pw (t + d) ≤ x) → nth (cellsB A ++ (cell1 ⟨2, t, c⟩ ++ (cellsB (halves t d) ++ cellsB B))) x = nth l x := by
    intro x hx h
    rcases h with h | h
    · rw [nth_l (by omega)]
      conv => rhs; rw [hl]
      rw [nth_l (by omega)]
    · have hlB : l.length = i + pw (t + d) + (cellsB B).length := by
        conv => lhs; rw [hl]
        simp only [List.length_append, cell1_len, cellsB_len, sz_mk, hA]; omega
      have e1 : nth (cellsB A ++ (cell1 ⟨2, t, c⟩ ++ (cellsB (halves t d) ++ cellsB B))) x = nth (cellsB B) (x - (i + pw (t + d))) := by
        rw [← List.append_assoc, ← List.append_assoc, nth_r' (by simp only [List.length_append, cell1_len, cellsB_len, sz_mk]; omega) (by simp only [List.length_append, cell1_len, cellsB_len, sz_mk] at *; omega)]
        congr 1
        simp only [List.length_append, cell1_len, cellsB_len, sz_mk]; omega
      have e2 : nth l x = nth (cellsB B) (x - (i + pw (t + d))) := by
        conv => lhs; rw [hl]
        rw [← List.append_assoc, nth_r' (by simp only [List.length_append, cell1_len, cellsB_len, sz_mk]; omega) (by simp only [List.length_append, cell1_len, cellsB_len, sz_mk] at *; omega)]
        congr 1
        simp only [List.length_append, cell1_len, cellsB_len, sz_mk]; omega
      rw [e1, e2]
  have hmid : ∀ x, i + pw t ≤ x → x < i + pw (t + d) → nth (cellsB A ++ (cell1 ⟨2, t, c⟩ ++ (cellsB (halves t d) ++ cellsB B))) x = nth (cellsB (halves t d)) (x - (i + pw t)) := by
    intro x h1 h2
    rw [← List.append_assoc, nth_r' (by simp only [List.length_append, cell1_len, cellsB_len, sz_mk]; omega) (by simp only [List.length_append, cell1_len, cellsB_len, sz_mk]; omega)]
    rw [nth_l (by simp only [List.length_append, cell1_len, cellsB_len, sz_mk]; omega)]
    congr 1
    simp only [List.length_append, cell1_len, cellsB_len, sz_mk]; omega
  have hptd := Nat.le_of_dvd (pw_pos (t + d)) (pw_dvd (a := t) (b := t + d) (by omega))
  refine ⟨hlen, ?_, ?_, ?_, ?_, ?_⟩
  · rw [htile]
    apply tile_va
    rw [al_app]
    refine ⟨hA1, ?_, ?_, ?_⟩
    · exact headB_out (by omega) hc
    · rw [sz_mk, hA, Nat.zero_add]; exact al_down ht ha
    · rw [sz_mk, hA, Nat.zero_add, al_app]
      refine ⟨halves_al d (by omega) ha, ?_⟩
      rw [show i + pw t + tot (halves t d) = i + pw (t + d) by omega]; exact hB
  · have hsm := halves_sm t d
    have e0 : cFree inside = 0 := by decide
    have e1 : cFree ⟨2, t, c⟩ = 0 := rfl
    have e2 : cFree ⟨0, (t + d : Nat), 0⟩ = pw (t + d) := by unfold cFree; rw [if_pos (by rfl), sz_mk]
    unfold frS
    conv => rhs; rw [hl]
    simp only [smB_app, smB_cell cFree e0, smB_tile cFree e0, e1, e2]
    omega
  · have := hat 0 (sz_pos _)
    rw [Nat.add_zero, if_pos rfl] at this; exact this
  · intro x hx
    by_cases h1 : x < i
    · rw [hfar x hx (.inl h1)]; constructor
      · exact .inr
      · rintro (h | h); omega; exact h
    · by_cases h2 : i + pw (t + d) ≤ x
      · rw [hfar x hx (.inr h2)]; constructor
        · exact .inr
        · rintro (h | h); have := pw_pos (t + d); omega; exact h
      · by_cases h3 : x = i
        · subst h3
          have := hat 0 (sz_pos _)
          rw [Nat.add_zero, if_pos rfl] at this
          rw [this]; exact ⟨fun _ => .inl rfl, fun _ => rfl⟩
        · have hins := hin x (by omega) (by omega)
          constructor
          · intro h
            exfalso
            by_cases h4 : x < i + pw t
            · have := hat (x - i) (by rw [sz_mk]; omega)
              rw [show i + (x - i) = x by omega, if_neg (by omega)] at this
              rw [this] at h; exact absurd h (by decide)
            · rw [hmid x (by omega) (by omega)] at h
              exact halves_out d _ (by omega) h
          · rintro (h | h)
            · exact absurd h h3
            · rw [hins] at h; exact absurd h (by decide)
  · intro x o hx
    obtain ⟨h1, h2⟩ := free_is.1 hx
    rw [hlen] at h1
    by_cases h3 : x < i ∨ i + pw (t + d) ≤ x
    · rw [hfar x h1 h3] at h2
      exact .inl (free_is.2 ⟨h1, h2⟩)
    · by_cases h4 : x < i + pw t
      · have := hat (x - i) (by rw [sz_mk]; omega)
        rw [show i + (x - i) = x by omega, h2] at this
        exfalso
        split at this
        · injection this with e1; revert e1; decide
        · unfold inside at this; injection this with e1; revert e1; decide
      · rw [hmid x (by omega) (by omega)] at h2
        obtain ⟨g1, g2, g3⟩ := halves_at d _ o (by omega) h2
        exact .inr ⟨by omega, g2, g1⟩
end Go.Proofs.Ytjkknjohmekeiaa
