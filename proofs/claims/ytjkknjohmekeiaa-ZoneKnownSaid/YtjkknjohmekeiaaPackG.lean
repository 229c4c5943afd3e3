/- Texts of ours, one behind the other (BuddyK, BuddyE, BuddyJ, BuddyL): each says in its own first lines what it proves. No condition. -/
import Derived.Test.YtjkknjohmekeiaaPackF
/- Plain: a table as its blocks, one behind the other; a block given out. No condition. -/
namespace Go.Proofs.Ytjkknjohmekeiaa

def cell1 (p : T3) : List T3 := p :: List.replicate (sz p - 1) inside
def cellsB : List T3 → List T3
  | [] => []
  | p :: r => cell1 p ++ cellsB r
def tot : List T3 → Nat
  | [] => 0
  | p :: r => sz p + tot r
def Al : Nat → List T3 → Prop
  | _, [] => True
  | s, p :: r => headB p = true ∧ s % sz p = 0 ∧ Al (s + sz p) r
theorem cell1_len (p : T3) : (cell1 p).length = sz p := by have := sz_pos p; simp [cell1]; omega
theorem cellsB_len : ∀ bs, (cellsB bs).length = tot bs
  | [] => rfl
  | p :: r => by simp only [cellsB, tot, List.length_append, cell1_len, cellsB_len r]
theorem cellsB_app : ∀ A B, cellsB (A ++ B) = cellsB A ++ cellsB B
  | [], _ => rfl
  | p :: r, B => by simp only [List.cons_append, cellsB, cellsB_app r B, List.append_assoc]
theorem tot_app : ∀ A B, tot (A ++ B) = tot A + tot B
  | [], _ => by simp [tot]
  | p :: r, B => by simp only [List.cons_append, tot, tot_app r B]; omega
theorem al_app : ∀ (A B : List T3) (s : Nat), Al s (A ++ B) ↔ Al s A ∧ Al (s + tot A) B
  | [], B, s => by simp [Al, tot]
  | p :: r, B, s => by
    simp only [List.cons_append, Al, tot, al_app r B, Nat.add_assoc]
    constructor
    · rintro ⟨h1, h2, h3, h4⟩; exact ⟨⟨h1, h2, h3⟩, h4⟩
    · rintro ⟨⟨h1, h2, h3⟩, h4⟩; exact ⟨h1, h2, h3, h4⟩
theorem ext_nth {l l' : List T3} (h : l.length = l'.length) (h2 : ∀ j, j < l.length → nth l j = nth l' j) : l = l' := by
  apply List.ext_getElem h
  intro j h3 h4
  have := h2 j h3
  rw [nth_eq h3, nth_eq h4] at this; exact this
theorem nth_l {X Y : List T3} {j : Nat} (h : j < X.length) : nth (X ++ Y) j = nth X j := by
  rw [nth_eq (by simp; omega), nth_eq h, List.getElem_append_left h]
theorem nth_r {X Y : List T3} {j : Nat} (h : j < Y.length) : nth (X ++ Y) (X.length + j) = nth Y j := by
  rw [nth_eq (by simp; omega), nth_eq h, List.getElem_append_right (by omega)]
  congr 1; omega
theorem nth_r' {X Y : List T3} {j : Nat} (h1 : X.length ≤ j) (h : j < X.length + Y.length) : nth (X ++ Y) j = nth Y (j - X.length) := by
  have := nth_r (X := X) (Y := Y) (j := j - X.length) (by omega)
  rw [show X.length + (j - X.length) = j by omega] at this; exact this
theorem cell1_0 (p : T3) : nth (cell1 p) 0 = p := rfl
theorem cell1_in {p : T3} {j : Nat} (h0 : 0 < j) (h : j < sz p) : nth (cell1 p) j = inside := by
  have hl := cell1_len p
  rw [nth_eq (by omega)]
  unfold cell1
  obtain ⟨k, rfl⟩ : ∃ k, j = k + 1 := ⟨j - 1, by omega⟩
  simp
theorem set_tile {X Y Z : List T3} {i : Nat} {p : T3} (hi : X.length = i) (hy : Y.length = sz p) : setL (X ++ (Y ++ Z)) i p = X ++ (cell1 p ++ Z) := by
  subst hi
  unfold setL
  rw [List.take_left' rfl, ← hy, ← List.drop_drop, List.drop_left' rfl, List.drop_left' rfl, List.append_assoc]
  unfold cell1; rw [hy]
theorem take_tile {l X C D : List T3} {i s : Nat} (h : l = X ++ (C ++ D)) (hi : X.length = i) (hs : C.length = s) : l.take (i + s) = X ++ C := by
  rw [h, ← List.append_assoc, List.take_left' (by rw [List.length_append]; omega)]
theorem headB_free {o : Nat} (h : o ≤ 10) : headB ⟨0, o, 0⟩ = true := by
  unfold headB
  rw [decide_eq_true (Int.natCast_nonneg o), decide_eq_true (show (o : Int) ≤ 10 by omega)]; rfl
theorem headB_out {o c : Nat} (h : o ≤ 10) (hc : c ≤ 8) : headB ⟨2, o, c⟩ = true := by
  unfold headB
  rw [decide_eq_true (Int.natCast_nonneg o), decide_eq_true (show (o : Int) ≤ 10 by omega), decide_eq_true (Int.natCast_nonneg c), decide_eq_true (show (c : Int) ≤ 8 by omega)]; rfl

theorem setL_self {l : List T3} {i : Nat} (h : Ok l i) : setL l i (nth l i) = l := by
  have hf := h.2.2.1
  apply ext_nth (setL_len hf)
  intro j hj
  rw [setL_len hf] at hj
  rw [setL_nth hf hj]
  split
  · next e => rw [e]
  · split
    · next e => exact (h.2.2.2 j e.1 e.2).symm
    · rfl
theorem drop_tile {l : List T3} {i : Nat} (h : Ok l i) (hi : i < l.length) : l.drop i = cell1 (nth l i) ++ l.drop (i + sz (nth l i)) := by
  conv => lhs; rw [← setL_self h]
  unfold setL
  rw [List.append_assoc, List.drop_left' (by simp; omega)]
  rfl
theorem va_from {l : List T3} (hv : Va l) : ∀ (n i : Nat), l.length - i ≤ n → Rch l i → ∃ bs, l.drop i = cellsB bs ∧ Al i bs
  | 0, i, hn, hr => ⟨[], by rw [List.drop_eq_nil_of_le (by omega)]; rfl, trivial⟩
  | n + 1, i, hn, hr => by
    by_cases hi : i < l.length
    · have hok := hv i hr hi
      have hp := sz_pos (nth l i)
      obtain ⟨bs, h1, h2⟩ := va_from hv n (i + sz (nth l i)) (by omega) (hr.step hi)
      exact ⟨nth l i :: bs, by rw [drop_tile hok hi, h1]; rfl, hok.1, hok.2.1, h2⟩
    · exact ⟨[], by rw [List.drop_eq_nil_of_le (by omega)]; rfl, trivial⟩
theorem va_pre {l : List T3} (hv : Va l) {i : Nat} (hr : Rch l i) : ∃ A, l.take i = cellsB A ∧ Al 0 A := by
  induction hr with
  | zero => exact ⟨[], by simp [cellsB], trivial⟩
  | @step i hr hi ih =>
    obtain ⟨A, h1, h2⟩ := ih
    have hok := hv i hr hi
    have hf := hok.2.2.1
    have ht : tot A = i := by rw [← cellsB_len, ← h1]; simp; omega
    refine ⟨A ++ [nth l i], ?_, ?_⟩
    · have hd := drop_tile hok hi
      have e : l = l.take i ++ (cell1 (nth l i) ++ l.drop (i + sz (nth l i))) := by rw [← hd, List.take_append_drop]
      rw [cellsB_app, ← h1, take_tile e (by simp; omega) (cell1_len _)]
      simp [cellsB]
    · rw [al_app]
      refine ⟨h2, ?_, ?_, trivial⟩
      · exact hok.1
      · rw [ht, Nat.zero_add]; exact hok.2.1
/-- A table as blocks around one that begins at a place. -/
theorem va_split {l : List T3} (hv : Va l) {i : Nat} (hr : Rch l i) (hi : i < l.length) :
    ∃ A B, l = cellsB A ++ (cell1 (nth l i) ++ cellsB B) ∧ tot A = i ∧ Al 0 A ∧ Al (i + sz (nth l i)) B := by
  have hok := hv i hr hi
  have hf := hok.2.2.1
  obtain ⟨A, h1, h2⟩ := va_pre hv hr
  obtain ⟨B, h3, h4⟩ := va_from hv l.length _ (by omega) (hr.step hi)
  refine ⟨A, B, ?_, by rw [← cellsB_len, ← h1]; simp; omega, h2, h4⟩
  rw [← h1, ← h3, ← drop_tile hok hi, List.take_append_drop]
theorem tile_at {A B : List T3} {p : T3} {j : Nat} (h : j < sz p) : nth (cellsB (A ++ p :: B)) (tot A + j) = if j = 0 then p else inside := by
  rw [cellsB_app, ← cellsB_len A, nth_r (by simp only [cellsB, List.length_append, cell1_len]; omega)]
  simp only [cellsB]
  rw [nth_l (by rw [cell1_len]; exact h)]
  split
  · next e => subst e; rfl
  · exact cell1_in (by omega) h
theorem rch_tile {bs : List T3} {i : Nat} (hr : Rch (cellsB bs) i) : ∃ A B, bs = A ++ B ∧ tot A = i := by
  induction hr with
  | zero => exact ⟨[], bs, rfl, rfl⟩
  | @step i hr hi ih =>
    obtain ⟨A, B, rfl, h2⟩ := ih
    cases B with
    | nil => rw [cellsB_len, List.append_nil] at hi; omega
    | cons p r =>
      have := tile_at (A := A) (B := r) (p := p) (j := 0) (sz_pos p)
      rw [Nat.add_zero, h2, if_pos rfl] at this
      rw [this]
      exact ⟨A ++ [p], r, by simp, by rw [tot_app, h2]; simp [tot]⟩
theorem tile_va {bs : List T3} (h : Al 0 bs) : Va (cellsB bs) := by
  intro i hr hi
  obtain ⟨A, B, rfl, rfl⟩ := rch_tile hr
  cases B with
  | nil => rw [cellsB_len, List.append_nil] at hi; omega
  | cons p r =>
    rw [al_app] at h
    obtain ⟨_, h1, h2, _⟩ := h
    have h0 := tile_at (A := A) (B := r) (p := p) (j := 0) (sz_pos p)
    rw [Nat.add_zero, if_pos rfl] at h0
    unfold Ok
    rw [h0]
    refine ⟨h1, by simpa using h2, by rw [cellsB_len, tot_app]; simp [tot], fun j g1 g2 => ?_⟩
    have := tile_at (A := A) (B := r) (p := p) (j := j - tot A) (by omega)
    rw [show tot A + (j - tot A) = j by omega, if_neg (by omega)] at this; exact this

/-! ### Sums -/
def smB (c : T3 → Int) : List T3 → Int
  | [] => 0
  | p :: r => c p + smB c r
theorem smB_app (c : T3 → Int) : ∀ A B, smB c (A ++ B) = smB c A + smB c B
  | [], B => by simp [smB]
  | p :: r, B => by simp only [List.cons_append, smB, smB_app c r B]; omega
theorem smB_in (c : T3 → Int) (hc : c inside = 0) : ∀ n, smB c (List.replicate n inside) = 0
  | 0 => rfl
  | n + 1 => by rw [List.replicate_succ]; simp only [smB, smB_in c hc n, hc]; rfl
theorem smB_cell (c : T3 → Int) (hc : c inside = 0) (p : T3) : smB c (cell1 p) = c p := by
  unfold cell1; simp only [smB, smB_in c hc]; omega
theorem smB_tile (c : T3 → Int) (hc : c inside = 0) : ∀ bs, smB c (cellsB bs) = smB c bs
  | [] => rfl
  | p :: r => by simp only [cellsB, smB, smB_app, smB_cell c hc, smB_tile c hc r]
theorem sumTo_take (c : T3 → Int) (l : List T3) : ∀ k, k ≤ l.length → sumTo c l k = smB c (l.take k)
  | 0, _ => by simp [sumTo, smB]
  | k + 1, h => by
    rw [take_nth (by omega), smB_app]
    simp only [sumTo, smB, sumTo_take c l k (by omega)]; omega
/-- How many pages are free. -/
def frS (l : List T3) : Int := smB cFree l
theorem freeF_is {l : List T3} (h : tabOk l = true) : freeF l = frS l := by
  have hv := (tab_iff.1 h).2.2
  unfold freeF
  rw [if_pos h, ← free_all hv, sumTo_take _ _ _ (Nat.le_refl _), List.take_length]; rfl

/-! ### A block given out -/
def halves (t : Nat) : Nat → List T3
  | 0 => []
  | d + 1 => halves t d ++ [⟨0, (t + d : Nat), 0⟩]
theorem halves_tot (t : Nat) : ∀ d, tot (halves t d) + pw t = pw (t + d)
  | 0 => by simp [halves, tot]
  | d + 1 => by
    have ih := halves_tot t d
    have hs := pw_succ (t + d)
    simp only [halves, tot_app, tot]
    rw [sz_mk, show t + (d + 1) = t + d + 1 by omega]; omega
theorem split_tile {X : List T3} {i t : Nat} (c : Nat) (hi : X.length = i) : ∀ (d : Nat) (Z : List T3) (q : T3), i % pw (t + d) = 0 →
    setL (splitL (X ++ ((q :: List.replicate (pw (t + d) - 1) inside) ++ Z)) i t d) i ⟨2, t, c⟩ = X ++ (cell1 ⟨2, t, c⟩ ++ (cellsB (halves t d) ++ Z))
  | 0, Z, q, _ => by
    simp only [splitL, halves, cellsB, List.nil_append]
    have := pw_pos t
    exact set_tile hi (by rw [sz_mk]; simp; omega)
  | d + 1, Z, q, ha => by
    have hp := pw_pos (t + d)
    have hs := pw_succ (t + d)
    have hs' : pw (t + (d + 1)) = 2 * pw (t + d) := by rw [show t + (d + 1) = t + d + 1 by omega]; exact hs
    have hoth := oth_lo (i := i) (k := t + d) (by rw [show t + d + 1 = t + (d + 1) by omega]; exact ha)
    have hrep : (q :: List.replicate (pw (t + (d + 1)) - 1) inside) ++ Z = (q :: List.replicate (pw (t + d) - 1) inside) ++ (List.replicate (pw (t + d)) inside ++ Z) := by
      rw [show pw (t + (d + 1)) - 1 = (pw (t + d) - 1) + pw (t + d) by omega, ← List.replicate_append_replicate]
      simp only [List.cons_append, List.append_assoc]
    have hstep : setL (X ++ ((q :: List.replicate (pw (t + (d + 1)) - 1) inside) ++ Z)) (oth i (t + d)) ⟨0, (t + d : Nat), 0⟩ =
        X ++ ((q :: List.replicate (pw (t + d) - 1) inside) ++ (cell1 ⟨0, (t + d : Nat), 0⟩ ++ Z)) := by
      rw [hrep, ← List.append_assoc, set_tile (by rw [hoth]; simp; omega) (by rw [sz_mk]; simp), List.append_assoc]
    simp only [splitL]
    rw [hstep, split_tile c hi d _ q (al_down (by omega) ha)]
    simp only [halves, cellsB_app, cellsB, List.append_nil, List.append_assoc]
theorem halves_al {t : Nat} {i : Nat} : ∀ d, t + d ≤ 11 → i % pw (t + d) = 0 → Al (i + pw t) (halves t d)
  | 0, _, _ => trivial
  | d + 1, h, ha => by
    have hp := pw_succ (t + d)
    have hd := al_down (a := t + d) (b := t + (d + 1)) (by omega) ha
    simp only [halves]
    rw [al_app]
    refine ⟨halves_al d (by omega) hd, ?_, ?_, trivial⟩
    · exact headB_free (by omega)
    · have ht := halves_tot t d
      rw [sz_mk, show i + pw t + tot (halves t d) = i + pw (t + d) by omega, Nat.add_mod_right]; exact hd
theorem halves_at {t : Nat} : ∀ (d j o : Nat), j < tot (halves t d) → nth (cellsB (halves t d)) j = ⟨0, o, 0⟩ → t ≤ o ∧ o < t + d ∧ j + pw t = pw o
  | 0, j, o, h, _ => by simp [halves, tot] at h
  | d + 1, j, o, h, he => by
    have ht := halves_tot t d
    simp only [halves] at h he
    rw [cellsB_app] at he
    rw [tot_app] at h
    by_cases hj : j < tot (halves t d)
    · rw [nth_l (by rw [cellsB_len]; exact hj)] at he
      obtain ⟨h1, h2, h3⟩ := halves_at d j o hj he
      exact ⟨h1, by omega, h3⟩
    · rw [nth_r' (by rw [cellsB_len]; omega) (by simp only [cellsB_len]; exact h)] at he
      simp only [cellsB, List.append_nil, cellsB_len] at he
      simp only [tot] at h
      by_cases h0 : j - tot (halves t d) = 0
      · rw [h0, cell1_0] at he
        injection he with _ e2 _
        have : t + d = o := by exact_mod_cast e2
        subst this
        exact ⟨by omega, by omega, by omega⟩
      · rw [cell1_in (by omega) (by omega)] at he
        unfold inside at he
        injection he with e1
        omega
theorem halves_out {t : Nat} : ∀ (d j : Nat), j < tot (halves t d) → (nth (cellsB (halves t d)) j).a ≠ 2
  | 0, j, h => by simp [halves, tot] at h
  | d + 1, j, h => by
    simp only [halves] at h ⊢
    rw [cellsB_app]
    rw [tot_app] at h
    by_cases hj : j < tot (halves t d)
    · rw [nth_l (by rw [cellsB_len]; exact hj)]; exact halves_out d j hj
    · rw [nth_r' (by rw [cellsB_len]; omega) (by simp only [cellsB_len]; exact h)]
      simp only [cellsB, List.append_nil, cellsB_len]
      simp only [tot] at h
      by_cases h0 : j - tot (halves t d) = 0
      · rw [h0, cell1_0]; show (0 : Int) ≠ 2; decide
      · rw [cell1_in (by omega) (by omega)]; decide
theorem halves_sm (t : Nat) : ∀ d, smB cFree (halves t d) + pw t = pw (t + d)
  | 0 => by simp [halves, smB]
  | d + 1 => by
    have ih := halves_sm t d
    have hs := pw_succ (t + d)
    have e : cFree ⟨0, (t + d : Nat), 0⟩ = pw (t + d) := by unfold cFree; rw [if_pos (by rfl), sz_mk]
    simp only [halves, smB_app, smB]
    rw [e, show t + (d + 1) = t + d + 1 by omega]; omega

/-- What is so of a table out of which a block is given. -/
structure AllocP (l l' : List T3) (i t k c : Nat) : Prop where
  len : l'.length = l.length
  va : Va l'
  fr : frS l' = frS l - pw t
  at0 : nth l' i = ⟨2, t, c⟩
  out : ∀ x, x < l.length → ((nth l' x).a = 2 ↔ x = i ∨ (nth l x).a = 2)
  free : ∀ x o, freeB l' x o = true → freeB l x o = true ∨ (x = i + pw o ∧ o < k ∧ t ≤ o)
theorem allocP {l : List T3} (hv : Va l) {i t k c : Nat} (hf : freeB l i k = true) (ht : t ≤ k) (hc : c ≤ 8) : AllocP l (setL (splitL l i t (k - t)) i ⟨2, t, c⟩) i t k c := by
  obtain ⟨hr, hk, ha, hfit⟩ := free_ok hv hf
  obtain ⟨hi, he⟩ := free_is.1 hf
  obtain ⟨A, B, hl, hA, hA1, hB⟩ := va_split hv hr hi
  rw [he] at hl hB
  rw [sz_mk] at hB
  obtain ⟨d, rfl⟩ : ∃ d, k = t + d := ⟨k - t, by omega⟩
  rw [show t + d - t = d by omega]
  have hXl : (cellsB A).length = i := by rw [cellsB_len, hA]
  have hsp := split_tile c hXl d (cellsB B) ⟨0, (t + d : Nat), 0⟩ ha
  have hc1 : cell1 ⟨0, (t + d : Nat), 0⟩ = ⟨0, (t + d : Nat), 0⟩ :: List.replicate (pw (t + d) - 1) inside := by unfold cell1; rw [sz_mk]
  rw [← hc1, ← hl] at hsp
  rw [hsp]
  have hht := halves_tot t d
  have hlen : (cellsB A ++ (cell1 ⟨2, t, c⟩ ++ (cellsB (halves t d) ++ cellsB B))).length = l.length := by
    rw [hl]
    simp only [List.length_append, cell1_len, cellsB_len, sz_mk]; omega
  have htile : cellsB A ++ (cell1 ⟨2, t, c⟩ ++ (cellsB (halves t d) ++ cellsB B)) = cellsB (A ++ (⟨2, t, c⟩ :: (halves t d ++ B))) := by
    simp only [cellsB_app, cellsB]
  have hat : ∀ j, j < sz ⟨2, t, c⟩ → nth (cellsB A ++ (cell1 ⟨2, t, c⟩ ++ (cellsB (halves t d) ++ cellsB B))) (i + j) = if j = 0 then ⟨2, t, c⟩ else inside := by
    intro j hj
    rw [htile, ← hA]; exact tile_at hj
  have hin : ∀ x, i < x → x < i + pw (t + d) → nth l x = inside := by
    intro x h1 h2
    have := (hv i hr hi).2.2.2 x h1 (by rw [he, sz_mk]; exact h2)
    exact this
  have hfar : ∀ x, x < l.length → (x < i ∨ i + pw (t + d) ≤ x) → nth (cellsB A ++ (cell1 ⟨2, t, c⟩ ++ (cellsB (halves t d) ++ cellsB B))) x = nth l x := by
    intro x hx h
    rcases h with h | h
    · rw [nth_l (by omega)]
      conv => rhs; rw [hl]
      rw [nth_l (by omega)]
    · have hlB : l.length = i + pw (t + d) + (cellsB B).length := by
        conv => lhs; rw [hl]
        simp only [List.length_append, cell1_len, cellsB_len, sz_mk, hA]; omega
      have e1 : nth (cellsB A ++ (cell1 ⟨2, t, c⟩ ++ (cellsB (halves t d) ++ cellsB B))) x = nth (cellsB B) (x - (i + pw (t + d))) := by
        rw [← List.append_assoc, ← List.append_assoc, nth_r' (by simp only [List.length_append, cell1_len, cellsB_len, sz_mk]; omega) (by simp only [List.length_append, cell1_len, cellsB_len, sz_mk] at *; omega)]
        congr 1
        simp only [List.length_append, cell1_len, cellsB_len, sz_mk]; omega
      have e2 : nth l x = nth (cellsB B) (x - (i + pw (t + d))) := by
        conv => lhs; rw [hl]
        rw [← List.append_assoc, nth_r' (by simp only [List.length_append, cell1_len, cellsB_len, sz_mk]; omega) (by simp only [List.length_append, cell1_len, cellsB_len, sz_mk] at *; omega)]
        congr 1
        simp only [List.length_append, cell1_len, cellsB_len, sz_mk]; omega
      rw [e1, e2]
  have hmid : ∀ x, i + pw t ≤ x → x < i + pw (t + d) → nth (cellsB A ++ (cell1 ⟨2, t, c⟩ ++ (cellsB (halves t d) ++ cellsB B))) x = nth (cellsB (halves t d)) (x - (i + pw t)) := by
    intro x h1 h2
    rw [← List.append_assoc, nth_r' (by simp only [List.length_append, cell1_len, cellsB_len, sz_mk]; omega) (by simp only [List.length_append, cell1_len, cellsB_len, sz_mk]; omega)]
    rw [nth_l (by simp only [List.length_append, cell1_len, cellsB_len, sz_mk]; omega)]
    congr 1
    simp only [List.length_append, cell1_len, cellsB_len, sz_mk]; omega
  have hptd := Nat.le_of_dvd (pw_pos (t + d)) (pw_dvd (a := t) (b := t + d) (by omega))
  refine ⟨hlen, ?_, ?_, ?_, ?_, ?_⟩
  · rw [htile]
    apply tile_va
    rw [al_app]
    refine ⟨hA1, ?_, ?_, ?_⟩
    · exact headB_out (by omega) hc
    · rw [sz_mk, hA, Nat.zero_add]; exact al_down ht ha
    · rw [sz_mk, hA, Nat.zero_add, al_app]
      refine ⟨halves_al d (by omega) ha, ?_⟩
      rw [show i + pw t + tot (halves t d) = i + pw (t + d) by omega]; exact hB
  · have hsm := halves_sm t d
    have e0 : cFree inside = 0 := by decide
    have e1 : cFree ⟨2, t, c⟩ = 0 := rfl
    have e2 : cFree ⟨0, (t + d : Nat), 0⟩ = pw (t + d) := by unfold cFree; rw [if_pos (by rfl), sz_mk]
    unfold frS
    conv => rhs; rw [hl]
    simp only [smB_app, smB_cell cFree e0, smB_tile cFree e0, e1, e2]
    omega
  · have := hat 0 (sz_pos _)
    rw [Nat.add_zero, if_pos rfl] at this; exact this
  · intro x hx
    by_cases h1 : x < i
    · rw [hfar x hx (.inl h1)]; constructor
      · exact .inr
      · rintro (h | h); omega; exact h
    · by_cases h2 : i + pw (t + d) ≤ x
      · rw [hfar x hx (.inr h2)]; constructor
        · exact .inr
        · rintro (h | h); have := pw_pos (t + d); omega; exact h
      · by_cases h3 : x = i
        · subst h3
          have := hat 0 (sz_pos _)
          rw [Nat.add_zero, if_pos rfl] at this
          rw [this]; exact ⟨fun _ => .inl rfl, fun _ => rfl⟩
        · have hins := hin x (by omega) (by omega)
          constructor
          · intro h
            exfalso
            by_cases h4 : x < i + pw t
            · have := hat (x - i) (by rw [sz_mk]; omega)
              rw [show i + (x - i) = x by omega, if_neg (by omega)] at this
              rw [this] at h; exact absurd h (by decide)
            · rw [hmid x (by omega) (by omega)] at h
              exact halves_out d _ (by omega) h
          · rintro (h | h)
            · exact absurd h h3
            · rw [hins] at h; exact absurd h (by decide)
  · intro x o hx
    obtain ⟨h1, h2⟩ := free_is.1 hx
    rw [hlen] at h1
    by_cases h3 : x < i ∨ i + pw (t + d) ≤ x
    · rw [hfar x h1 h3] at h2
      exact .inl (free_is.2 ⟨h1, h2⟩)
    · by_cases h4 : x < i + pw t
      · have := hat (x - i) (by rw [sz_mk]; omega)
        rw [show i + (x - i) = x by omega, h2] at this
        exfalso
        split at this
        · injection this with e1; revert e1; decide
        · unfold inside at this; injection this with e1; revert e1; decide
      · rw [hmid x (by omega) (by omega)] at h2
        obtain ⟨g1, g2, g3⟩ := halves_at d _ o (by omega) h2
        exact .inr ⟨by omega, g2, g1⟩
end Go.Proofs.Ytjkknjohmekeiaa
/- Buddies in memory: New, Left, Pages, Whole. No condition. -/
namespace Go.Proofs.Ytjkknjohmekeiaa
open Go.RowKit

set_option maxRecDepth 100000 in
set_option maxHeartbeats 2000000 in
theorem equal114_spec (w : World) (a b : Value) (xs ys : List T3) (F G : Nat → Prop) (ha : RdT F w a xs) (hb : RdT G w b ys) :
    Calls Try.prog 114 #[a, b] w fun e w' => e = .returned (.bool (decide (xs = ys))) ∧ Ext No w w' := by
  obtain ⟨aa, ca, rfl, hla, hca⟩ := ha.val
  obtain ⟨ab, cb, rfl, _, _⟩ := hb.val
  by_cases hl : xs.length = ys.length
  · have hl' := Lib.hid hl
    have hne : (((xs.length : Nat) : Int) != (ys.length : Nat)) = false := by rw [hl]; simp
    have heq : ((xs.length : Nat) : Int) = (ys.length : Nat) := by rw [hl]
    rw [← hl] at hb ⊢
    clear hne heq
    go_enter Try.func114, Try.ntmps114
    go_wp2_with fail
    go_loopg [13] xs.length (fun g i wr => ∃ k : Nat, k + g = xs.length ∧ i = .int .i64 k ∧ (∀ j, j < k → nth xs j = nth ys j) ∧ ∃ n, wr = w.drewN n)
    case atStart => exact ⟨0, by omega, rfl, by omega, 0, rfl⟩
    case round =>
      obtain ⟨k, hk, rfl, hall, m, rfl⟩ := hrel
      have hk' := Lib.hid hk; have hall' := Lib.hid hall
      have hkn : k ≤ xs.length := by omega
      clear hk hall
      by_cases hlt : k < xs.length
      · obtain ⟨b1, o1, rfl, _, _, x0, x1, x2⟩ := ha.at hlt
        obtain ⟨b2, o2, rfl, _, _, y0, y1, y2⟩ := hb.at (k := k) (by omega)
        by_cases he : nth xs k = nth ys k
        · have e1 : ((nth xs k).a == (nth ys k).a) = true := by rw [he]; simp
          have e2 : ((nth xs k).b == (nth ys k).b) = true := by rw [he]; simp
          have e3 : ((nth xs k).c == (nth ys k).c) = true := by rw [he]; simp
          have he' := Lib.hid he; clear he
          go_wp2
          go_quiet (fail)
          go_wp2
          go_roundg (xs.length - (k + 1))
          case measure => have := hk'.out; omega
          case rel =>
            refine ⟨k + 1, by omega, by go_num, fun j hj => ?_, _, rfl⟩
            by_cases hjk : j < k
            · exact hall'.out j hjk
            · obtain rfl : j = k := by omega
              exact he'.out
        · have hr : Hid (decide (xs = ys) = false) := decide_eq_false (fun e => he (by rw [e]))
          rcases T3.ne_cases he with e1 | ⟨e1, e2⟩ | ⟨e1, e2, e3⟩
          all_goals
            clear he
            go_wp2
            go_quiet (fail)
            go_wp2
            go_ret
            exact ⟨by rw [hr.out]; rfl, ((Ext.refl No w).drewN _).drewN _⟩
      · have hr : Hid (decide (xs = ys) = true) := by
          apply decide_eq_true
          apply List.ext_getElem hl'.out
          intro j h1 h2
          have := hall'.out j (by omega)
          rw [nth_eq h1, nth_eq h2] at this; exact this
        go_wp2_with fail
        go_ret
        exact ⟨by rw [hr.out]; rfl, (Ext.refl No w).drewN _⟩
  · have hr : Hid (decide (xs = ys) = false) := decide_eq_false (fun e => hl (by rw [e]))
    have hne : (((xs.length : Nat) : Int) == (ys.length : Nat)) = false := by rw [beq_eq_false_iff_ne]; omega
    go_enter Try.func114, Try.ntmps114
    go_wp2_with fail
    go_ret
    exact ⟨by rw [hr.out]; rfl, Ext.refl _ _⟩

theorem mk_page : MkTy 96 98 3 24 (.int .i64 0) := .mk' (z := .agg #[.int .i64 0, .int .i64 0, .int .i64 0]) (by kernel_rfl) Try.underlying96 rfl (by decide)
/-- Pages that are nothing. -/
def zeros (n : Nat) : List T3 := List.replicate n ⟨0, 0, 0⟩
theorem zeros_len (n : Nat) : (zeros n).length = n := by simp [zeros]
theorem zeros_cells : ∀ n, t3sCells (zeros n) = List.replicate (n * 3) (.int .i64 0)
  | 0 => rfl
  | n + 1 => by
    have ih := zeros_cells n
    unfold zeros at ih ⊢
    rw [List.replicate_succ, show (n + 1) * 3 = n * 3 + 1 + 1 + 1 by omega, List.replicate_succ, List.replicate_succ, List.replicate_succ, ← ih]
    rfl
/-- Whole pages. -/
def full (n : Nat) : List T3 := wholeW (zeros n) 0

theorem full_def (n : Nat) : wholeW (zeros n) 0 = full n := rfl
theorem br_made (w : World) (n : Nat) (hn : n ≤ 1024) :
    BR ((w.alloc (.cells (List.replicate (n * 3) (.int .i64 0)).toArray 98)).alloc (.cells #[.slice (some ⟨w.heap.size, 0, none⟩) n n] 126)) (w.heap.size + 1) w.heap.size (.slice (some ⟨w.heap.size, 0, none⟩) n n) (zeros n) := by
  have hB : Blk (w.alloc (.cells (List.replicate (n * 3) (.int .i64 0)).toArray 98)) w.heap.size (List.replicate (n * 3) (.int .i64 0)) 98 := Blk.new _ _ _
  have hB2 := hB.alloc (.cells #[.slice (some ⟨w.heap.size, 0, none⟩) n n] 126)
  refine ⟨Blk.new' (by simp), ⟨by rw [t3sCells_len, zeros_len], .inr ⟨w.heap.size, n, (List.replicate (n * 3) (.int .i64 0)).toArray, by rw [zeros_len], Nat.le_refl _, ?_, ?_, ?_, by simp, ?_⟩⟩, ?_, by rw [zeros_len]; exact hn⟩
  · unfold Blk at hB2; simpa using hB2
  · rw [zeros_len]; exact Nat.le_refl _
  · unfold maxLen; omega
  · rw [zeros_len, zeros_cells]; simp
  · intro h; simp [OwnOf, Value.ownBlock] at h
set_option maxRecDepth 100000 in
set_option maxHeartbeats 2000000 in
theorem new73_spec (w : World) (n : Nat) (h1 : 1 ≤ n) (h2 : n ≤ 1024) :
    Calls Try.prog 73 #[.int .i64 n] w fun e w' => ∃ p v base, e = .returned (.tuple #[.pointer (some ⟨p, 0, none⟩), .int .i64 0]) ∧ BR w' p base v (full n) ∧ w.heap.size ≤ p ∧ (∀ x, OwnOf v x → w.heap.size ≤ x) ∧ Ext No w w' := by
  have hmk := mk_run mk_page n (by omega) (by omega)
  go_enter Try.func73, Try.ntmps73
  go_wp2_with fail
  refine (whole113_spec _ (w.heap.size + 1) w.heap.size _ _ (br_made w n h2)).mono ?_
  rintro e w' ⟨⟨u, rfl⟩, hB, hx⟩
  have hxa : Ext No w ((w.alloc (.cells (List.replicate (n * 3) (.int .i64 0)).toArray 98)).alloc (.cells #[.slice (some ⟨w.heap.size, 0, none⟩) n n] 126)) := ((Ext.refl _ _).alloc _).alloc _
  have ho : ∀ x, OwnOf (.slice (some ⟨w.heap.size, 0, none⟩) n n) x → w.heap.size ≤ x := fun x hx => by
    simp [OwnOf, Value.ownBlock] at hx; omega
  go_wp2_with fail
  go_ret2
  exact ⟨_, _, _, rfl, hB, by omega, ho, hxa.transNew hx ho⟩
theorem new73_out (w : World) (n : Int) (h : n < 1 ∨ 1024 < n) :
    Calls Try.prog 73 #[.int .i64 n] w fun e w' => e = .returned (.tuple #[.pointer none, .int .i64 2]) ∧ w = w' := by
  by_cases h1 : n < 1
  · go_enter Try.func73, Try.ntmps73
    go_wp2_with fail
    go_ret2
    exact ⟨rfl, rfl⟩
  · have h2 : 1024 < n := by omega
    go_enter Try.func73, Try.ntmps73
    go_wp2_with fail
    go_ret2
    exact ⟨rfl, rfl⟩

section
variable (w : World) (bb base : Nat) (v : Value) (l : List T3)
theorem left67_spec (h : BR w bb base v l) (h0 : 0 < l.length) :
    Calls Try.prog 67 #[.pointer (some ⟨bb, 0, none⟩)] w fun e w' => e = .returned (.int .i64 (freeF l)) ∧ Ext No w w' := by
  have c0 := h.b.cell' (i := 0) rfl
  go_enter Try.func67, Try.ntmps67
  go_wp2_with fail
  refine (none112_no w bb base v l h h0).mono ?_
  rintro e w1 ⟨rfl, rfl⟩
  go_wp2_with fail
  refine (free64_spec w v l _ h.rd).mono ?_
  rintro e w2 ⟨rfl, hx⟩
  go_wp2_with fail
  go_ret
  exact ⟨rfl, hx⟩
theorem pages71_spec (h : BR w bb base v l) (h0 : 0 < l.length) :
    Calls Try.prog 71 #[.pointer (some ⟨bb, 0, none⟩)] w fun e w' => ∃ r, e = .returned r ∧ w'.ownsRow w.heap.size 98 3 r l.length (t3sCells l) ∧ Ext No w w' := by
  have c0 := h.b.cell' (i := 0) rfl
  have hn := h.n
  go_enter Try.func71, Try.ntmps71
  go_wp2_with fail
  refine (none112_no w bb base v l h h0).mono ?_
  rintro e w1 ⟨rfl, rfl⟩
  go_wp2_with fail
  refine (clone110_spec w v l _ h.rd (by omega)).mono ?_
  rintro e w2 ⟨r, rfl, hr, hx⟩
  go_wp2_with fail
  go_ret
  exact ⟨_, rfl, hr, hx⟩
set_option maxRecDepth 100000 in
set_option maxHeartbeats 2000000 in
theorem whole68_spec (h : BR w bb base v l) (h0 : 0 < l.length) :
    Calls Try.prog 68 #[.pointer (some ⟨bb, 0, none⟩)] w fun e w' => e = .returned (.bool (decide (l = full l.length))) ∧ Ext No w w' := by
  obtain ⟨a, cap, rfl, hlc, hcap⟩ := h.val
  have c0 := h.b.cell' (i := 0) rfl
  have hn := h.n
  have hbl := h.b.lt
  have hmk := mk_run mk_page l.length (by omega) (by omega)
  go_enter Try.func68, Try.ntmps68
  go_wp2_with fail
  refine (none112_no w bb base _ l h h0).mono ?_
  rintro e w1 ⟨rfl, rfl⟩
  go_wp2_with fail
  refine (whole113_spec _ (w.heap.size + 1) w.heap.size _ _ (br_made w l.length hn)).mono ?_
  rintro e w' ⟨⟨u, rfl⟩, hB, hx⟩
  have hxa : Ext No w ((w.alloc (.cells (List.replicate (l.length * 3) (.int .i64 0)).toArray 98)).alloc (.cells #[.slice (some ⟨w.heap.size, 0, none⟩) l.length l.length] 126)) := ((Ext.refl _ _).alloc _).alloc _
  have ho : ∀ x, OwnOf (.slice (some ⟨w.heap.size, 0, none⟩) l.length l.length) x → w.heap.size ≤ x := fun x hx => by
    simp [OwnOf, Value.ownBlock] at hx; omega
  have hX := hxa.transNew hx ho
  rw [full_def] at hB
  have d0 := hB.b.cell' (i := 0) rfl
  have hA := h.extNo hX
  have a0 := hA.b.cell' (i := 0) rfl
  clear c0 hmk
  go_wp2_with fail
  have hxd : Ext No w' w'.drew := (Ext.refl No w').drew
  refine anyZ_begin 10 (fun w' => w'.cell? ⟨bb, 0, none⟩ = some (.slice a l.length cap) ∧ w'.cell? ⟨w.heap.size + 1, 0, none⟩ = some (.slice (some ⟨w.heap.size, 0, none⟩) l.length l.length)) (by kernel_rfl) ?_
  have hC : (fun w' : World => w'.cell? ⟨bb, 0, none⟩ = some (.slice a l.length cap) ∧ w'.cell? ⟨w.heap.size + 1, 0, none⟩ = some (.slice (some ⟨w.heap.size, 0, none⟩) l.length l.length)) w'.drew := ⟨a0, d0⟩
  refine anyZ_take 0 (v := ?_) rfl (by kernel_rfl) (by kernel_rfl) (by kernel_rfl) (by kernel_rfl) (fun _ _ _ h => h) hC (Or.inl ⟨by rfl, ?_⟩) ?_
  rotate_left
  · (intro wq hq; (try dsimp only at hq); go_simp; with_reducible rfl)
  simp only [Act.put, List.setIfInBounds_toArray, List.set_cons_zero, List.set_cons_succ]
  refine anyZ_take 1 (v := ?_) rfl (by kernel_rfl) (by kernel_rfl) (by kernel_rfl) (by kernel_rfl) (fun _ _ _ h => h) hC (Or.inl ⟨by rfl, ?_⟩) ?_
  rotate_left
  · (intro wq hq; (try dsimp only at hq); go_simp; with_reducible rfl)
  simp only [Act.put, List.setIfInBounds_toArray, List.set_cons_zero, List.set_cons_succ]
  refine anyZ_take 2 (v := ?_) rfl (by kernel_rfl) (by kernel_rfl) (by kernel_rfl) (by kernel_rfl) (fun _ _ _ h => h) hC (Or.inl ⟨by rfl, ?_⟩) ?_
  rotate_left
  · (intro wq hq; (try dsimp only at hq); go_simp; with_reducible rfl)
  simp only [Act.put, List.setIfInBounds_toArray, List.set_cons_zero, List.set_cons_succ]
  refine anyZ_take 3 (v := ?_) rfl (by kernel_rfl) (by kernel_rfl) (by kernel_rfl) (by kernel_rfl) (fun _ _ _ h => h) hC (Or.inl ⟨by rfl, ?_⟩) ?_
  rotate_left
  · (intro wq hq; (try dsimp only at hq); go_simp; with_reducible rfl)
  simp only [Act.put, List.setIfInBounds_toArray, List.set_cons_zero, List.set_cons_succ]
  refine anyZ_take 4 (v := ?_) rfl (by kernel_rfl) (by kernel_rfl) (by kernel_rfl) (by kernel_rfl) (fun _ _ _ h => h) hC (Or.inl ⟨by rfl, ?_⟩) ?_
  rotate_left
  · (intro wq hq; (try dsimp only at hq); go_simp; with_reducible rfl)
  simp only [Act.put, List.setIfInBounds_toArray, List.set_cons_zero, List.set_cons_succ]
  refine anyZ_take 5 (v := ?_) rfl (by kernel_rfl) (by kernel_rfl) (by kernel_rfl) (by kernel_rfl) (fun _ _ _ h => h) hC (Or.inl ⟨by rfl, ?_⟩) ?_
  rotate_left
  · (intro wq hq; (try dsimp only at hq); go_simp; with_reducible rfl)
  simp only [Act.put, List.setIfInBounds_toArray, List.set_cons_zero, List.set_cons_succ]
  refine anyZ_take 6 (v := ?_) rfl (by kernel_rfl) (by kernel_rfl) (by kernel_rfl) (by kernel_rfl) (fun _ _ _ h => h) hC (Or.inl ⟨by rfl, ?_⟩) ?_
  rotate_left
  · (intro wq hq; (try dsimp only at hq); go_simp; with_reducible rfl)
  simp only [Act.put, List.setIfInBounds_toArray, List.set_cons_zero, List.set_cons_succ]
  refine anyZ_take 7 (v := ?_) rfl (by kernel_rfl) (by kernel_rfl) (by kernel_rfl) (by kernel_rfl) (fun _ _ _ h => h) hC (Or.inl ⟨by rfl, ?_⟩) ?_
  rotate_left
  · (intro wq hq; (try dsimp only at hq); go_simp; with_reducible rfl)
  simp only [Act.put, List.setIfInBounds_toArray, List.set_cons_zero, List.set_cons_succ]
  refine anyZ_step 8 rfl (by kernel_rfl) (fun K hK => ?_)
  go_simp
  refine (equal114_spec w'.drew _ _ l _ _ _ (hA.extNo hxd).rd (hB.extNo hxd).rd).mono ?_
  rintro e w2 ⟨rfl, hx2⟩
  have hC2 : (fun w' : World => w'.cell? ⟨bb, 0, none⟩ = some (.slice a l.length cap) ∧ w'.cell? ⟨w.heap.size + 1, 0, none⟩ = some (.slice (some ⟨w.heap.size, 0, none⟩) l.length l.length)) w2 := ⟨hx2.cell (w := w'.drew) a0 id, hx2.cell (w := w'.drew) d0 id⟩
  refine hK _ _ hC2 ?_
  clear hK K
  try simp only [Act.put, List.setIfInBounds_toArray, List.set_cons_zero, List.set_cons_succ]
  refine anyZ_take 9 (v := ?_) rfl (by kernel_rfl) (by kernel_rfl) (by kernel_rfl) (by kernel_rfl) (fun _ _ _ h => h) hC2 (Or.inl ⟨by rfl, ?_⟩) ?_
  rotate_left
  · (intro wq hq; (try dsimp only at hq); go_simp; with_reducible rfl)
  simp only [Act.put, List.setIfInBounds_toArray, List.set_cons_zero, List.set_cons_succ]
  refine anyZ_done (by kernel_rfl) ?_ _
  go_wp2_with fail
  go_ret
  exact ⟨rfl, (hX.transNo hxd).transNo hx2⟩
end
end Go.Proofs.Ytjkknjohmekeiaa
/- Buddies in memory: Free; Alloc of what may not be asked. No condition. -/
namespace Go.Proofs.Ytjkknjohmekeiaa
open Go.RowKit

set_option maxRecDepth 100000 in
set_option maxHeartbeats 2000000 in
theorem alloc72_bad (w : World) (bb base : Nat) (v : Value) (l : List T3) (h : BR w bb base v l) (h0 : 0 < l.length) (order cache : Int) (hbad : ¬ ((0 ≤ order ∧ order ≤ 10) ∧ 0 ≤ cache ∧ cache ≤ 8)) :
    Calls Try.prog 72 #[.pointer (some ⟨bb, 0, none⟩), .int .i64 order, .int .i64 cache] w fun e w' => e = .returned (.tuple #[.int .i64 0, .int .i64 2]) ∧ w = w' := by
  have hno := none112_no w bb base _ l h h0
  by_cases h1 : order < 0
  · go_enter Try.func72, Try.ntmps72
    go_wp2_with fail
    refine hno.mono ?_
    rintro e w1 ⟨rfl, rfl⟩
    go_wp2_with fail
    go_ret2
    exact ⟨rfl, rfl⟩
  · by_cases h2 : 10 < order
    · go_enter Try.func72, Try.ntmps72
      go_wp2_with fail
      refine hno.mono ?_
      rintro e w1 ⟨rfl, rfl⟩
      go_wp2_with fail
      go_ret2
      exact ⟨rfl, rfl⟩
    · by_cases h3 : cache < 0
      · go_enter Try.func72, Try.ntmps72
        go_wp2_with fail
        refine hno.mono ?_
        rintro e w1 ⟨rfl, rfl⟩
        go_wp2_with fail
        go_ret2
        exact ⟨rfl, rfl⟩
      · have h4 : 8 < cache := by omega
        go_enter Try.func72, Try.ntmps72
        go_wp2_with fail
        refine hno.mono ?_
        rintro e w1 ⟨rfl, rfl⟩
        go_wp2_with fail
        go_ret2
        exact ⟨rfl, rfl⟩

/-- May a page be given back? -/
def outAt (l : List T3) (page : Int) : Bool := decide (0 ≤ page) && (decide (page < l.length) && decide ((nth l page.toNat).a = 2))
set_option maxRecDepth 100000 in
set_option maxHeartbeats 2000000 in
theorem free69_bad (w : World) (bb base : Nat) (v : Value) (l : List T3) (h : BR w bb base v l) (h0 : 0 < l.length) (page : Int) (hbad : outAt l page = false) :
    Calls Try.prog 69 #[.pointer (some ⟨bb, 0, none⟩), .int .i64 page] w fun e w' => e = .returned (.int .i64 60) ∧ w = w' := by
  obtain ⟨a, cap, rfl, hlc, hcap⟩ := h.val
  have hno := none112_no w bb base _ l h h0
  have c0 := h.b.cell' (i := 0) rfl
  by_cases h1 : page < 0
  · clear hbad
    go_enter Try.func69, Try.ntmps69
    go_wp2_with fail
    refine hno.mono ?_
    rintro e w1 ⟨rfl, rfl⟩
    go_wp2_with fail
    go_ret
    exact ⟨rfl, rfl⟩
  · by_cases h2 : (l.length : Int) ≤ page
    · clear hbad
      go_enter Try.func69, Try.ntmps69
      go_wp2_with fail
      refine hno.mono ?_
      rintro e w1 ⟨rfl, rfl⟩
      go_wp2_with fail
      go_ret
      exact ⟨rfl, rfl⟩
    · obtain ⟨i, rfl⟩ : ∃ i : Nat, page = i := ⟨page.toNat, by omega⟩
      have hi : i < l.length := by omega
      have hk : ((nth l i).a != 2) = true := by
        unfold outAt at hbad
        rw [decide_eq_true (by omega), decide_eq_true (by omega)] at hbad
        simp at hbad
        simpa using hbad
      obtain ⟨b, off, rfl, _, _, x0, x1, x2⟩ := h.rd.at hi
      clear hbad
      go_enter Try.func69, Try.ntmps69
      go_wp2_with fail
      refine hno.mono ?_
      rintro e w1 ⟨rfl, rfl⟩
      go_wp2_with fail
      go_ret
      exact ⟨rfl, rfl⟩

theorem oth_bd {i k : Nat} (h : i % pw k = 0) : oth i k ≤ i + pw k := by
  by_cases h1 : i % pw (k + 1) = 0
  · rw [oth_lo h1]; exact Nat.le_refl _
  · obtain ⟨_, _, h3⟩ := oth_hi h h1
    rw [h3]; omega
/-- What grows stays a block that may be. -/
theorem merge_al {l : List T3} : ∀ (f i o : Nat), 10 - o ≤ f → o ≤ 10 → Va l → i % pw o = 0 → i + pw o ≤ l.length →
    (mergeL l i o).o ≤ 10 ∧ (mergeL l i o).i % pw (mergeL l i o).o = 0 ∧ (mergeL l i o).i + pw (mergeL l i o).o ≤ l.length
  | 0, i, o, hf, ho, hv, h1, h2 => by rw [merge_top l (by omega)]; exact ⟨ho, h1, h2⟩
  | f + 1, i, o, hf, ho, hv, h1, h2 => by
    by_cases h10 : o < 10
    · cases hb : freeB l (oth i o) o
      · rw [merge_no h10 hb]; exact ⟨ho, h1, h2⟩
      · rw [merge_yes h10 hb]
        have hs := pw_succ o
        obtain ⟨_, _, g1, g2⟩ := free_ok hv hb
        by_cases hal : i % pw (o + 1) = 0
        · rw [oth_lo hal] at g2 ⊢
          rw [Nat.min_eq_left (by omega)]
          exact merge_al f i (o + 1) (by omega) (by omega) hv hal (by omega)
        · obtain ⟨k1, k2, k3⟩ := oth_hi h1 hal
          rw [k3] at g2 ⊢
          rw [Nat.min_eq_right (by omega)]
          exact merge_al f (i - pw o) (o + 1) (by omega) (by omega) hv k2 (by omega)
    · rw [merge_top l (by omega)]; exact ⟨ho, h1, h2⟩

set_option maxRecDepth 100000 in
set_option maxHeartbeats 6400000 in
theorem free69_spec (w : World) (bb base : Nat) (v : Value) (l : List T3) (h : BR w bb base v l) (h0 : 0 < l.length) (hv : Va l) (i : Nat) (hi : i < l.length) (hout : (nth l i).a = 2) :
    Calls Try.prog 69 #[.pointer (some ⟨bb, 0, none⟩), .int .i64 i] w fun e w' => e = .returned (.int .i64 0) ∧ BR w' bb base v (freeT l i) ∧ Ext (OwnOf v) w w' := by
  obtain ⟨a, cap, rfl, hlc, hcap⟩ := h.val
  have hn := h.n
  have hbl := h.b.lt
  have hvlt : ∀ x, OwnOf (.slice a l.length cap) x → x < w.heap.size := fun x hx => (h.p.lt x hx).2
  have hno := none112_no w bb base _ l h h0
  have c0 := h.b.cell' (i := 0) rfl
  have hr := hd_of_kind hv hi (by rw [hout]; decide)
  obtain ⟨g1, g2, g3, _⟩ := hv i hr hi
  obtain ⟨hb0, hb1⟩ := headB_range g1
  obtain ⟨k, hk⟩ : ∃ k : Nat, (nth l i).b = k := ⟨(nth l i).b.toNat, by omega⟩
  have hszk : sz (nth l i) = pw k := by unfold sz pw; rw [hk]; rfl
  rw [hszk] at g2 g3
  have hk10 : k ≤ 10 := by omega
  have hT : Hid (freeT l i = setL l (mergeL l i k).i ⟨0, (mergeL l i k).o, 0⟩) := by show _ = _; unfold freeT; rw [hk]; rfl
  have hmal := merge_al (10 - k) i k (Nat.le_refl _) hk10 hv g2 g3
  obtain ⟨b, off, rfl, hbl0, _, x0, x1, x2⟩ := h.rd.at hi
  have hk2 : ((nth l i).a != 2) = false := by rw [hout]; rfl
  rw [hk] at x1
  obtain ⟨n, hnn⟩ : ∃ n, l.length = n := ⟨_, rfl⟩
  have hnn' := Lib.hid hnn
  rw [hnn] at hlc hn h hvlt hi g3 c0 ⊢
  clear hnn hk hout hb0 hb1 hszk
  have hmal' := Lib.hid hmal
  clear hmal g1
  have hd1 : decide ((i : Int) < 0) = false := decide_eq_false (by omega)
  have hd2 : decide ((n : Int) ≤ (i : Int)) = false := decide_eq_false (by omega)
  have hd3 : decide (n ≤ i) = false := decide_eq_false (by omega)
  go_enter Try.func69, Try.ntmps69
  go_wp2_with fail
  refine hno.mono ?_
  rintro e w1 ⟨rfl, rfl⟩
  obtain ⟨X, hX1⟩ : ∃ X, w.heap.size = X := ⟨_, rfl⟩
  have hXw : w.heap.size ≤ X := by omega
  obtain ⟨W, hW⟩ : ∃ W, w.alloc (.cells #[.int .i64 i, .int .i64 k] 162) = W := ⟨_, rfl⟩
  have hxa : Ext No w W := by rw [← hW]; exact (Ext.refl _ _).alloc _
  have hXb : Blk W X [.int .i64 i, .int .i64 k] 162 := by rw [← hW]; exact Blk.new' hX1.symm
  have hB := h.extNo hxa
  clear hno h
  go_wp2_with fail
  clear hX1 hW x0 x1 x2 c0
  go_loopg [] (10 - k) (fun g wr => ∃ (j o : Nat), 10 - o ≤ g ∧ o ≤ 10 ∧ j % pw o = 0 ∧ j + pw o ≤ n ∧ Blk wr X [.int .i64 j, .int .i64 o] 162 ∧ BR wr bb base (.slice (some ⟨b, off, none⟩) n cap) l ∧ Ext No w wr ∧ mergeL l i k = mergeL l j o)
  case atStart => exact ⟨i, k, Nat.le_refl _, hk10, g2, g3, hXb, hB, hxa, rfl⟩
  case round =>
    clear hXb hB hxa
    obtain ⟨j, o, hg, ho, hj1, hj2, hXb, hB, hx, hm⟩ := hrel
    obtain ⟨wz, hwz⟩ : ∃ wz, wr = wz := ⟨_, rfl⟩
    rw [hwz] at hXb hB hx ⊢
    clear hwz
    have hg' := Lib.hid hg
    have hm' := Lib.hid hm
    have hj1' := Lib.hid hj1
    clear hg hm
    have v0 := hB.b.cell' (i := 0) rfl
    have hbl2 := hB.b.lt
    have hXl := hXb.lt
    have y0 := hXb.cell' (i := 0) rfl
    have y1 := hXb.cell' (i := 1) rfl
    by_cases h10 : o < 10
    · have hos : oth j o < 4611686018427387904 := by have := oth_bd hj1; have := pw_le ho; omega
      clear hj1
      go_wp2_with fail
      refine (other116_spec _ j o (by omega) (by omega) hos).mono ?_
      rintro e w3 ⟨rfl, hx3⟩
      have hB3 := hB.extNo hx3
      have hX3 := hXb.extNo hx3
      have hx3' := hx.transNo hx3
      clear hB hXb hx v0 y0 y1
      go_wp2_with fail
      refine (free115_spec _ bb base _ l hB3 (oth j o) o hos).mono ?_
      rintro e w4 ⟨rfl, hx4⟩
      have hB4 := hB3.extNo hx4
      have hX4 := hX3.extNo hx4
      have hx4' := hx3'.transNo hx4
      clear hB3 hX3 hx3'
      have y0 := hX4.cell' (i := 0) rfl
      have y1 := hX4.cell' (i := 1) rfl
      have hX4l := hX4.lt
      cases hb : freeB l (oth j o) o
      · have hmm : Hid (mergeL l i k = ⟨j, o⟩) := by show _ = _; rw [hm'.out, merge_no h10 hb]
        clear hb
        go_wp2_with fail
        refine (lay117_spec w4 bb base _ l hB4 j o ho (by rw [hnn'.out]; exact hj2) ⟨0, 0, 0⟩).mono ?_
        rintro e w5 ⟨⟨u5, rfl⟩, hB5, hx5⟩
        clear y0 y1
        go_wp2_with fail
        go_ret
        rw [hT.out, hmm.out]
        exact ⟨rfl, hB5, hx4'.of_no.transSame hx5⟩
      · have hmm : Hid (mergeL l i k = mergeL l (min j (oth j o)) (o + 1)) := by show _ = _; rw [hm'.out, merge_yes h10 hb]
        have hfo := free_ok hv hb
        have hal : Hid ((min j (oth j o)) % pw (o + 1) = 0 ∧ min j (oth j o) + pw (o + 1) ≤ n) := by
          show _ ∧ _
          have hs := pw_succ o
          obtain ⟨_, _, q1, q2⟩ := hfo
          rw [hnn'.out] at q2
          by_cases hal : j % pw (o + 1) = 0
          · rw [oth_lo hal] at q2 ⊢
            rw [Nat.min_eq_left (by omega)]
            exact ⟨hal, by omega⟩
          · obtain ⟨k1, k2, k3⟩ := oth_hi hj1'.out hal
            rw [k3] at q2 ⊢
            rw [Nat.min_eq_right (by omega)]
            exact ⟨k2, by omega⟩
        have hmin : (if oth j o < j then (oth j o : Int) else (j : Int)) = ((min j (oth j o) : Nat) : Int) := by split <;> omega
        clear hb hfo
        obtain ⟨z, hz⟩ : ∃ z, oth j o = z := ⟨_, rfl⟩
        rw [hz] at hmin hmm hal hos
        obtain ⟨mn, hmn⟩ : ∃ mn, min j z = mn := ⟨_, rfl⟩
        rw [hmn] at hmin hmm hal
        have hz' := Lib.hid hz
        clear hz hmn
        have hfd : ∀ w : World, (Instr.field 162 (.agg #[.int .i64 z, .int .i64 o]) 0).run Try.prog w = .ok (.int .i64 z) w := fun _ => by kernel_rfl
        have ho1 : IntKind.i64.wrap ((o : Int) + 1) = (o : Int) + 1 := by rw [IntKind.wrap_i64]; omega
        have hxd : Ext No w4 w4.drew := (Ext.refl No w4).drew
        go_wp2_with fail
        refine anyZ_begin 10 (fun w' => w'.cell? ⟨X, 0, none⟩ = some (.int .i64 j) ∧ w'.cell? ⟨X, 1, none⟩ = some (.int .i64 o)) (by kernel_rfl) ?_
        have hC : (fun w' : World => w'.cell? ⟨X, 0, none⟩ = some (.int .i64 j) ∧ w'.cell? ⟨X, 1, none⟩ = some (.int .i64 o)) w4.drew := ⟨y0, y1⟩
        refine anyZ_take 0 (v := ?_) rfl (by kernel_rfl) (by kernel_rfl) (by kernel_rfl) (by kernel_rfl) (fun _ _ _ h => h) hC (Or.inl ⟨by rfl, ?_⟩) ?_
        rotate_left
        · (intro wq hq; (try dsimp only at hq); go_simp; with_reducible rfl)
        simp only [Act.put, List.setIfInBounds_toArray, List.set_cons_zero, List.set_cons_succ]
        refine anyZ_take 1 (v := ?_) rfl (by kernel_rfl) (by kernel_rfl) (by kernel_rfl) (by kernel_rfl) (fun _ _ _ h => h) hC (Or.inl ⟨by rfl, ?_⟩) ?_
        rotate_left
        · (intro wq hq; (try dsimp only at hq); go_simp; with_reducible rfl)
        simp only [Act.put, List.setIfInBounds_toArray, List.set_cons_zero, List.set_cons_succ]
        refine anyZ_take 2 (v := ?_) rfl (by kernel_rfl) (by kernel_rfl) (by kernel_rfl) (by kernel_rfl) (fun _ _ _ h => h) hC (Or.inl ⟨by rfl, ?_⟩) ?_
        rotate_left
        · (intro wq hq; (try dsimp only at hq); go_simp; with_reducible rfl)
        simp only [Act.put, List.setIfInBounds_toArray, List.set_cons_zero, List.set_cons_succ]
        refine anyZ_take 6 (v := ?_) rfl (by kernel_rfl) (by kernel_rfl) (by kernel_rfl) (by kernel_rfl) (fun _ _ _ h => h) hC (Or.inl ⟨by rfl, ?_⟩) ?_
        rotate_left
        · (intro wq hq; (try dsimp only at hq); go_simp; with_reducible rfl)
        simp only [Act.put, List.setIfInBounds_toArray, List.set_cons_zero, List.set_cons_succ]
        refine anyZ_take 7 (v := ?_) rfl (by kernel_rfl) (by kernel_rfl) (by kernel_rfl) (by kernel_rfl) (fun _ _ _ h => h) hC (Or.inl ⟨by rfl, ?_⟩) ?_
        rotate_left
        · (intro wq hq; (try dsimp only at hq); go_simp; with_reducible rfl)
        simp only [Act.put, List.setIfInBounds_toArray, List.set_cons_zero, List.set_cons_succ]
        refine anyZ_take 8 (v := ?_) rfl (by kernel_rfl) (by kernel_rfl) (by kernel_rfl) (by kernel_rfl) (fun _ _ _ h => h) hC (Or.inl ⟨by rfl, ?_⟩) ?_
        rotate_left
        · (intro wq hq; (try dsimp only at hq); go_simp; with_reducible rfl)
        simp only [Act.put, List.setIfInBounds_toArray, List.set_cons_zero, List.set_cons_succ]
        refine anyZ_step 3 rfl (by kernel_rfl) (fun K hK => ?_)
        go_simp
        refine (other116_spec _ j o ho (by omega) (by rw [hz'.out]; exact hos)).mono ?_
        rintro e w5 ⟨rfl, hx5⟩
        rw [hz'.out]
        have hX5 := (hX4.extNo hxd).extNo hx5
        have hC5 : (fun w' : World => w'.cell? ⟨X, 0, none⟩ = some (.int .i64 j) ∧ w'.cell? ⟨X, 1, none⟩ = some (.int .i64 o)) w5 := ⟨hx5.cell (w := w4.drew) y0 id, hx5.cell (w := w4.drew) y1 id⟩
        refine hK _ _ hC5 ?_
        clear hK K
        try simp only [Act.put, List.setIfInBounds_toArray, List.set_cons_zero, List.set_cons_succ]
        refine anyZ_take 4 (v := ?_) rfl (by kernel_rfl) (by kernel_rfl) (by kernel_rfl) (by kernel_rfl) (fun _ _ _ h => h) hC5 (Or.inl ⟨by rfl, ?_⟩) ?_
        rotate_left
        · (intro wq hq; (try dsimp only at hq); go_simp; with_reducible rfl)
        simp only [Act.put, List.setIfInBounds_toArray, List.set_cons_zero, List.set_cons_succ]
        refine anyZ_take 5 (v := ?_) rfl (by kernel_rfl) (by kernel_rfl) (by kernel_rfl) (by kernel_rfl) (fun _ _ _ h => h) hC5 (Or.inl ⟨by rfl, ?_⟩) ?_
        rotate_left
        · (intro wq hq; (try dsimp only at hq); go_simp; with_reducible rfl)
        simp only [Act.put, List.setIfInBounds_toArray, List.set_cons_zero, List.set_cons_succ]
        refine anyZ_take 9 (v := ?_) rfl (by kernel_rfl) (by kernel_rfl) (by kernel_rfl) (by kernel_rfl) (fun _ _ _ h => h) hC5 (Or.inl ⟨by rfl, ?_⟩) ?_
        rotate_left
        · (intro wq hq; (try dsimp only at hq); go_simp; with_reducible rfl)
        simp only [Act.put, List.setIfInBounds_toArray, List.set_cons_zero, List.set_cons_succ]
        have f0 := hX5.frozen 0
        have z0 := hX5.cell' (i := 0) rfl
        have q1 := (hX5.set 0 (.int .i64 mn)).cell' (i := 1) rfl
        have q2 := (hX5.set 0 (.int .i64 mn)).frozen 1
        refine anyZ_last rfl (by kernel_rfl) (fun K hK => ?_)
        go_simp
        refine hK _ _ ?_
        clear hK K
        try simp only [Act.put, List.setIfInBounds_toArray, List.set_cons_zero, List.set_cons_succ]
        refine anyZ_done (by kernel_rfl) ?_ _
        have hset : Ext (One X) w5 ((w5.setCell ⟨X, 0, none⟩ (.int .i64 mn)).setCell ⟨X, 1, none⟩ (.int .i64 (o + 1 : Nat))) := (Ext.set1 _ _ _ _).transSame (Ext.set1 _ _ _ _)
        have hX6 : Blk ((w5.setCell ⟨X, 0, none⟩ (.int .i64 mn)).setCell ⟨X, 1, none⟩ (.int .i64 (o + 1 : Nat))) X [.int .i64 mn, .int .i64 (o + 1 : Nat)] 162 := (hX5.set 0 _).set 1 _
        have hx6 := ((hx4'.transNo hxd).transNo hx5).trans hset (fun x hx' (e : x = X) => by omega)
        have hB6 := ((hB4.extNo hxd).extNo hx5).ext hset (fun e : bb = X => by omega) (fun x hx' (e : x = X) => by have := hvlt x hx'; omega)
        have hX6' := Lib.hid hX6
        rw [show ((o + 1 : Nat) : Int) = (o : Int) + 1 by omega] at hB6 hx6
        clear hset hX5 hX6 hB4 y0 y1 q1 q2 f0 z0
        go_wp2_with fail
        go_roundg (10 - (o + 1))
        case measure => have := hg'.out; omega
        case rel => exact ⟨mn, o + 1, Nat.le_refl _, by omega, hal.out.1, hal.out.2, hX6'.out, hB6, hx6, hmm.out⟩
    · have hmm : Hid (mergeL l i k = ⟨j, o⟩) := by show _ = _; rw [hm'.out, merge_top l (by omega)]
      clear hj1
      go_wp2_with fail
      refine (lay117_spec wz bb base _ l hB j o ho (by rw [hnn'.out]; exact hj2) ⟨0, 0, 0⟩).mono ?_
      rintro e w5 ⟨⟨u5, rfl⟩, hB5, hx5⟩
      clear y0 y1 v0
      go_wp2_with fail
      go_ret
      rw [hT.out, hmm.out]
      exact ⟨rfl, hB5, hx.of_no.transSame hx5⟩
end Go.Proofs.Ytjkknjohmekeiaa
/- Plain: a block given back; tables that are whole. No condition. -/
namespace Go.Proofs.Ytjkknjohmekeiaa

/-- No two buddies of an order below 10 are both free. -/
def NP (l : List T3) : Prop := ∀ x o, o < 10 → freeB l x o = true → freeB l (oth x o) o = false
theorem oth_ne {x o : Nat} (h : x % pw o = 0) : oth x o ≠ x := by
  have := pw_pos o
  by_cases h1 : x % pw (o + 1) = 0
  · rw [oth_lo h1]; omega
  · obtain ⟨h2, _, h3⟩ := oth_hi h h1
    rw [h3]; omega

/-! ### Sums of what is laid -/
theorem frS_set {l : List T3} {i : Nat} {p : T3} {A D : List T3} (h : l.drop i = A ++ D) (hA : A.length = sz p) (hi : i ≤ l.length) : frS (setL l i p) = frS l - smB cFree A + cFree p := by
  have e1 : l = l.take i ++ (A ++ D) := by rw [← h, List.take_append_drop]
  have hli : (l.take i).length = i := by simp; omega
  have e2 : setL l i p = l.take i ++ (cell1 p ++ D) := by
    conv => lhs; rw [e1]
    exact set_tile hli hA
  unfold frS
  rw [e2]
  conv => rhs; rw [e1]
  simp only [smB_app, smB_cell cFree (by decide : cFree inside = 0)]
  omega

theorem merge_cov {l : List T3} : ∀ (f i o : Nat), 10 - o ≤ f → o ≤ 10 → Va l → i % pw o = 0 → i + pw o ≤ l.length →
    (mergeL l i o).i ≤ i ∧ i + pw o ≤ (mergeL l i o).i + pw (mergeL l i o).o
  | 0, i, o, hf, ho, hv, h1, h2 => by rw [merge_top l (by omega)]; exact ⟨Nat.le_refl _, Nat.le_refl _⟩
  | f + 1, i, o, hf, ho, hv, h1, h2 => by
    by_cases h10 : o < 10
    · cases hb : freeB l (oth i o) o
      · rw [merge_no h10 hb]; exact ⟨Nat.le_refl _, Nat.le_refl _⟩
      · rw [merge_yes h10 hb]
        have hs := pw_succ o
        obtain ⟨_, _, g1, g2⟩ := free_ok hv hb
        by_cases hal : i % pw (o + 1) = 0
        · rw [oth_lo hal] at g2 ⊢
          rw [Nat.min_eq_left (by omega)]
          have := merge_cov f i (o + 1) (by omega) (by omega) hv hal (by omega)
          omega
        · obtain ⟨k1, k2, k3⟩ := oth_hi h1 hal
          rw [k3] at g2 ⊢
          rw [Nat.min_eq_right (by omega)]
          have := merge_cov f (i - pw o) (o + 1) (by omega) (by omega) hv k2 (by omega)
          omega
    · rw [merge_top l (by omega)]; exact ⟨Nat.le_refl _, Nat.le_refl _⟩
theorem free_congr {l l1 : List T3} (hl : l1.length = l.length) {x : Nat} (h : x < l.length → nth l1 x = nth l x) (o : Nat) : freeB l1 x o = freeB l x o := by
  unfold freeB
  rw [hl]
  by_cases hx : x < l.length
  · rw [h hx]
  · rw [decide_eq_false hx]; rfl
theorem merge_congr {l l1 : List T3} (hl : l1.length = l.length) (hv : Va l) : ∀ (f i o : Nat), 10 - o ≤ f → o ≤ 10 → i % pw o = 0 → i + pw o ≤ l.length →
    (∀ x, x < l.length → (x < i ∨ i + pw o ≤ x) → nth l1 x = nth l x) → mergeL l1 i o = mergeL l i o
  | 0, i, o, hf, ho, h1, h2, h => by rw [merge_top l (by omega), merge_top l1 (by omega)]
  | f + 1, i, o, hf, ho, h1, h2, h => by
    by_cases h10 : o < 10
    · have hp := pw_pos o
      have hc : freeB l1 (oth i o) o = freeB l (oth i o) o := by
        apply free_congr hl
        intro hx
        apply h _ hx
        by_cases hal : i % pw (o + 1) = 0
        · rw [oth_lo hal]; omega
        · obtain ⟨k1, k2, k3⟩ := oth_hi h1 hal
          rw [k3]; omega
      cases hb : freeB l (oth i o) o
      · rw [merge_no h10 hb, merge_no h10 (by rw [hc]; exact hb)]
      · rw [merge_yes h10 hb, merge_yes h10 (by rw [hc]; exact hb)]
        have hs := pw_succ o
        obtain ⟨_, _, g1, g2⟩ := free_ok hv hb
        by_cases hal : i % pw (o + 1) = 0
        · rw [oth_lo hal] at g2 ⊢
          rw [Nat.min_eq_left (by omega)]
          exact merge_congr hl hv f i (o + 1) (by omega) (by omega) hal (by omega) (fun x hx hd => h x hx (by omega))
        · obtain ⟨k1, k2, k3⟩ := oth_hi h1 hal
          rw [k3] at g2 ⊢
          rw [Nat.min_eq_right (by omega)]
          exact merge_congr hl hv f (i - pw o) (o + 1) (by omega) (by omega) k2 (by omega) (fun x hx hd => h x hx (by omega))
    · rw [merge_top l (by omega), merge_top l1 (by omega)]
theorem setL_setL {l : List T3} {i j : Nat} {p q : T3} (h1 : i + sz p ≤ l.length) (h2 : j + sz q ≤ l.length) (h3 : j ≤ i) (h4 : i + sz p ≤ j + sz q) : setL (setL l i p) j q = setL l j q := by
  have hl := setL_len h1
  have hl2 := setL_len h2
  have hp := sz_pos p
  have hl3 : (setL (setL l i p) j q).length = l.length := by rw [setL_len (by rw [hl]; exact h2), hl]
  apply ext_nth (by rw [hl3, hl2])
  intro x hx
  rw [hl3] at hx
  rw [setL_nth (by rw [hl]; exact h2) (by rw [hl]; exact hx), setL_nth h2 hx, setL_nth h1 hx]
  by_cases e1 : x = j
  · rw [if_pos e1, if_pos e1]
  · rw [if_neg e1, if_neg e1]
    by_cases e2 : j < x ∧ x < j + sz q
    · rw [if_pos e2, if_pos e2]
    · rw [if_neg e2, if_neg e2, if_neg (by omega), if_neg (by omega)]

def freeK (l : List T3) (i k : Nat) : List T3 := setL l (mergeL l i k).i ⟨0, (mergeL l i k).o, 0⟩
/-- What is so of a table to which a block is given back. -/
structure FreeP (l l' : List T3) (i k : Nat) : Prop where
  len : l'.length = l.length
  va : Va l'
  np : NP l'
  fr : frS l' = frS l + pw k
  out : ∀ x, x < l.length → ((nth l' x).a = 2 ↔ x ≠ i ∧ (nth l x).a = 2)
theorem freeP : ∀ (f : Nat) {l : List T3} {i k : Nat} {c : Int}, 10 - k ≤ f → Va l → NP l → i < l.length → nth l i = ⟨2, k, c⟩ → FreeP l (freeK l i k) i k := by
  intro f
  induction f with
  | zero =>
    intro l i k c hf hv hn hi he
    exact base l i k c hv hn hi he (.inl (by omega))
  | succ f ih =>
    intro l i k c hf hv hn hi he
    by_cases h10 : k < 10
    · cases hb : freeB l (oth i k) k
      · exact base l i k c hv hn hi he (.inr hb)
      · have hr := hd_of_kind hv hi (by rw [he]; show (2 : Int) ≠ 1; decide)
        have hok := hv i hr hi
        have hsz : sz (nth l i) = pw k := by rw [he, sz_mk]
        obtain ⟨hh, ha, hfit, hin⟩ := hok
        rw [hsz] at ha hfit hin
        obtain ⟨rj, _, aj, fj⟩ := free_ok hv hb
        obtain ⟨lj, ej⟩ := free_is.1 hb
        have hp := pw_pos k
        have hs := pw_succ k
        -- the two blocks, in order
        obtain ⟨i1, h1, h2, h3, h4⟩ : ∃ i1, min i (oth i k) = i1 ∧ i1 % pw (k + 1) = 0 ∧ (i = i1 ∧ oth i k = i1 + pw k ∨ i = i1 + pw k ∧ oth i k = i1) ∧ i1 + pw (k + 1) ≤ l.length := by
          by_cases hal : i % pw (k + 1) = 0
          · have e := oth_lo hal
            rw [e] at fj ⊢
            exact ⟨i, Nat.min_eq_left (by omega), hal, .inl ⟨rfl, rfl⟩, by omega⟩
          · obtain ⟨k1, k2, k3⟩ := oth_hi ha hal
            rw [k3] at fj ⊢
            exact ⟨i - pw k, Nat.min_eq_right (by omega), k2, .inr ⟨by omega, rfl⟩, by omega⟩
        have hi1 : i1 < l.length := by have := pw_pos (k + 1); omega
        have hr1 : Rch l i1 := by rcases h3 with ⟨e, _⟩ | ⟨_, e⟩ <;> rw [← e] <;> assumption
        have hs1 : sz (nth l i1) = pw k := by
          rcases h3 with ⟨e, _⟩ | ⟨_, e⟩
          · rw [← e]; exact hsz
          · rw [← e, ej, sz_mk]
        have hr2 : Rch l (i1 + pw k) := by rcases h3 with ⟨_, e⟩ | ⟨e, _⟩ <;> rw [← e] <;> assumption
        have hi2 : i1 + pw k < l.length := by omega
        have hs2 : sz (nth l (i1 + pw k)) = pw k := by
          rcases h3 with ⟨_, e⟩ | ⟨e, _⟩
          · rw [← e, ej, sz_mk]
          · rw [← e]; exact hsz
        have hsp : sz ⟨2, (k + 1 : Nat), 0⟩ = pw (k + 1) := sz_mk 2 0 (k + 1)
        have hmay : May l i1 ⟨2, (k + 1 : Nat), 0⟩ := by
          refine ⟨headB_out (c := 0) (by omega) (by omega), by rw [hsp]; exact h2, by rw [hsp]; exact h4, fun h hh => ?_⟩
          rw [hh.uniq (Hd.start hr1), hs1, hsp]; omega
        have hfit1 := hmay.fit
        obtain ⟨l1, hl1⟩ : ∃ l1, setL l i1 ⟨2, (k + 1 : Nat), 0⟩ = l1 := ⟨_, rfl⟩
        have hlen1 : l1.length = l.length := by rw [← hl1]; exact setL_len hfit1
        have hv1 : Va l1 := by rw [← hl1]; exact hmay.va hv
        have hnth : ∀ x, x < l.length → nth l1 x = if x = i1 then ⟨2, (k + 1 : Nat), 0⟩ else if i1 < x ∧ x < i1 + pw (k + 1) then inside else nth l x := by
          intro x hx; rw [← hl1, setL_nth hfit1 hx, hsp]
        have hfr1 : frS l1 = frS l - pw k := by
          have d1 := drop_tile (hv i1 hr1 hi1) hi1
          have d2 := drop_tile (hv _ hr2 hi2) hi2
          rw [hs1, d2, hs2, ← List.append_assoc] at d1
          rw [← hl1, frS_set d1 (by rw [List.length_append, cell1_len, cell1_len, hs1, hs2, hsp]; omega) (by omega), smB_app, smB_cell _ (by decide), smB_cell _ (by decide)]
          have c1 : cFree ⟨2, (k + 1 : Nat), 0⟩ = 0 := rfl
          have c2 : cFree (nth l i) = 0 := by rw [he]; rfl
          have c3 : cFree (nth l (oth i k)) = pw k := by rw [ej]; unfold cFree; rw [if_pos (by rfl), sz_mk]
          rcases h3 with ⟨e, e'⟩ | ⟨e, e'⟩
          · rw [← e', ← e, c1, c2, c3]; omega
          · rw [← e, ← e', c1, c2, c3]; omega
        have hfree1 : ∀ x o, freeB l1 x o = true → freeB l x o = true := by
          intro x o hx
          obtain ⟨q1, q2⟩ := free_is.1 hx
          rw [hlen1] at q1
          rw [hnth x q1] at q2
          by_cases e1 : x = i1
          · rw [if_pos e1] at q2; injection q2 with q3; exact absurd q3 (by decide)
          · rw [if_neg e1] at q2
            by_cases e2 : i1 < x ∧ x < i1 + pw (k + 1)
            · rw [if_pos e2] at q2; unfold inside at q2; injection q2 with q3; exact absurd q3 (by decide)
            · rw [if_neg e2] at q2; exact free_is.2 ⟨q1, q2⟩
        have hn1 : NP l1 := by
          intro x o ho hx
          cases hy : freeB l1 (oth x o) o
          · rfl
          · have := hn x o ho (hfree1 x o hx)
            rw [hfree1 _ _ hy] at this; cases this
        have hm : mergeL l i k = mergeL l1 i1 (k + 1) := by
          rw [merge_yes h10 hb, h1]
          exact (merge_congr hlen1 hv (9 - k) i1 (k + 1) (by omega) (by omega) h2 h4 (fun x hx hd => by
            rw [hnth x hx, if_neg (by omega), if_neg (by omega)])).symm
        have hi11 : i1 < l1.length := by rw [hlen1]; exact hi1
        have hat1 : nth l1 i1 = ⟨2, (k + 1 : Nat), 0⟩ := by rw [hnth i1 hi1, if_pos rfl]
        obtain ⟨p1, p2, p3, p4, p5⟩ := ih (by omega) hv1 hn1 hi11 hat1
        have hcov := merge_cov (l := l1) (9 - k) i1 (k + 1) (by omega) (by omega) hv1 h2 (by rw [hlen1]; exact h4)
        have hmal := merge_al (l := l1) (9 - k) i1 (k + 1) (by omega) (by omega) hv1 h2 (by rw [hlen1]; exact h4)
        have hK : freeK l i k = freeK l1 i1 (k + 1) := by
          unfold freeK
          rw [hm, ← hl1]
          rw [← hl1] at hcov hmal
          rw [hl1] at hcov hmal ⊢
          rw [← hl1, setL_setL hfit1 (by rw [sz_mk, hl1]; rw [hlen1] at hmal; exact hmal.2.2) (by rw [hl1]; exact hcov.1) (by rw [hsp, sz_mk, hl1]; exact hcov.2)]
        rw [hK]
        refine ⟨by rw [p1, hlen1], p2, p3, by rw [p4, hfr1]; omega, fun x hx => ?_⟩
        rw [p5 x (by rw [hlen1]; exact hx), hnth x hx]
        have hj0 : (nth l (oth i k)).a ≠ 2 := by rw [ej]; show (0 : Int) ≠ 2; decide
        by_cases e1 : x = i1
        · subst e1
          constructor
          · rintro ⟨h, _⟩; exact absurd rfl h
          · rintro ⟨h, h'⟩
            rcases h3 with ⟨e, _⟩ | ⟨_, e⟩
            · exact absurd e.symm h
            · rw [← e] at h'; exact absurd h' hj0
        · rw [if_neg e1]
          by_cases e2 : i1 < x ∧ x < i1 + pw (k + 1)
          · rw [if_pos e2]
            constructor
            · rintro ⟨_, h⟩; exact absurd h (by decide)
            · rintro ⟨h, h'⟩
              exfalso
              by_cases e3 : x = i1 + pw k
              · rcases h3 with ⟨_, e⟩ | ⟨e, _⟩
                · rw [e3, ← e] at h'; exact hj0 h'
                · exact h (by rw [e3, e])
              · have hins : nth l x = inside := by
                  by_cases e4 : x < i1 + pw k
                  · exact (hv i1 hr1 hi1).2.2.2 x e2.1 (by rw [hs1]; exact e4)
                  · exact (hv _ hr2 hi2).2.2.2 x (by omega) (by rw [hs2]; omega)
                rw [hins] at h'; exact absurd h' (by decide)
          · rw [if_neg e2]
            constructor
            · rintro ⟨_, h⟩
              exact ⟨fun e => by rcases h3 with ⟨e', _⟩ | ⟨e', _⟩ <;> omega, h⟩
            · rintro ⟨_, h⟩; exact ⟨e1, h⟩
    · exact base l i k c hv hn hi he (.inl (by omega))
where
  base (l : List T3) (i k : Nat) (c : Int) (hv : Va l) (hn : NP l) (hi : i < l.length) (he : nth l i = ⟨2, k, c⟩) (hb : 10 ≤ k ∨ freeB l (oth i k) k = false) : FreeP l (freeK l i k) i k := by
    have hr := hd_of_kind hv hi (by rw [he]; show (2 : Int) ≠ 1; decide)
    have hok := hv i hr hi
    have hsz : sz (nth l i) = pw k := by rw [he, sz_mk]
    have hm : mergeL l i k = ⟨i, k⟩ := by
      rcases hb with h | h
      · exact merge_top l h
      · by_cases h10 : k < 10
        · exact merge_no h10 h
        · exact merge_top l (by omega)
    have hk10 : k ≤ 10 := by
      have := headB_range hok.1
      rw [he] at this
      have h5 : ((k : Nat) : Int) ≤ 10 := this.2
      omega
    have hsp : sz ⟨0, (k : Nat), 0⟩ = pw k := sz_mk 0 0 k
    have hmay : May l i ⟨0, (k : Nat), 0⟩ := by
      refine ⟨headB_free hk10, by rw [hsp, ← hsz]; exact hok.2.1, by rw [hsp, ← hsz]; exact hok.2.2.1, fun h hh => ?_⟩
      rw [hh.uniq (Hd.start hr), hsz, hsp]; exact Nat.le_refl _
    have hfit := hmay.fit
    have hK : freeK l i k = setL l i ⟨0, (k : Nat), 0⟩ := by unfold freeK; rw [hm]
    have hins : ∀ x, i < x → x < i + pw k → nth l x = inside := fun x h1 h2 => hok.2.2.2 x h1 (by rw [hsz]; exact h2)
    have hnth : ∀ x, x < l.length → nth (setL l i ⟨0, (k : Nat), 0⟩) x = if x = i then ⟨0, (k : Nat), 0⟩ else nth l x := by
      intro x hx
      rw [setL_nth hfit hx, hsp]
      by_cases e1 : x = i
      · rw [if_pos e1, if_pos e1]
      · rw [if_neg e1, if_neg e1]
        by_cases e2 : i < x ∧ x < i + pw k
        · rw [if_pos e2, hins x e2.1 e2.2]
        · rw [if_neg e2]
    have hlen := setL_len hfit
    rw [hK]
    have hfree : ∀ x o, freeB (setL l i ⟨0, (k : Nat), 0⟩) x o = true → (x = i ∧ o = k) ∨ freeB l x o = true := by
      intro x o hx
      obtain ⟨q1, q2⟩ := free_is.1 hx
      rw [hlen] at q1
      rw [hnth x q1] at q2
      by_cases e1 : x = i
      · rw [if_pos e1] at q2
        injection q2 with _ q3
        exact .inl ⟨e1, by exact_mod_cast q3.symm⟩
      · rw [if_neg e1] at q2; exact .inr (free_is.2 ⟨q1, q2⟩)
    have hal : i % pw k = 0 := by rw [← hsz]; exact hok.2.1
    refine ⟨hlen, hmay.va hv, ?_, ?_, fun x hx => ?_⟩
    · intro x o ho hx
      cases hy : freeB (setL l i ⟨0, (k : Nat), 0⟩) (oth x o) o
      · rfl
      · exfalso
        rcases hfree x o hx with ⟨rfl, rfl⟩ | h1
        · rcases hfree _ _ hy with ⟨e, _⟩ | h2
          · exact oth_ne hal e
          · rcases hb with h | h
            · omega
            · rw [h] at h2; cases h2
        · rcases hfree _ _ hy with ⟨e, e'⟩ | h2
          · subst e'
            have : oth i o = x := by rw [← e, oth_oth]
            rcases hb with h | h
            · omega
            · rw [this, h1] at h; cases h
          · have := hn x o ho h1
            rw [h2] at this; cases this
    · have d1 := drop_tile hok hi
      rw [frS_set d1 (by rw [cell1_len, hsz, hsp]) (by omega), smB_cell _ (by decide), he]
      have c1 : cFree ⟨2, (k : Nat), c⟩ = 0 := rfl
      have c3 : cFree ⟨0, (k : Nat), 0⟩ = pw k := by unfold cFree; rw [if_pos (by rfl), sz_mk]
      rw [c1, c3]; omega
    · rw [hnth x hx]
      by_cases e1 : x = i
      · rw [if_pos e1]
        constructor
        · intro h; exact absurd h (by show ¬ (0 : Int) = 2; decide)
        · rintro ⟨h, _⟩; exact absurd e1 h
      · rw [if_neg e1]; exact ⟨fun h => ⟨e1, h⟩, fun h => h.2⟩
theorem freeT_is {l : List T3} {i k : Nat} {c : Int} (h : nth l i = ⟨2, k, c⟩) : freeT l i = freeK l i k := by unfold freeT freeK; rw [h]; rfl
end Go.Proofs.Ytjkknjohmekeiaa
