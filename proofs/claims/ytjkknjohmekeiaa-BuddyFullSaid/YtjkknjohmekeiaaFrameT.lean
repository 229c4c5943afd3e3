/- Plain: tables that may be: their blocks begin where they should; a block laid over whole blocks leaves such a table. No condition. -/
import Derived.Test.YtjkknjohmekeiaaFrameC
namespace Go.Proofs.Ytjkknjohmekeiaa

theorem mem_nth {α : Type} [Inhabited α] {l : List α} {k : Nat} (h : k < l.length) : nth l k ∈ l := by rw [nth_eq h]; exact List.getElem_mem _
theorem mid_iff {l : List T3} {i : Nat} (h : i + sz (nth l i) ≤ l.length) : (mid l i).any notIn = false ↔ ∀ j, i < j → j < i + sz (nth l i) → nth l j = inside := by
  have hp := sz_pos (nth l i)
  have hlen : (mid l i).length = sz (nth l i) - 1 := by unfold mid; simp; omega
  have hn : ∀ j, j < sz (nth l i) - 1 → nth (mid l i) j = nth l (i + 1 + j) := by
    intro j hj
    have e1 : nth (mid l i) j = (mid l i)[j]'(by rw [hlen]; exact hj) := nth_eq (by rw [hlen]; exact hj)
    have e2 : nth l (i + 1 + j) = l[i + 1 + j]'(by omega) := nth_eq (by omega)
    rw [e1, e2]
    unfold mid
    simp
  constructor
  · intro ha j h1 h2
    have hj : j - i - 1 < sz (nth l i) - 1 := by omega
    have h3 := hn (j - i - 1) hj
    rw [show i + 1 + (j - i - 1) = j by omega] at h3
    rw [← h3]
    have := List.any_eq_false.1 ha (nth (mid l i) (j - i - 1)) (mem_nth (by rw [hlen]; exact hj))
    unfold notIn at this
    simpa using this
  · intro ha
    rw [List.any_eq_false]
    intro x hx
    obtain ⟨j, hj, rfl⟩ := List.mem_iff_getElem.1 hx
    rw [← nth_eq hj, hn j (by rw [hlen] at hj; exact hj), ha (i + 1 + j) (by omega) (by rw [hlen] at hj; omega)]
    decide

def Ok (l : List T3) (i : Nat) : Prop := headB (nth l i) = true ∧ i % sz (nth l i) = 0 ∧ i + sz (nth l i) ≤ l.length ∧ ∀ j, i < j → j < i + sz (nth l i) → nth l j = inside
theorem ok_iff {l : List T3} {i : Nat} : okAt l i = true ↔ Ok l i := by
  rw [okAt_iff]
  unfold Ok
  constructor
  · rintro ⟨h1, h2, h3, h4⟩; exact ⟨h1, h2, h3, (mid_iff h3).1 h4⟩
  · rintro ⟨h1, h2, h3, h4⟩; exact ⟨h1, h2, h3, (mid_iff h3).2 h4⟩

/-- Where a block begins, or the last one ends. -/
inductive Rch (l : List T3) : Nat → Prop
  | zero : Rch l 0
  | step {i : Nat} : Rch l i → i < l.length → Rch l (i + sz (nth l i))
/-- All blocks may be. -/
def Va (l : List T3) : Prop := ∀ i, Rch l i → i < l.length → Ok l i

theorem bl_pre {l : List T3} (ha : ∀ x ∈ bl l, 0 ≤ x.1) : ∀ {i : Nat}, Rch l i → ∃ pre, bl l = pre ++ bseq l i ∧ ∀ x ∈ pre, ∃ j : Nat, x = ((j : Int), nth l j) ∧ Rch l j ∧ j < l.length ∧ j + sz (nth l j) ≤ i := by
  intro i hi
  induction hi with
  | zero => exact ⟨[], rfl, by simp⟩
  | @step i hr hlt ih =>
    obtain ⟨pre, h1, h2⟩ := ih
    cases ho : okAt l i
    · have := bseq_bad hlt ho
      rw [this] at h1
      have := ha (-1, nth l i) (by rw [h1]; simp)
      simp at this
    · refine ⟨pre ++ [((i : Int), nth l i)], by rw [h1, bseq_ok hlt ho]; simp, fun x hx => ?_⟩
      rcases List.mem_append.1 hx with h3 | h3
      · obtain ⟨j, e, h4, h5, h6⟩ := h2 x h3
        exact ⟨j, e, h4, h5, by omega⟩
      · simp only [List.mem_singleton] at h3
        exact ⟨i, h3, hr, hlt, Nat.le_refl _⟩
theorem va_all {l : List T3} (h : Va l) : ∀ (n i : Nat), l.length - i ≤ n → Rch l i → ∀ x ∈ bseq l i, 0 ≤ x.1
  | 0, i, hn, hr => by rw [bseq_out (by omega)]; simp
  | n + 1, i, hn, hr => by
    by_cases hi : i < l.length
    · have hok := h i hr hi
      rw [bseq_ok hi (ok_iff.2 hok)]
      have hp := sz_pos (nth l i)
      intro x hx
      rcases List.mem_cons.1 hx with h1 | h1
      · subst h1; show (0 : Int) ≤ (i : Int); omega
      · exact va_all h n _ (by omega) (hr.step hi) x h1
    · rw [bseq_out (by omega)]; simp
theorem tab_iff {l : List T3} : tabOk l = true ↔ 0 < l.length ∧ l.length ≤ 1024 ∧ Va l := by
  unfold tabOk
  simp only [Bool.and_eq_true, decide_eq_true_eq, List.all_eq_true]
  constructor
  · rintro ⟨h1, h2, h3⟩
    refine ⟨h1, h2, fun i hr hi => ?_⟩
    obtain ⟨pre, e, _⟩ := bl_pre h3 hr
    cases ho : okAt l i
    · rw [bseq_bad hi ho] at e
      have := h3 (-1, nth l i) (by rw [e]; simp)
      simp at this
    · exact ok_iff.1 ho
  · rintro ⟨h1, h2, h3⟩
    exact ⟨h1, h2, va_all h3 l.length 0 (by omega) .zero⟩

theorem Rch.le {l : List T3} (h : Va l) {i : Nat} (hr : Rch l i) : i ≤ l.length := by
  cases hr with
  | zero => omega
  | step hr hi => exact (h _ hr hi).2.2.1
theorem rch_sep {l : List T3} (n : Nat) : ∀ h', h' ≤ n → Rch l h' → ∀ h, Rch l h → h < h' → h + sz (nth l h) ≤ h' := by
  induction n with
  | zero => intro h' hn _ h _ hlt; omega
  | succ n ih =>
    intro h' hn hr' h hr hlt
    cases hr' with
    | zero => omega
    | @step i hri hi =>
      have hp := sz_pos (nth l i)
      rcases Nat.lt_trichotomy h i with h1 | h1 | h1
      · have := ih i (by omega) hri h hr h1; omega
      · subst h1; exact Nat.le_refl _
      · have := ih h (by omega) hr i hri h1; omega
theorem Rch.sep {l : List T3} {h h' : Nat} (hr : Rch l h) (hr' : Rch l h') (hlt : h < h') : h + sz (nth l h) ≤ h' := rch_sep h' h' (Nat.le_refl _) hr' h hr hlt
theorem rch_at {l : List T3} (hv : Va l) : ∀ n, n ≤ l.length → ∃ h, Rch l h ∧ h ≤ n ∧ (n < h + sz (nth l h) ∨ (h = n ∧ n = l.length))
  | 0, hn => ⟨0, .zero, Nat.le_refl _, .inl (by have := sz_pos (nth l 0); omega)⟩
  | n + 1, hn => by
    obtain ⟨h, hr, h1, h2⟩ := rch_at hv n (by omega)
    rcases h2 with h2 | ⟨h2, h3⟩
    · by_cases h4 : n + 1 < h + sz (nth l h)
      · exact ⟨h, hr, by omega, .inl h4⟩
      · have h5 : n + 1 = h + sz (nth l h) := by omega
        have hs := hr.step (show h < l.length by omega)
        rw [← h5] at hs
        refine ⟨n + 1, hs, Nat.le_refl _, ?_⟩
        by_cases h6 : n + 1 = l.length
        · exact .inr ⟨rfl, h6⟩
        · exact .inl (by have := sz_pos (nth l (n + 1)); omega)
    · omega
/-- A page's head. -/
structure Hd (l : List T3) (page h : Nat) : Prop where
  r : Rch l h
  le : h ≤ page
  lt : page < h + sz (nth l h)
theorem hd_ex {l : List T3} (hv : Va l) {page : Nat} (hp : page < l.length) : ∃ h, Hd l page h := by
  obtain ⟨h, h1, h2, h3⟩ := rch_at hv page (by omega)
  exact ⟨h, h1, h2, by omega⟩
theorem Hd.uniq {l : List T3} {page h h' : Nat} (a : Hd l page h) (b : Hd l page h') : h = h' := by
  rcases Nat.lt_trichotomy h h' with h1 | h1 | h1
  · have := a.r.sep b.r h1; have := a.lt; have := b.le; omega
  · exact h1
  · have := b.r.sep a.r h1; have := b.lt; have := a.le; omega
theorem Hd.start {l : List T3} {h : Nat} (hr : Rch l h) : Hd l h h := ⟨hr, Nat.le_refl _, by have := sz_pos (nth l h); omega⟩
theorem Hd.hlt {l : List T3} {page h : Nat} (a : Hd l page h) (hp : page < l.length) : h < l.length := by have := a.le; omega

def headF (l : List T3) (page : Int) : Int := match (bl l).find? (fun x => decide (page < x.1 + sz x.2)) with
  | some x => x.1
  | none => 0
theorem headF_eq {l : List T3} (hv : Va l) {page h : Nat} (hp : page < l.length) (a : Hd l page h) : headF l page = h := by
  have ha := va_all hv l.length 0 (by omega) .zero
  obtain ⟨pre, e, h2⟩ := bl_pre ha a.r
  have hh := a.hlt hp
  rw [bseq_ok hh (ok_iff.2 (hv h a.r hh))] at e
  unfold headF
  rw [e, List.find?_append]
  have hn : pre.find? (fun x => decide ((page : Int) < x.1 + sz x.2)) = none := by
    rw [List.find?_eq_none]
    intro x hx
    obtain ⟨j, rfl, _, _, h6⟩ := h2 x hx
    have := a.le
    simp only [decide_eq_true_eq]; omega
  rw [hn]
  have := a.lt
  simp only [Option.none_or, List.find?_cons]
  rw [decide_eq_true (by omega)]

/-! ### Powers -/
theorem sz_dvd {p q : T3} (h : p.b ≤ q.b) : sz p ∣ sz q := Nat.pow_dvd_pow 2 (by omega)
theorem sz_dvd' {p q : T3} (h : sz p ≤ sz q) : sz p ∣ sz q := by
  unfold sz at *
  exact Nat.pow_dvd_pow 2 ((Nat.pow_le_pow_iff_right (by omega)).1 h)
theorem dvd_lt {d a b : Nat} (hd : 0 < d) (ha : d ∣ a) (hb : d ∣ b) (h1 : a ≤ b) (h2 : b < a + d) : a = b := by
  obtain ⟨x, rfl⟩ := ha
  obtain ⟨y, rfl⟩ := hb
  have : y < x + 1 := by
    apply Nat.lt_of_mul_lt_mul_left (a := d)
    rw [Nat.mul_add, Nat.mul_one]; exact h2
  have : x ≤ y := Nat.le_of_mul_le_mul_left h1 hd
  rw [show x = y by omega]
theorem dvd_room {d a b : Nat} (ha : d ∣ a) (hb : d ∣ b) (h1 : a < b) : a + d ≤ b := by
  obtain ⟨x, rfl⟩ := ha
  obtain ⟨y, rfl⟩ := hb
  have : x < y := Nat.lt_of_mul_lt_mul_left h1
  calc d * x + d = d * (x + 1) := by rw [Nat.mul_add, Nat.mul_one]
    _ ≤ d * y := Nat.mul_le_mul_left _ this

/-! ### A block laid -/
/-- The table in which pages are a block. -/
def setL (l : List T3) (i : Nat) (p : T3) : List T3 := l.take i ++ (p :: List.replicate (sz p - 1) inside) ++ l.drop (i + sz p)
theorem setL_len {l : List T3} {i : Nat} {p : T3} (h : i + sz p ≤ l.length) : (setL l i p).length = l.length := by
  have := sz_pos p
  unfold setL; simp; omega
theorem setL_nth {l : List T3} {i : Nat} {p : T3} (h : i + sz p ≤ l.length) {j : Nat} (hj : j < l.length) : nth (setL l i p) j = if j = i then p else if i < j ∧ j < i + sz p then inside else nth l j := by
  have hp := sz_pos p
  rw [nth_eq (by rw [setL_len h]; exact hj), nth_eq hj]
  unfold setL
  by_cases h1 : j < i
  · rw [List.getElem_append_left (by simp; omega), List.getElem_append_left (by simp; omega)]
    rw [if_neg (by omega), if_neg (by omega)]; simp
  · by_cases h2 : j < i + sz p
    · rw [List.getElem_append_left (by simp; omega), List.getElem_append_right (by simp; omega)]
      by_cases h3 : j = i
      · rw [if_pos h3]; simp [h3]
        have : i - min i l.length = 0 := by omega
        simp [this]
      · rw [if_neg h3, if_pos (by omega)]
        obtain ⟨k, hk⟩ : ∃ k, j - (l.take i).length = k + 1 := ⟨j - i - 1, by simp; omega⟩
        simp only [hk, List.getElem_cons_succ, List.getElem_replicate]
    · rw [List.getElem_append_right (by simp; omega), if_neg (by omega), if_neg (by omega)]
      simp only [List.getElem_drop]
      congr 1
      simp; omega

/-- Pages that a block may take: it begins where it should, and whole blocks lie below it. -/
structure May (l : List T3) (i : Nat) (p : T3) : Prop where
  head : headB p = true
  al : i % sz p = 0
  fit : i + sz p ≤ l.length
  small : ∀ h, Hd l i h → sz (nth l h) ≤ sz p
theorem May.begins {l : List T3} {i : Nat} {p : T3} (hv : Va l) (m : May l i p) : Rch l i := by
  have hp := sz_pos p
  have hf := m.fit
  obtain ⟨h, hh⟩ := hd_ex hv (show i < l.length by omega)
  have hs := m.small h hh
  have hok := hv h hh.r (hh.hlt (by omega))
  have e : h = i := dvd_lt (sz_pos _) (Nat.dvd_of_mod_eq_zero hok.2.1) (Nat.dvd_trans (sz_dvd' hs) (Nat.dvd_of_mod_eq_zero m.al)) hh.le hh.lt
  rw [← e]; exact hh.r
theorem May.inner {l : List T3} {i : Nat} {p : T3} (hv : Va l) (m : May l i p) {s : Nat} (hr : Rch l s) (h1 : i ≤ s) (h2 : s < i + sz p) : s + sz (nth l s) ≤ i + sz p := by
  have hb := m.begins hv
  have hf := m.fit
  have hok := hv s hr (by omega)
  rcases Nat.le_total (sz (nth l s)) (sz p) with h3 | h3
  · exact dvd_room (Nat.dvd_of_mod_eq_zero hok.2.1) (Nat.dvd_add (Nat.dvd_trans (sz_dvd' h3) (Nat.dvd_of_mod_eq_zero m.al)) (sz_dvd' h3)) h2
  · have e : i = s := dvd_lt (sz_pos p) (Nat.dvd_of_mod_eq_zero m.al) (Nat.dvd_trans (sz_dvd' h3) (Nat.dvd_of_mod_eq_zero hok.2.1)) h1 h2
    subst e
    have := m.small i (.start hr)
    omega
theorem May.ends {l : List T3} {i : Nat} {p : T3} (hv : Va l) (m : May l i p) : Rch l (i + sz p) := by
  have hp := sz_pos p
  have hf := m.fit
  have hb := m.begins hv
  obtain ⟨h, hh⟩ := hd_ex hv (show i + sz p - 1 < l.length by omega)
  have h1 : i ≤ h := by
    rcases Nat.lt_or_ge h i with h2 | h2
    · have := hh.r.sep hb h2; have := hh.lt; omega
    · exact h2
  have h3 := m.inner hv hh.r h1 (by have := hh.le; omega)
  have := hh.lt
  have hs := hh.r.step (hh.hlt (by omega))
  rw [show h + sz (nth l h) = i + sz p by omega] at hs
  exact hs
theorem May.back {l : List T3} {i : Nat} {p : T3} (hv : Va l) (m : May l i p) {s : Nat} (hr : Rch (setL l i p) s) : Rch l s ∧ (s ≤ i ∨ i + sz p ≤ s) := by
  have hp := sz_pos p
  have hb := m.begins hv
  induction hr with
  | zero => exact ⟨.zero, .inl (Nat.zero_le _)⟩
  | @step s hr hlt ih =>
    rw [setL_len m.fit] at hlt
    obtain ⟨h1, h2⟩ := ih
    rw [setL_nth m.fit hlt]
    by_cases e : s = i
    · subst e
      rw [if_pos rfl]
      exact ⟨m.ends hv, .inr (Nat.le_refl _)⟩
    · rw [if_neg e, if_neg (by omega)]
      refine ⟨h1.step hlt, ?_⟩
      rcases Nat.lt_or_ge s i with h3 | h3
      · exact .inl (h1.sep hb h3)
      · have := sz_pos (nth l s); right; omega
theorem May.forth {l : List T3} {i : Nat} {p : T3} (hv : Va l) (m : May l i p) {s : Nat} (hr : Rch l s) : (s ≤ i ∨ i + sz p ≤ s) → Rch (setL l i p) s := by
  have hp := sz_pos p
  have hb := m.begins hv
  have hlow : ∀ {s : Nat}, Rch l s → s ≤ i → Rch (setL l i p) s := by
    intro s hr
    induction hr with
    | zero => intro _; exact .zero
    | @step s hr hlt ih =>
      intro hle
      have h1 := sz_pos (nth l s)
      have hs := ih (by omega)
      have e : nth (setL l i p) s = nth l s := by rw [setL_nth m.fit hlt, if_neg (by omega), if_neg (by omega)]
      have := hs.step (by rw [setL_len m.fit]; exact hlt)
      rwa [e] at this
  have hend : Rch (setL l i p) (i + sz p) := by
    have hf := m.fit
    have := (hlow hb (Nat.le_refl _)).step (by rw [setL_len m.fit]; omega)
    rwa [setL_nth m.fit (by omega), if_pos rfl] at this
  induction hr with
  | zero => intro _; exact .zero
  | @step s hr hlt ih =>
    intro h
    rcases h with h | h
    · exact hlow (hr.step hlt) h
    · by_cases e : i + sz p = s + sz (nth l s)
      · rw [← e]; exact hend
      · have h2 : i + sz p ≤ s := by
          rcases Nat.lt_or_ge s (i + sz p) with h3 | h3
          · rcases Nat.lt_or_ge s i with h4 | h4
            · have := hr.sep hb h4; omega
            · have := m.inner hv hr h4 h3; omega
          · exact h3
        have hs := ih (.inr h2)
        have e2 : nth (setL l i p) s = nth l s := by rw [setL_nth m.fit hlt, if_neg (by omega), if_neg (by omega)]
        have := hs.step (by rw [setL_len m.fit]; exact hlt)
        rwa [e2] at this
theorem May.va {l : List T3} {i : Nat} {p : T3} (hv : Va l) (m : May l i p) : Va (setL l i p) := by
  have hp := sz_pos p
  have hb := m.begins hv
  intro s hr hlt
  rw [setL_len m.fit] at hlt
  obtain ⟨h1, h2⟩ := m.back hv hr
  have hok := hv s h1 hlt
  unfold Ok
  rw [setL_len m.fit, setL_nth m.fit hlt]
  by_cases e : s = i
  · subst e
    rw [if_pos rfl]
    refine ⟨m.head, m.al, m.fit, fun j h3 h4 => ?_⟩
    have hf := m.fit
    rw [setL_nth m.fit (by omega), if_neg (by omega), if_pos ⟨h3, h4⟩]
  · rw [if_neg e, if_neg (by omega)]
    refine ⟨hok.1, hok.2.1, hok.2.2.1, fun j h3 h4 => ?_⟩
    have := hok.2.2.1
    rw [setL_nth m.fit (by omega), if_neg, if_neg]
    · exact hok.2.2.2 j h3 h4
    · rcases Nat.lt_or_ge s i with h5 | h5
      · have := h1.sep hb h5; omega
      · omega
    · rcases Nat.lt_or_ge s i with h5 | h5
      · have := h1.sep hb h5; omega
      · omega
end Go.Proofs.Ytjkknjohmekeiaa
