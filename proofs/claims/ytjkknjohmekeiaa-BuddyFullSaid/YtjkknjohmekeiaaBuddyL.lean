/- Plain: a block given back; tables that are whole. No condition. -/
import Derived.Test.YtjkknjohmekeiaaBuddyK
import Derived.Test.YtjkknjohmekeiaaBuddyE
import Derived.Test.YtjkknjohmekeiaaBuddyJ
namespace Go.Proofs.Ytjkknjohmekeiaa

/-- No two buddies of an order below 10 are both free. -/
def NP (l : List T3) : Prop := ∀ x o, o < 10 → freeB l x o = true → freeB l (oth x o) o = false
theorem oth_ne {x o : Nat} (h : x % pw o = 0) : oth x o ≠ x := by
  have := pw_pos o
  by_cases h1 : x % pw (o + 1) = 0
  · rw [oth_lo h1]; omega
  · obtain ⟨h2, _, h3⟩ := oth_hi h h1
    rw [h3]; omega

/-! ### Sums of what is laid -/
theorem frS_set {l : List T3} {i : Nat} {p : T3} {A D : List T3} (h : l.drop i = A ++ D) (hA : A.length = sz p) (hi : i ≤ l.length) : frS (setL l i p) = frS l - smB cFree A + cFree p := by
  have e1 : l = l.take i ++ (A ++ D) := by rw [← h, List.take_append_drop]
  have hli : (l.take i).length = i := by simp; omega
  have e2 : setL l i p = l.take i ++ (cell1 p ++ D) := by
    conv => lhs; rw [e1]
    exact set_tile hli hA
  unfold frS
  rw [e2]
  conv => rhs; rw [e1]
  simp only [smB_app, smB_cell cFree (by decide : cFree inside = 0)]
  omega

theorem merge_cov {l : List T3} : ∀ (f i o : Nat), 10 - o ≤ f → o ≤ 10 → Va l → i % pw o = 0 → i + pw o ≤ l.length →
    (mergeL l i o).i ≤ i ∧ i + pw o ≤ (mergeL l i o).i + pw (mergeL l i o).o
  | 0, i, o, hf, ho, hv, h1, h2 => by rw [merge_top l (by omega)]; exact ⟨Nat.le_refl _, Nat.le_refl _⟩
  | f + 1, i, o, hf, ho, hv, h1, h2 => by
    by_cases h10 : o < 10
    · cases hb : freeB l (oth i o) o
      · rw [merge_no h10 hb]; exact ⟨Nat.le_refl _, Nat.le_refl _⟩
      · rw [merge_yes h10 hb]
        have hs := pw_succ o
        obtain ⟨_, _, g1, g2⟩ := free_ok hv hb
        by_cases hal : i % pw (o + 1) = 0
        · rw [oth_lo hal] at g2 ⊢
          rw [Nat.min_eq_left (by omega)]
          have := merge_cov f i (o + 1) (by omega) (by omega) hv hal (by omega)
          omega
        · obtain ⟨k1, k2, k3⟩ := oth_hi h1 hal
          rw [k3] at g2 ⊢
          rw [Nat.min_eq_right (by omega)]
          have := merge_cov f (i - pw o) (o + 1) (by omega) (by omega) hv k2 (by omega)
          omega
    · rw [merge_top l (by omega)]; exact ⟨Nat.le_refl _, Nat.le_refl _⟩
theorem free_congr {l l1 : List T3} (hl : l1.length = l.length) {x : Nat} (h : x < l.length → nth l1 x = nth l x) (o : Nat) : freeB l1 x o = freeB l x o := by
  unfold freeB
  rw [hl]
  by_cases hx : x < l.length
  · rw [h hx]
  · rw [decide_eq_false hx]; rfl
theorem merge_congr {l l1 : List T3} (hl : l1.length = l.length) (hv : Va l) : ∀ (f i o : Nat), 10 - o ≤ f → o ≤ 10 → i % pw o = 0 → i + pw o ≤ l.length →
    (∀ x, x < l.length → (x < i ∨ i + pw o ≤ x) → nth l1 x = nth l x) → mergeL l1 i o = mergeL l i o
  | 0, i, o, hf, ho, h1, h2, h => by rw [merge_top l (by omega), merge_top l1 (by omega)]
  | f + 1, i, o, hf, ho, h1, h2, h => by
    by_cases h10 : o < 10
    · have hp := pw_pos o
      have hc : freeB l1 (oth i o) o = freeB l (oth i o) o := by
        apply free_congr hl
        intro hx
        apply h _ hx
        by_cases hal : i % pw (o + 1) = 0
        · rw [oth_lo hal]; omega
        · obtain ⟨k1, k2, k3⟩ := oth_hi h1 hal
          rw [k3]; omega
      cases hb : freeB l (oth i o) o
      · rw [merge_no h10 hb, merge_no h10 (by rw [hc]; exact hb)]
      · rw [merge_yes h10 hb, merge_yes h10 (by rw [hc]; exact hb)]
        have hs := pw_succ o
        obtain ⟨_, _, g1, g2⟩ := free_ok hv hb
        by_cases hal : i % pw (o + 1) = 0
        · rw [oth_lo hal] at g2 ⊢
          rw [Nat.min_eq_left (by omega)]
          exact merge_congr hl hv f i (o + 1) (by omega) (by omega) hal (by omega) (fun x hx hd => h x hx (by omega))
        · obtain ⟨k1, k2, k3⟩ := oth_hi h1 hal
          rw [k3] at g2 ⊢
          rw [Nat.min_eq_right (by omega)]
          exact merge_congr hl hv f (i - pw o) (o + 1) (by omega) (by omega) k2 (by omega) (fun x hx hd => h x hx (by omega))
    · rw [merge_top l (by omega), merge_top l1 (by omega)]
theorem setL_setL {l : List T3} {i j : Nat} {p q : T3} (h1 : i + sz p ≤ l.length) (h2 : j + sz q ≤ l.length) (h3 : j ≤ i) (h4 : i + sz p ≤ j + sz q) : setL (setL l i p) j q = setL l j q := by
  have hl := setL_len h1
  have hl2 := setL_len h2
  have hp := sz_pos p
  have hl3 : (setL (setL l i p) j q).length = l.length := by rw [setL_len (by rw [hl]; exact h2), hl]
  apply ext_nth (by rw [hl3, hl2])
  intro x hx
  rw [hl3] at hx
  rw [setL_nth (by rw [hl]; exact h2) (by rw [hl]; exact hx), setL_nth h2 hx, setL_nth h1 hx]
  by_cases e1 : x = j
  · rw [if_pos e1, if_pos e1]
  · rw [if_neg e1, if_neg e1]
    by_cases e2 : j < x ∧ x < j + sz q
    · rw [if_pos e2, if_pos e2]
    · rw [if_neg e2, if_neg e2, if_neg (by omega), if_neg (by omega)]

def freeK (l : List T3) (i k : Nat) : List T3 := setL l (mergeL l i k).i ⟨0, (mergeL l i k).o, 0⟩
/-- What is so of a table to which a block is given back. -/
structure FreeP (l l' : List T3) (i k : Nat) : Prop where
  len : l'.length = l.length
  va : Va l'
  np : NP l'
  fr : frS l' = frS l + pw k
  out : ∀ x, x < l.length → ((nth l' x).a = 2 ↔ x ≠ i ∧ (nth l x).a = 2)
theorem freeP : ∀ (f : Nat) {l : List T3} {i k : Nat} {c : Int}, 10 - k ≤ f → Va l → NP l → i < l.length → nth l i = ⟨2, k, c⟩ → FreeP l (freeK l i k) i k := by
  intro f
  induction f with
  | zero =>
    intro l i k c hf hv hn hi he
    exact base l i k c hv hn hi he (.inl (by omega))
  | succ f ih =>
    intro l i k c hf hv hn hi he
    by_cases h10 : k < 10
    · cases hb : freeB l (oth i k) k
      · exact base l i k c hv hn hi he (.inr hb)
      · have hr := hd_of_kind hv hi (by rw [he]; show (2 : Int) ≠ 1; decide)
        have hok := hv i hr hi
        have hsz : sz (nth l i) = pw k := by rw [he, sz_mk]
        obtain ⟨hh, ha, hfit, hin⟩ := hok
        rw [hsz] at ha hfit hin
        obtain ⟨rj, _, aj, fj⟩ := free_ok hv hb
        obtain ⟨lj, ej⟩ := free_is.1 hb
        have hp := pw_pos k
        have hs := pw_succ k
        -- the two blocks, in order
        obtain ⟨i1, h1, h2, h3, h4⟩ : ∃ i1, min i (oth i k) = i1 ∧ i1 % pw (k + 1) = 0 ∧ (i = i1 ∧ oth i k = i1 + pw k ∨ i = i1 + pw k ∧ oth i k = i1) ∧ i1 + pw (k + 1) ≤ l.length := by
          by_cases hal : i % pw (k + 1) = 0
          · have e := oth_lo hal
            rw [e] at fj ⊢
            exact ⟨i, Nat.min_eq_left (by omega), hal, .inl ⟨rfl, rfl⟩, by omega⟩
          · obtain ⟨k1, k2, k3⟩ := oth_hi ha hal
            rw [k3] at fj ⊢
            exact ⟨i - pw k, Nat.min_eq_right (by omega), k2, .inr ⟨by omega, rfl⟩, by omega⟩
        have hi1 : i1 < l.length := by have := pw_pos (k + 1); omega
        have hr1 : Rch l i1 := by rcases h3 with ⟨e, _⟩ | ⟨_, e⟩ <;> rw [← e] <;> assumption
        have hs1 : sz (nth l i1) = pw k := by
          rcases h3 with ⟨e, _⟩ | ⟨_, e⟩
          · rw [← e]; exact hsz
          · rw [← e, ej, sz_mk]
        have hr2 : Rch l (i1 + pw k) := by rcases h3 with ⟨_, e⟩ | ⟨e, _⟩ <;> rw [← e] <;> assumption
        have hi2 : i1 + pw k < l.length := by omega
        have hs2 : sz (nth l (i1 + pw k)) = pw k := by
          rcases h3 with ⟨_, e⟩ | ⟨e, _⟩
          · rw [← e, ej, sz_mk]
          · rw [← e]; exact hsz
        have hsp : sz ⟨2, (k + 1 : Nat), 0⟩ = pw (k + 1) := sz_mk 2 0 (k + 1)
        have hmay : May l i1 ⟨2, (k + 1 : Nat), 0⟩ := by
          refine ⟨headB_out (c := 0) (by omega) (by omega), by rw [hsp]; exact h2, by rw [hsp]; exact h4, fun h hh => ?_⟩
          rw [hh.uniq (Hd.start hr1), hs1, hsp]; omega
        have hfit1 := hmay.fit
        obtain ⟨l1, hl1⟩ : ∃ l1, setL l i1 ⟨2, (k + 1 : Nat), 0⟩ = l1 := ⟨_, rfl⟩
        have hlen1 : l1.length = l.length := by rw [← hl1]; exact setL_len hfit1
        have hv1 : Va l1 := by rw [← hl1]; exact hmay.va hv
        have hnth : ∀ x, x < l.length → nth l1 x = if x = i1 then ⟨2, (k + 1 : Nat), 0⟩ else if i1 < x ∧ x < i1 + pw (k + 1) then inside else nth l x := by
          intro x hx; rw [← hl1, setL_nth hfit1 hx, hsp]
        have hfr1 : frS l1 = frS l - pw k := by
          have d1 := drop_tile (hv i1 hr1 hi1) hi1
          have d2 := drop_tile (hv _ hr2 hi2) hi2
          rw [hs1, d2, hs2, ← List.append_assoc] at d1
          rw [← hl1, frS_set d1 (by rw [List.length_append, cell1_len, cell1_len, hs1, hs2, hsp]; omega) (by omega), smB_app, smB_cell _ (by decide), smB_cell _ (by decide)]
          have c1 : cFree ⟨2, (k + 1 : Nat), 0⟩ = 0 := rfl
          have c2 : cFree (nth l i) = 0 := by rw [he]; rfl
          have c3 : cFree (nth l (oth i k)) = pw k := by rw [ej]; unfold cFree; rw [if_pos (by rfl), sz_mk]
          rcases h3 with ⟨e, e'⟩ | ⟨e, e'⟩
          · rw [← e', ← e, c1, c2, c3]; omega
          · rw [← e, ← e', c1, c2, c3]; omega
        have hfree1 : ∀ x o, freeB l1 x o = true → freeB l x o = true := by
          intro x o hx
          obtain ⟨q1, q2⟩ := free_is.1 hx
          rw [hlen1] at q1
          rw [hnth x q1] at q2
          by_cases e1 : x = i1
          · rw [if_pos e1] at q2; injection q2 with q3; exact absurd q3 (by decide)
          · rw [if_neg e1] at q2
            by_cases e2 : i1 < x ∧ x < i1 + pw (k + 1)
            · rw [if_pos e2] at q2; unfold inside at q2; injection q2 with q3; exact absurd q3 (by decide)
            · rw [if_neg e2] at q2; exact free_is.2 ⟨q1, q2⟩
        have hn1 : NP l1 := by
          intro x o ho hx
          cases hy : freeB l1 (oth x o) o
          · rfl
          · have := hn x o ho (hfree1 x o hx)
            rw [hfree1 _ _ hy] at this; cases this
        have hm : mergeL l i k = mergeL l1 i1 (k + 1) := by
          rw [merge_yes h10 hb, h1]
          exact (merge_congr hlen1 hv (9 - k) i1 (k + 1) (by omega) (by omega) h2 h4 (fun x hx hd => by
            rw [hnth x hx, if_neg (by omega), if_neg (by omega)])).symm
        have hi11 : i1 < l1.length := by rw [hlen1]; exact hi1
        have hat1 : nth l1 i1 = ⟨2, (k + 1 : Nat), 0⟩ := by rw [hnth i1 hi1, if_pos rfl]
        obtain ⟨p1, p2, p3, p4, p5⟩ := ih (by omega) hv1 hn1 hi11 hat1
        have hcov := merge_cov (l := l1) (9 - k) i1 (k + 1) (by omega) (by omega) hv1 h2 (by rw [hlen1]; exact h4)
        have hmal := merge_al (l := l1) (9 - k) i1 (k + 1) (by omega) (by omega) hv1 h2 (by rw [hlen1]; exact h4)
        have hK : freeK l i k = freeK l1 i1 (k + 1) := by
          unfold freeK
          rw [hm, ← hl1]
          rw [← hl1] at hcov hmal
          rw [hl1] at hcov hmal ⊢
          rw [← hl1, setL_setL hfit1 (by rw [sz_mk, hl1]; rw [hlen1] at hmal; exact hmal.2.2) (by rw [hl1]; exact hcov.1) (by rw [hsp, sz_mk, hl1]; exact hcov.2)]
        rw [hK]
        refine ⟨by rw [p1, hlen1], p2, p3, by rw [p4, hfr1]; omega, fun x hx => ?_⟩
        rw [p5 x (by rw [hlen1]; exact hx), hnth x hx]
        have hj0 : (nth l (oth i k)).a ≠ 2 := by rw [ej]; show (0 : Int) ≠ 2; decide
        by_cases e1 : x = i1
        · subst e1
          constructor
          · rintro ⟨h, _⟩; exact absurd rfl h
          · rintro ⟨h, h'⟩
            rcases h3 with ⟨e, _⟩ | ⟨_, e⟩
            · exact absurd e.symm h
            · rw [← e] at h'; exact absurd h' hj0
        · rw [if_neg e1]
          by_cases e2 : i1 < x ∧ x < i1 + pw (k + 1)
          · rw [if_pos e2]
            constructor
            · rintro ⟨_, h⟩; exact absurd h (by decide)
            · rintro ⟨h, h'⟩
              exfalso
              by_cases e3 : x = i1 + pw k
              · rcases h3 with ⟨_, e⟩ | ⟨e, _⟩
                · rw [e3, ← e] at h'; exact hj0 h'
                · exact h (by rw [e3, e])
              · have hins : nth l x = inside := by
                  by_cases e4 : x < i1 + pw k
                  · exact (hv i1 hr1 hi1).2.2.2 x e2.1 (by rw [hs1]; exact e4)
                  · exact (hv _ hr2 hi2).2.2.2 x (by omega) (by rw [hs2]; omega)
                rw [hins] at h'; exact absurd h' (by decide)
          · rw [if_neg e2]
            constructor
            · rintro ⟨_, h⟩
              exact ⟨fun e => by rcases h3 with ⟨e', _⟩ | ⟨e', _⟩ <;> omega, h⟩
            · rintro ⟨_, h⟩; exact ⟨e1, h⟩
    · exact base l i k c hv hn hi he (.inl (by omega))
where
  base (l : List T3) (i k : Nat) (c : Int) (hv : Va l) (hn : NP l) (hi : i < l.length) (he : nth l i = ⟨2, k, c⟩) (hb : 10 ≤ k ∨ freeB l (oth i k) k = false) : FreeP l (freeK l i k) i k := by
    have hr := hd_of_kind hv hi (by rw [he]; show (2 : Int) ≠ 1; decide)
    have hok := hv i hr hi
    have hsz : sz (nth l i) = pw k := by rw [he, sz_mk]
    have hm : mergeL l i k = ⟨i, k⟩ := by
      rcases hb with h | h
      · exact merge_top l h
      · by_cases h10 : k < 10
        · exact merge_no h10 h
        · exact merge_top l (by omega)
    have hk10 : k ≤ 10 := by
      have := headB_range hok.1
      rw [he] at this
      have h5 : ((k : Nat) : Int) ≤ 10 := this.2
      omega
    have hsp : sz ⟨0, (k : Nat), 0⟩ = pw k := sz_mk 0 0 k
    have hmay : May l i ⟨0, (k : Nat), 0⟩ := by
      refine ⟨headB_free hk10, by rw [hsp, ← hsz]; exact hok.2.1, by rw [hsp, ← hsz]; exact hok.2.2.1, fun h hh => ?_⟩
      rw [hh.uniq (Hd.start hr), hsz, hsp]; exact Nat.le_refl _
    have hfit := hmay.fit
    have hK : freeK l i k = setL l i ⟨0, (k : Nat), 0⟩ := by unfold freeK; rw [hm]
    have hins : ∀ x, i < x → x < i + pw k → nth l x = inside := fun x h1 h2 => hok.2.2.2 x h1 (by rw [hsz]; exact h2)
    have hnth : ∀ x, x < l.length → nth (setL l i ⟨0, (k : Nat), 0⟩) x = if x = i then ⟨0, (k : Nat), 0⟩ else nth l x := by
      intro x hx
      rw [setL_nth hfit hx, hsp]
      by_cases e1 : x = i
      · rw [if_pos e1, if_pos e1]
      · rw [if_neg e1, if_neg e1]
        by_cases e2 : i < x ∧ x < i + pw k
        · rw [if_pos e2, hins x e2.1 e2.2]
        · rw [if_neg e2]
    have hlen := setL_len hfit
    rw [hK]
    have hfree : ∀ x o, freeB (setL l i ⟨0, (k : Nat), 0⟩) x o = true → (x = i ∧ o = k) ∨ freeB l x o = true := by
      intro x o hx
      obtain ⟨q1, q2⟩ := free_is.1 hx
      rw [hlen] at q1
      rw [hnth x q1] at q2
      by_cases e1 : x = i
      · rw [if_pos e1] at q2
        injection q2 with _ q3
        exact .inl ⟨e1, by exact_mod_cast q3.symm⟩
      · rw [if_neg e1] at q2; exact .inr (free_is.2 ⟨q1, q2⟩)
    have hal : i % pw k = 0 := by rw [← hsz]; exact hok.2.1
    refine ⟨hlen, hmay.va hv, ?_, ?_, fun x hx => ?_⟩
    · intro x o ho hx
      cases hy : freeB (setL l i ⟨0, (k : Nat), 0⟩) (oth x o) o
      · rfl
      · exfalso
        rcases hfree x o hx with ⟨rfl, rfl⟩ | h1
        · rcases hfree _ _ hy with ⟨e, _⟩ | h2
          · exact oth_ne hal e
          · rcases hb with h | h
            · omega
            · rw [h] at h2; cases h2
        · rcases hfree _ _ hy with ⟨e, e'⟩ | h2
          · subst e'
            have : oth i o = x := by rw [← e, oth_oth]
            rcases hb with h | h
            · omega
            · rw [this, h1] at h; cases h
          · have := hn x o ho h1
            rw [h2] at this; cases this
    · have d1 := drop_tile hok hi
      rw [frS_set d1 (by rw [cell1_len, hsz, hsp]) (by omega), smB_cell _ (by decide), he]
      have c1 : cFree ⟨2, (k : Nat), c⟩ = 0 := rfl
      have c3 : cFree ⟨0, (k : Nat), 0⟩ = pw k := by unfold cFree; rw [if_pos (by rfl), sz_mk]
      rw [c1, c3]; omega
    · rw [hnth x hx]
      by_cases e1 : x = i
      · rw [if_pos e1]
        constructor
        · intro h; exact absurd h (by show ¬ (0 : Int) = 2; decide)
        · rintro ⟨h, _⟩; exact absurd e1 h
      · rw [if_neg e1]; exact ⟨fun h => ⟨e1, h⟩, fun h => h.2⟩
theorem freeT_is {l : List T3} {i k : Nat} {c : Int} (h : nth l i = ⟨2, k, c⟩) : freeT l i = freeK l i k := by unfold freeT freeK; rw [h]; rfl
end Go.Proofs.Ytjkknjohmekeiaa
