/- Plain: whole tables; a table of which nothing is out is whole. No condition. -/
import Derived.Test.YtjkknjohmekeiaaBuddyL
namespace Go.Proofs.Ytjkknjohmekeiaa

theorem okO_down {n i a b : Nat} (h : a ≤ b) (hb : okO n i b) : okO n i a :=
  ⟨al_down h hb.1, by have := Nat.le_of_dvd (pw_pos b) (pw_dvd h); have := hb.2; omega⟩
theorem gO_ge {n i o : Nat} (h : okO n i o) : ∀ m, o ≤ m → o ≤ gO n i m
  | 0, hm => by omega
  | m + 1, hm => by
    simp only [gO]
    split
    · exact hm
    · next hno =>
      rcases Nat.eq_or_lt_of_le hm with e | e
      · subst e; exact absurd h hno
      · exact gO_ge h m (by omega)
theorem gOrd_ge {n i o : Nat} (h : okO n i o) (ho : o ≤ 10) : o ≤ gOrd n i := gO_ge h 10 ho
/-- Greatest free blocks. -/
def Gr (n : Nat) : Nat → List T3 → Prop
  | _, [] => True
  | s, p :: r => p = ⟨0, gOrd n s, 0⟩ ∧ Gr n (s + sz p) r
theorem gr_app (n : Nat) : ∀ (A B : List T3) (s : Nat), Gr n s (A ++ B) ↔ Gr n s A ∧ Gr n (s + tot A) B
  | [], B, s => by simp [Gr, tot]
  | p :: r, B, s => by simp only [List.cons_append, Gr, tot, gr_app n r B, Nat.add_assoc, and_assoc]
theorem whole_tile : ∀ (f i : Nat) (l : List T3), l.length - i ≤ f → i ≤ l.length → (∃ D, l.take i = cellsB D ∧ Al 0 D ∧ Gr l.length 0 D) →
    (wholeW l i).length = l.length ∧ ∃ D, wholeW l i = cellsB D ∧ Al 0 D ∧ Gr l.length 0 D
  | 0, i, l, hf, hi, hD => by
    rw [wholeW_out (by omega)]
    rw [List.take_of_length_le (by omega)] at hD
    exact ⟨rfl, hD⟩
  | f + 1, i, l, hf, hi, hD => by
    by_cases h : i < l.length
    · obtain ⟨D, h1, h2, h3⟩ := hD
      have hg := gOrd_is h
      have hp := pw_pos (gOrd l.length i)
      have hs : sz ⟨0, (gOrd l.length i : Nat), 0⟩ = pw (gOrd l.length i) := sz_mk 0 0 _
      have hl := wl_len h
      have hD' : tot D = i := by rw [← cellsB_len, ← h1]; simp; omega
      rw [wholeW_step h]
      have := whole_tile f (i + pw (gOrd l.length i)) (setL l i ⟨0, gOrd l.length i, 0⟩) (by rw [hl]; omega) (by rw [hl]; exact hg.2) ⟨D ++ [⟨0, (gOrd l.length i : Nat), 0⟩], by
          rw [take_tile (X := l.take i) (C := cell1 ⟨0, (gOrd l.length i : Nat), 0⟩) (D := l.drop (i + sz ⟨0, (gOrd l.length i : Nat), 0⟩)) (by unfold setL cell1; rw [List.append_assoc]) (by simp; omega) (by rw [cell1_len, hs]), h1, cellsB_app]
          simp [cellsB], by
          rw [al_app]
          exact ⟨h2, headB_free (gOrd_le _ _), by rw [hD', hs, Nat.zero_add]; exact hg.1, trivial⟩, by
          rw [gr_app, hl]
          exact ⟨h3, by rw [hD', Nat.zero_add], trivial⟩⟩
      rw [hl] at this
      exact this
    · rw [wholeW_out (by omega)]
      rw [List.take_of_length_le (by omega)] at hD
      exact ⟨rfl, hD⟩
theorem full_tile (n : Nat) : (full n).length = n ∧ ∃ D, full n = cellsB D ∧ Al 0 D ∧ Gr n 0 D := by
  have := whole_tile n 0 (zeros n) (by rw [zeros_len]; omega) (by omega) ⟨[], by simp [cellsB], trivial, trivial⟩
  rw [zeros_len] at this
  exact this
theorem full_len (n : Nat) : (full n).length = n := (full_tile n).1
theorem full_va (n : Nat) : Va (full n) := by
  obtain ⟨_, D, h1, h2, _⟩ := full_tile n
  rw [h1]; exact tile_va h2
theorem full_at {n i : Nat} (hr : Rch (full n) i) (hi : i < n) : nth (full n) i = ⟨0, gOrd n i, 0⟩ := by
  obtain ⟨hl, D, h1, h2, h3⟩ := full_tile n
  rw [h1] at hr hl ⊢
  obtain ⟨A, B, rfl, rfl⟩ := rch_tile hr
  cases B with
  | nil => rw [cellsB_len, List.append_nil] at hl; omega
  | cons p r =>
    rw [gr_app] at h3
    obtain ⟨_, h4, _⟩ := h3
    have h0 := tile_at (A := A) (B := r) (p := p) (j := 0) (sz_pos p)
    rw [Nat.add_zero, if_pos rfl] at h0
    rw [h0, h4, Nat.zero_add]
theorem full_out {n x : Nat} (hx : x < n) : (nth (full n) x).a ≠ 2 := by
  rcases entry (full_va n) (j := x) (by rw [full_len]; exact hx) with h | ⟨_, h⟩
  · rw [h]; decide
  · rw [full_at h hx]; show (0 : Int) ≠ 2; decide
theorem full_np (n : Nat) : NP (full n) := by
  intro x o ho hx
  cases hy : freeB (full n) (oth x o) o
  · rfl
  · exfalso
    have hv := full_va n
    obtain ⟨rx, _, ax, fx⟩ := free_ok hv hx
    obtain ⟨ry, _, ay, fy⟩ := free_ok hv hy
    obtain ⟨lx, ex⟩ := free_is.1 hx
    obtain ⟨ly, ey⟩ := free_is.1 hy
    rw [full_len] at lx ly fx fy
    rw [full_at rx lx] at ex
    rw [full_at ry ly] at ey
    injection ex with _ e1
    injection ey with _ e2
    have e1 : gOrd n x = o := by exact_mod_cast e1
    have e2 : gOrd n (oth x o) = o := by exact_mod_cast e2
    have hs := pw_succ o
    by_cases hal : x % pw (o + 1) = 0
    · rw [oth_lo hal] at fy
      have := gOrd_ge (n := n) (i := x) (o := o + 1) ⟨hal, by omega⟩ (by omega)
      omega
    · obtain ⟨k1, k2, k3⟩ := oth_hi ax hal
      rw [k3] at e2 fy
      have := gOrd_ge (n := n) (i := x - pw o) (o := o + 1) ⟨k2, by omega⟩ (by omega)
      omega
theorem gr_sum (n : Nat) : ∀ (D : List T3) (s : Nat), Gr n s D → smB cFree D = tot D
  | [], _, _ => rfl
  | p :: r, s, h => by
    have hc : cFree p = sz p := by unfold cFree; rw [h.1]; rw [if_pos (by rfl)]
    simp only [smB, tot]
    rw [gr_sum n r _ h.2, hc]; omega
theorem full_fr (n : Nat) : frS (full n) = n := by
  obtain ⟨hl, D, h1, h2, h3⟩ := full_tile n
  unfold frS
  rw [h1] at hl ⊢
  rw [smB_tile _ (by decide), gr_sum n D 0 h3, ← cellsB_len, hl]

theorem whole_congr : ∀ (f i : Nat) (l l' : List T3), l.length - i ≤ f → l.length = l'.length → (∀ j, j < i → j < l.length → nth l j = nth l' j) → wholeW l i = wholeW l' i
  | 0, i, l, l', hf, hl, h => by
    rw [wholeW_out (by omega), wholeW_out (by omega)]
    exact ext_nth hl (fun j hj => h j (by omega) hj)
  | f + 1, i, l, l', hf, hl, h => by
    by_cases hi : i < l.length
    · have hp := pw_pos (gOrd l.length i)
      have hs : sz ⟨0, (gOrd l.length i : Nat), 0⟩ = pw (gOrd l.length i) := sz_mk 0 0 _
      have hw := wl_len hi
      have hg := gOrd_is hi
      have hi' : i < l'.length := by omega
      rw [wholeW_step hi, wholeW_step hi']
      have hw' := wl_len hi'
      rw [← hl] at hw' ⊢
      have hfit : i + sz ⟨0, (gOrd l.length i : Nat), 0⟩ ≤ l.length := by rw [hs]; exact hg.2
      exact whole_congr f _ _ _ (by rw [hw]; omega) (by rw [hw, hw']) (fun j h1 h2 => by
        rw [hw] at h2
        rw [setL_nth hfit h2, setL_nth (by omega) (by omega), hs]
        by_cases e1 : j = i
        · rw [if_pos e1, if_pos e1]
        · rw [if_neg e1, if_neg e1]
          by_cases e2 : i < j ∧ j < i + pw (gOrd l.length i)
          · rw [if_pos e2, if_pos e2]
          · rw [if_neg e2, if_neg e2]; exact h j (by omega) h2)
    · rw [wholeW_out (by omega), wholeW_out (by omega)]
      exact ext_nth hl (fun j hj => h j (by omega) hj)

theorem free_head {p : T3} (h : headB p = true) (h2 : p.a ≠ 2) : ∃ o : Nat, o ≤ 10 ∧ p = ⟨0, o, 0⟩ := by
  have h1 := headB_range h
  simp only [headB, Bool.and_eq_true, Bool.or_eq_true, decide_eq_true_eq] at h
  refine ⟨p.b.toNat, by omega, T3.ext3 ?_ ?_ ?_⟩
  · show p.a = 0; omega
  · show p.b = ((p.b.toNat : Nat) : Int); omega
  · show p.c = 0; omega
theorem big {l : List T3} (hv : Va l) (hn : NP l) (ho : ∀ x, x < l.length → (nth l x).a ≠ 2) : ∀ o, o ≤ 10 → ∀ a, a % pw o = 0 → a + pw o ≤ l.length → Rch l a → (o : Int) ≤ (nth l a).b
  | 0, _, a, ha, hf, hr => by
    have hi : a < l.length := by have := pw_pos 0; omega
    exact (headB_range (hv a hr hi).1).1
  | o + 1, h10, a, ha, hf, hr => by
    have hp := pw_pos o
    have hs := pw_succ o
    have hi : a < l.length := by omega
    have had := al_down (a := o) (b := o + 1) (by omega) ha
    have ih := big hv hn ho o (by omega) a had (by omega) hr
    obtain ⟨q, hq, he⟩ := free_head (hv a hr hi).1 (ho a hi)
    rw [he] at ih ⊢
    have ih : o ≤ q := by have : ((o : Nat) : Int) ≤ (q : Nat) := ih; omega
    show ((o + 1 : Nat) : Int) ≤ (q : Nat)
    rcases Nat.lt_or_ge o q with h1 | h1
    · omega
    · exfalso
      obtain rfl : q = o := by omega
      have hr2 := hr.step hi
      rw [he, sz_mk] at hr2
      have hi2 : a + pw q < l.length := by omega
      have hb2 : (a + pw q) % pw q = 0 := by rw [Nat.add_mod_right]; exact had
      have ih2 := big hv hn ho q (by omega) (a + pw q) hb2 (by omega) hr2
      obtain ⟨q2, hq2, he2⟩ := free_head (hv _ hr2 hi2).1 (ho _ hi2)
      rw [he2] at ih2
      have ih2 : q ≤ q2 := by have : ((q : Nat) : Int) ≤ (q2 : Nat) := ih2; omega
      have hal2 := (hv _ hr2 hi2).2.1
      rw [he2, sz_mk] at hal2
      have e : q2 = q := by
        rcases Nat.lt_or_ge q q2 with h2 | h2
        · exfalso
          have h3 := al_down (a := q + 1) (b := q2) (by omega) hal2
          have h4 := oth_lo ha
          have h5 := dvd_room (d := pw (q + 1)) (a := a) (b := a + pw q) (Nat.dvd_of_mod_eq_zero ha) (Nat.dvd_of_mod_eq_zero h3) (by omega)
          omega
        · omega
      subst e
      have f1 : freeB l a q2 = true := free_is.2 ⟨hi, he⟩
      have f2 : freeB l (oth a q2) q2 = true := by rw [oth_lo ha]; exact free_is.2 ⟨hi2, he2⟩
      have := hn a q2 (by omega) f1
      rw [f2] at this; cases this
theorem none_out {l : List T3} (hv : Va l) (hn : NP l) (ho : ∀ x, x < l.length → (nth l x).a ≠ 2) : l = full l.length := by
  have hat : ∀ i, Rch l i → i < l.length → nth l i = ⟨0, gOrd l.length i, 0⟩ := by
    intro i hr hi
    obtain ⟨q, hq, he⟩ := free_head (hv i hr hi).1 (ho i hi)
    have hg := gOrd_is hi
    have h1 := big hv hn ho _ (gOrd_le _ _) i hg.1 hg.2 hr
    have h2 := (hv i hr hi).2.1
    have h3 := (hv i hr hi).2.2.1
    rw [he] at h1 h2 h3
    rw [sz_mk] at h2 h3
    have h1 : gOrd l.length i ≤ q := by have : ((gOrd l.length i : Nat) : Int) ≤ (q : Nat) := h1; omega
    have h4 := gOrd_ge (n := l.length) (i := i) (o := q) ⟨h2, h3⟩ hq
    rw [he, show q = gOrd l.length i by omega]
  have hw : ∀ (f i : Nat), l.length - i ≤ f → Rch l i → wholeW l i = l := by
    intro f
    induction f with
    | zero => intro i hf hr; exact wholeW_out (by omega)
    | succ f ih =>
      intro i hf hr
      by_cases hi : i < l.length
      · have hp := pw_pos (gOrd l.length i)
        have he := hat i hr hi
        have hself := setL_self (hv i hr hi)
        have hst := hr.step hi
        rw [he] at hself hst
        rw [sz_mk] at hst
        rw [wholeW_step hi, hself]
        exact ih _ (by omega) hst
      · exact wholeW_out (by omega)
  have h0 := hw l.length 0 (by omega) .zero
  have h1 := whole_congr l.length 0 l (zeros l.length) (by omega) (by rw [zeros_len]) (fun j h => by omega)
  conv => lhs; rw [← h0, h1]
  rfl

/-- Tables as buddies keep them. -/
structure BI (l : List T3) : Prop where
  tab : tabOk l = true
  np : NP l
theorem BI.va {l : List T3} (h : BI l) : Va l := (tab_iff.1 h.tab).2.2
theorem BI.pos {l : List T3} (h : BI l) : 0 < l.length := (tab_iff.1 h.tab).1
theorem BI.le {l : List T3} (h : BI l) : l.length ≤ 1024 := (tab_iff.1 h.tab).2.1
theorem bi_full {n : Nat} (h1 : 1 ≤ n) (h2 : n ≤ 1024) : BI (full n) := ⟨tab_iff.2 ⟨by rw [full_len]; omega, by rw [full_len]; exact h2, full_va n⟩, full_np n⟩
theorem BI.left {l : List T3} (h : BI l) : freeF l = frS l := freeF_is h.tab
theorem BI.alloc {l : List T3} (h : BI l) {t c : Nat} (hc : c ≤ 8) {b : Bk} (hb : leastL l t = some b) : AllocP l (allocL l t c) b.i t b.o c ∧ BI (allocL l t c) := by
  obtain ⟨h1, h2, h3, h4, h5⟩ := least_some (11 - t) t (Nat.le_refl _) b hb
  have hp := allocP (c := c) h.va h5 h1 hc
  have e : allocL l t c = setL (splitL l b.i t (b.o - t)) b.i ⟨2, t, c⟩ := by unfold allocL; rw [hb]
  rw [← e] at hp
  refine ⟨hp, tab_iff.2 ⟨by rw [hp.len]; exact h.pos, by rw [hp.len]; exact h.le, hp.va⟩, ?_⟩
  intro x o ho hx
  cases hy : freeB (allocL l t c) (oth x o) o
  · rfl
  · exfalso
    have h2i : ∀ o, freeB (allocL l t c) b.i o = true → False := by
      intro o hf
      have := (free_is.1 hf).2
      rw [hp.at0] at this
      injection this with e1; exact absurd e1 (by decide)
    have hnew : ∀ o, o < b.o → oth (b.i + pw o) o = b.i := by
      intro o ho
      have hal := al_down (a := o + 1) (b := b.o) (by omega) h3
      rw [← oth_lo hal, oth_oth]
    rcases hp.free x o hx with f1 | ⟨e1, e2, _⟩
    · rcases hp.free _ o hy with f2 | ⟨e1, e2, _⟩
      · have := h.np x o ho f1
        rw [f2] at this; cases this
      · have : x = b.i := by rw [← oth_oth x o, e1, hnew o e2]
        rw [this] at hx; exact h2i o hx
    · rw [e1, hnew o e2] at hy; exact h2i o hy
theorem BI.none {l : List T3} {t : Nat} (c : Nat) (hb : leastL l t = none) : allocL l t c = l := by unfold allocL; rw [hb]
theorem out_is {l : List T3} (hv : Va l) {i : Nat} (hi : i < l.length) (h : (nth l i).a = 2) : ∃ (k : Nat) (c : Int), k ≤ 10 ∧ nth l i = ⟨2, k, c⟩ := by
  have hr := hd_of_kind hv hi (by rw [h]; decide)
  have hh := (hv i hr hi).1
  have h1 := headB_range hh
  refine ⟨(nth l i).b.toNat, (nth l i).c, by omega, T3.ext3 h ?_ rfl⟩
  show (nth l i).b = (((nth l i).b.toNat : Nat) : Int)
  omega
theorem BI.free {l : List T3} (h : BI l) {i k : Nat} {c : Int} (hi : i < l.length) (he : nth l i = ⟨2, k, c⟩) : FreeP l (freeT l i) i k ∧ BI (freeT l i) := by
  have hp := freeP (10 - k) (Nat.le_refl _) h.va h.np hi he
  rw [← freeT_is he] at hp
  exact ⟨hp, tab_iff.2 ⟨by rw [hp.len]; exact h.pos, by rw [hp.len]; exact h.le, hp.va⟩, hp.np⟩
end Go.Proofs.Ytjkknjohmekeiaa
