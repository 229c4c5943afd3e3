/- Texts of ours, one behind the other (BuddyM, BuddyS, BuddyT, BuddyU, BuddyV, BuddyW, BuddyX): each says in its own first lines what it proves. No condition. -/
import Derived.Test.YtjkknjohmekeiaaPackG
/- Plain: whole tables; a table of which nothing is out is whole. No condition. -/
namespace Go.Proofs.Ytjkknjohmekeiaa

theorem okO_down {n i a b : Nat} (h : a ≤ b) (hb : okO n i b) : okO n i a :=
  ⟨al_down h hb.1, by have := Nat.le_of_dvd (pw_pos b) (pw_dvd h); have := hb.2; omega⟩
theorem gO_ge {n i o : Nat} (h : okO n i o) : ∀ m, o ≤ m → o ≤ gO n i m
  | 0, hm => by omega
  | m + 1, hm => by
    simp only [gO]
    split
    · exact hm
    · next hno =>
      rcases Nat.eq_or_lt_of_le hm with e | e
      · subst e; exact absurd h hno
      · exact gO_ge h m (by omega)
theorem gOrd_ge {n i o : Nat} (h : okO n i o) (ho : o ≤ 10) : o ≤ gOrd n i := gO_ge h 10 ho
/-- Greatest free blocks. -/
def Gr (n : Nat) : Nat → List T3 → Prop
  | _, [] => True
  | s, p :: r => p = ⟨0, gOrd n s, 0⟩ ∧ Gr n (s + sz p) r
theorem gr_app (n : Nat) : ∀ (A B : List T3) (s : Nat), Gr n s (A ++ B) ↔ Gr n s A ∧ Gr n (s + tot A) B
  | [], B, s => by simp [Gr, tot]
  | p :: r, B, s => by simp only [List.cons_append, Gr, tot, gr_app n r B, Nat.add_assoc, and_assoc]
theorem whole_tile : ∀ (f i : Nat) (l : List T3), l.length - i ≤ f → i ≤ l.length → (∃ D, l.take i = cellsB D ∧ Al 0 D ∧ Gr l.length 0 D) →
    (wholeW l i).length = l.length ∧ ∃ D, wholeW l i = cellsB D ∧ Al 0 D ∧ Gr l.length 0 D
  | 0, i, l, hf, hi, hD => by
    rw [wholeW_out (by omega)]
    rw [List.take_of_length_le (by omega)] at hD
    exact ⟨rfl, hD⟩
  | f + 1, i, l, hf, hi, hD => by
    by_cases h : i < l.length
    · obtain ⟨D, h1, h2, h3⟩ := hD
      have hg := gOrd_is h
      have hp := pw_pos (gOrd l.length i)
      have hs : sz ⟨0, (gOrd l.length i : Nat), 0⟩ = pw (gOrd l.length i) := sz_mk 0 0 _
      have hl := wl_len h
      have hD' : tot D = i := by rw [← cellsB_len, ← h1]; simp; omega
      rw [wholeW_step h]
      have := whole_tile f (i + pw (gOrd l.length i)) (setL l i ⟨0, gOrd l.length i, 0⟩) (by rw [hl]; omega) (by rw [hl]; exact hg.2) ⟨D ++ [⟨0, (gOrd l.length i : Nat), 0⟩], by
          rw [take_tile (X := l.take i) (C := cell1 ⟨0, (gOrd l.length i : Nat), 0⟩) (D := l.drop (i + sz ⟨0, (gOrd l.length i : Nat), 0⟩)) (by unfold setL cell1; rw [List.append_assoc]) (by simp; omega) (by rw [cell1_len, hs]), h1, cellsB_app]
          simp [cellsB], by
          rw [al_app]
          exact ⟨h2, headB_free (gOrd_le _ _), by rw [hD', hs, Nat.zero_add]; exact hg.1, trivial⟩, by
          rw [gr_app, hl]
          exact ⟨h3, by rw [hD', Nat.zero_add], trivial⟩⟩
      rw [hl] at this
      exact this
    · rw [wholeW_out (by omega)]
      rw [List.take_of_length_le (by omega)] at hD
      exact ⟨rfl, hD⟩
theorem full_tile (n : Nat) : (full n).length = n ∧ ∃ D, full n = cellsB D ∧ Al 0 D ∧ Gr n 0 D := by
  have := whole_tile n 0 (zeros n) (by rw [zeros_len]; omega) (by omega) ⟨[], by simp [cellsB], trivial, trivial⟩
  rw [zeros_len] at this
  exact this
theorem full_len (n : Nat) : (full n).length = n := (full_tile n).1
theorem full_va (n : Nat) : Va (full n) := by
  obtain ⟨_, D, h1, h2, _⟩ := full_tile n
  rw [h1]; exact tile_va h2
theorem full_at {n i : Nat} (hr : Rch (full n) i) (hi : i < n) : nth (full n) i = ⟨0, gOrd n i, 0⟩ := by
  obtain ⟨hl, D, h1, h2, h3⟩ := full_tile n
  rw [h1] at hr hl ⊢
  obtain ⟨A, B, rfl, rfl⟩ := rch_tile hr
  cases B with
  | nil => rw [cellsB_len, List.append_nil] at hl; omega
  | cons p r =>
    rw [gr_app] at h3
    obtain ⟨_, h4, _⟩ := h3
    have h0 := tile_at (A := A) (B := r) (p := p) (j := 0) (sz_pos p)
    rw [Nat.add_zero, if_pos rfl] at h0
    rw [h0, h4, Nat.zero_add]
theorem full_out {n x : Nat} (hx : x < n) : (nth (full n) x).a ≠ 2 := by
  rcases entry (full_va n) (j := x) (by rw [full_len]; exact hx) with h | ⟨_, h⟩
  · rw [h]; decide
  · rw [full_at h hx]; show (0 : Int) ≠ 2; decide
theorem full_np (n : Nat) : NP (full n) := by
  intro x o ho hx
  cases hy : freeB (full n) (oth x o) o
  · rfl
  · exfalso
    have hv := full_va n
    obtain ⟨rx, _, ax, fx⟩ := free_ok hv hx
    obtain ⟨ry, _, ay, fy⟩ := free_ok hv hy
    obtain ⟨lx, ex⟩ := free_is.1 hx
    obtain ⟨ly, ey⟩ := free_is.1 hy
    rw [full_len] at lx ly fx fy
    rw [full_at rx lx] at ex
    rw [full_at ry ly] at ey
    injection ex with _ e1
    injection ey with _ e2
    have e1 : gOrd n x = o := by exact_mod_cast e1
    have e2 : gOrd n (oth x o) = o := by exact_mod_cast e2
    have hs := pw_succ o
    by_cases hal : x % pw (o + 1) = 0
    · rw [oth_lo hal] at fy
      have := gOrd_ge (n := n) (i := x) (o := o + 1) ⟨hal, by omega⟩ (by omega)
      omega
    · obtain ⟨k1, k2, k3⟩ := oth_hi ax hal
      rw [k3] at e2 fy
      have := gOrd_ge (n := n) (i := x - pw o) (o := o + 1) ⟨k2, by omega⟩ (by omega)
      omega
theorem gr_sum (n : Nat) : ∀ (D : List T3) (s : Nat), Gr n s D → smB cFree D = tot D
  | [], _, _ => rfl
  | p :: r, s, h => by
    have hc : cFree p = sz p := by unfold cFree; rw [h.1]; rw [if_pos (by rfl)]
    simp only [smB, tot]
    rw [gr_sum n r _ h.2, hc]; omega
theorem full_fr (n : Nat) : frS (full n) = n := by
  obtain ⟨hl, D, h1, h2, h3⟩ := full_tile n
  unfold frS
  rw [h1] at hl ⊢
  rw [smB_tile _ (by decide), gr_sum n D 0 h3, ← cellsB_len, hl]

theorem whole_congr : ∀ (f i : Nat) (l l' : List T3), l.length - i ≤ f → l.length = l'.length → (∀ j, j < i → j < l.length → nth l j = nth l' j) → wholeW l i = wholeW l' i
  | 0, i, l, l', hf, hl, h => by
    rw [wholeW_out (by omega), wholeW_out (by omega)]
    exact ext_nth hl (fun j hj => h j (by omega) hj)
  | f + 1, i, l, l', hf, hl, h => by
    by_cases hi : i < l.length
    · have hp := pw_pos (gOrd l.length i)
      have hs : sz ⟨0, (gOrd l.length i : Nat), 0⟩ = pw (gOrd l.length i) := sz_mk 0 0 _
      have hw := wl_len hi
      have hg := gOrd_is hi
      have hi' : i < l'.length := by omega
      rw [wholeW_step hi, wholeW_step hi']
      have hw' := wl_len hi'
      rw [← hl] at hw' ⊢
      have hfit : i + sz ⟨0, (gOrd l.length i : Nat), 0⟩ ≤ l.length := by rw [hs]; exact hg.2
      exact whole_congr f _ _ _ (by rw [hw]; omega) (by rw [hw, hw']) (fun j h1 h2 => by
        rw [hw] at h2
        rw [setL_nth hfit h2, setL_nth (by omega) (by omega), hs]
        by_cases e1 : j = i
        · rw [if_pos e1, if_pos e1]
        · rw [if_neg e1, if_neg e1]
          by_cases e2 : i < j ∧ j < i + pw (gOrd l.length i)
          · rw [if_pos e2, if_pos e2]
          · rw [if_neg e2, if_neg e2]; exact h j (by omega) h2)
    · rw [wholeW_out (by omega), wholeW_out (by omega)]
      exact ext_nth hl (fun j hj => h j (by omega) hj)

theorem free_head {p : T3} (h : headB p = true) (h2 : p.a ≠ 2) : ∃ o : Nat, o ≤ 10 ∧ p = ⟨0, o, 0⟩ := by
  have h1 := headB_range h
  simp only [headB, Bool.and_eq_true, Bool.or_eq_true, decide_eq_true_eq] at h
  refine ⟨p.b.toNat, by omega, T3.ext3 ?_ ?_ ?_⟩
  · show p.a = 0; omega
  · show p.b = ((p.b.toNat : Nat) : Int); omega
  · show p.c = 0; omega
theorem big {l : List T3} (hv : Va l) (hn : NP l) (ho : ∀ x, x < l.length → (nth l x).a ≠ 2) : ∀ o, o ≤ 10 → ∀ a, a % pw o = 0 → a + pw o ≤ l.length → Rch l a → (o : Int) ≤ (nth l a).b
  | 0, _, a, ha, hf, hr => by
    have hi : a < l.length := by have := pw_pos 0; omega
    exact (headB_range (hv a hr hi).1).1
  | o + 1, h10, a, ha, hf, hr => by
    have hp := pw_pos o
    have hs := pw_succ o
    have hi : a < l.length := by omega
    have had := al_down (a := o) (b := o + 1) (by omega) ha
    have ih := big hv hn ho o (by omega) a had (by omega) hr
    obtain ⟨q, hq, he⟩ := free_head (hv a hr hi).1 (ho a hi)
    rw [he] at ih ⊢
    have ih : o ≤ q := by have : ((o : Nat) : Int) ≤ (q : Nat) := ih; omega
    show ((o + 1 : Nat) : Int) ≤ (q : Nat)
    rcases Nat.lt_or_ge o q with h1 | h1
    · omega
    · exfalso
      obtain rfl : q = o := by omega
      have hr2 := hr.step hi
      rw [he, sz_mk] at hr2
      have hi2 : a + pw q < l.length := by omega
      have hb2 : (a + pw q) % pw q = 0 := by rw [Nat.add_mod_right]; exact had
      have ih2 := big hv hn ho q (by omega) (a + pw q) hb2 (by omega) hr2
      obtain ⟨q2, hq2, he2⟩ := free_head (hv _ hr2 hi2).1 (ho _ hi2)
      rw [he2] at ih2
      have ih2 : q ≤ q2 := by have : ((q : Nat) : Int) ≤ (q2 : Nat) := ih2; omega
      have hal2 := (hv _ hr2 hi2).2.1
      rw [he2, sz_mk] at hal2
      have e : q2 = q := by
        rcases Nat.lt_or_ge q q2 with h2 | h2
        · exfalso
          have h3 := al_down (a := q + 1) (b := q2) (by omega) hal2
          have h4 := oth_lo ha
          have h5 := dvd_room (d := pw (q + 1)) (a := a) (b := a + pw q) (Nat.dvd_of_mod_eq_zero ha) (Nat.dvd_of_mod_eq_zero h3) (by omega)
          omega
        · omega
      subst e
      have f1 : freeB l a q2 = true := free_is.2 ⟨hi, he⟩
      have f2 : freeB l (oth a q2) q2 = true := by rw [oth_lo ha]; exact free_is.2 ⟨hi2, he2⟩
      have := hn a q2 (by omega) f1
      rw [f2] at this; cases this
theorem none_out {l : List T3} (hv : Va l) (hn : NP l) (ho : ∀ x, x < l.length → (nth l x).a ≠ 2) : l = full l.length := by
  have hat : ∀ i, Rch l i → i < l.length → nth l i = ⟨0, gOrd l.length i, 0⟩ := by
    intro i hr hi
    obtain ⟨q, hq, he⟩ := free_head (hv i hr hi).1 (ho i hi)
    have hg := gOrd_is hi
    have h1 := big hv hn ho _ (gOrd_le _ _) i hg.1 hg.2 hr
    have h2 := (hv i hr hi).2.1
    have h3 := (hv i hr hi).2.2.1
    rw [he] at h1 h2 h3
    rw [sz_mk] at h2 h3
    have h1 : gOrd l.length i ≤ q := by have : ((gOrd l.length i : Nat) : Int) ≤ (q : Nat) := h1; omega
    have h4 := gOrd_ge (n := l.length) (i := i) (o := q) ⟨h2, h3⟩ hq
    rw [he, show q = gOrd l.length i by omega]
  have hw : ∀ (f i : Nat), l.length - i ≤ f → Rch l i → wholeW l i = l := by
    intro f
    induction f with
    | zero => intro i hf hr; exact wholeW_out (by omega)
    | succ f ih =>
      intro i hf hr
      by_cases hi : i < l.length
      · have hp := pw_pos (gOrd l.length i)
        have he := hat i hr hi
        have hself := setL_self (hv i hr hi)
        have hst := hr.step hi
        rw [he] at hself hst
        rw [sz_mk] at hst
        rw [wholeW_step hi, hself]
        exact ih _ (by omega) hst
      · exact wholeW_out (by omega)
  have h0 := hw l.length 0 (by omega) .zero
  have h1 := whole_congr l.length 0 l (zeros l.length) (by omega) (by rw [zeros_len]) (fun j h => by omega)
  conv => lhs; rw [← h0, h1]
  rfl

/-- Tables as buddies keep them. -/
structure BI (l : List T3) : Prop where
  tab : tabOk l = true
  np : NP l
theorem BI.va {l : List T3} (h : BI l) : Va l := (tab_iff.1 h.tab).2.2
theorem BI.pos {l : List T3} (h : BI l) : 0 < l.length := (tab_iff.1 h.tab).1
theorem BI.le {l : List T3} (h : BI l) : l.length ≤ 1024 := (tab_iff.1 h.tab).2.1
theorem bi_full {n : Nat} (h1 : 1 ≤ n) (h2 : n ≤ 1024) : BI (full n) := ⟨tab_iff.2 ⟨by rw [full_len]; omega, by rw [full_len]; exact h2, full_va n⟩, full_np n⟩
theorem BI.left {l : List T3} (h : BI l) : freeF l = frS l := freeF_is h.tab
theorem BI.alloc {l : List T3} (h : BI l) {t c : Nat} (hc : c ≤ 8) {b : Bk} (hb : leastL l t = some b) : AllocP l (allocL l t c) b.i t b.o c ∧ BI (allocL l t c) := by
  obtain ⟨h1, h2, h3, h4, h5⟩ := least_some (11 - t) t (Nat.le_refl _) b hb
  have hp := allocP (c := c) h.va h5 h1 hc
  have e : allocL l t c = setL (splitL l b.i t (b.o - t)) b.i ⟨2, t, c⟩ := by unfold allocL; rw [hb]
  rw [← e] at hp
  refine ⟨hp, tab_iff.2 ⟨by rw [hp.len]; exact h.pos, by rw [hp.len]; exact h.le, hp.va⟩, ?_⟩
  intro x o ho hx
  cases hy : freeB (allocL l t c) (oth x o) o
  · rfl
  · exfalso
    have h2i : ∀ o, freeB (allocL l t c) b.i o = true → False := by
      intro o hf
      have := (free_is.1 hf).2
      rw [hp.at0] at this
      injection this with e1; exact absurd e1 (by decide)
    have hnew : ∀ o, o < b.o → oth (b.i + pw o) o = b.i := by
      intro o ho
      have hal := al_down (a := o + 1) (b := b.o) (by omega) h3
      rw [← oth_lo hal, oth_oth]
    rcases hp.free x o hx with f1 | ⟨e1, e2, _⟩
    · rcases hp.free _ o hy with f2 | ⟨e1, e2, _⟩
      · have := h.np x o ho f1
        rw [f2] at this; cases this
      · have : x = b.i := by rw [← oth_oth x o, e1, hnew o e2]
        rw [this] at hx; exact h2i o hx
    · rw [e1, hnew o e2] at hy; exact h2i o hy
theorem BI.none {l : List T3} {t : Nat} (c : Nat) (hb : leastL l t = none) : allocL l t c = l := by unfold allocL; rw [hb]
theorem out_is {l : List T3} (hv : Va l) {i : Nat} (hi : i < l.length) (h : (nth l i).a = 2) : ∃ (k : Nat) (c : Int), k ≤ 10 ∧ nth l i = ⟨2, k, c⟩ := by
  have hr := hd_of_kind hv hi (by rw [h]; decide)
  have hh := (hv i hr hi).1
  have h1 := headB_range hh
  refine ⟨(nth l i).b.toNat, (nth l i).c, by omega, T3.ext3 h ?_ rfl⟩
  show (nth l i).b = (((nth l i).b.toNat : Nat) : Int)
  omega
theorem BI.free {l : List T3} (h : BI l) {i k : Nat} {c : Int} (hi : i < l.length) (he : nth l i = ⟨2, k, c⟩) : FreeP l (freeT l i) i k ∧ BI (freeT l i) := by
  have hp := freeP (10 - k) (Nat.le_refl _) h.va h.np hi he
  rw [← freeT_is he] at hp
  exact ⟨hp, tab_iff.2 ⟨by rw [hp.len]; exact h.pos, by rw [hp.len]; exact h.le, hp.va⟩, hp.np⟩
end Go.Proofs.Ytjkknjohmekeiaa
/- The document's buddies in memory: set, free. The block lies in the pages; its order lies between 0 and 10. -/
namespace Go.Proofs.Ytjkknjohmekeiaa
open Go.RowKit

set_option maxRecDepth 100000 in
set_option maxHeartbeats 3200000 in
theorem set121_spec (w : World) (bb base : Nat) (v : Value) (l : List T3) (h : BR w bb base v l 122) (i o : Nat) (ho : o ≤ 10) (hf : i + pw o ≤ l.length) (pa pc : Int) :
    Calls Try.prog 121 #[.pointer (some ⟨bb, 0, none⟩), .int .i64 i, .agg #[.int .i64 pa, .int .i64 o, .int .i64 pc]] w fun e w' =>
      (∃ u, e = .returned u) ∧ BR w' bb base v (setL l i ⟨pa, o, pc⟩) 122 ∧ Ext (OwnOf v) w w' := by
  obtain ⟨a, cap, rfl, hlc, hcap⟩ := h.val
  have hn := h.n
  have hbl := h.b.lt
  have hpw := pw_pos o
  have hpl := pw_le ho
  have hil : i < l.length := by omega
  have hsh := shl_pw ho
  have hwr := wrap_pw ho
  obtain ⟨z, hz⟩ : ∃ z, pw o = z := ⟨_, rfl⟩
  rw [hz] at hf hpw hpl hsh hwr
  have hz' := Lib.hid hz
  have hwr' := Lib.hid hwr
  clear hwr
  go_enter Try.func121, Try.ntmps121
  go_upto_region 1 with (fail)
  obtain ⟨A, hA⟩ : ∃ A, w.heap.size = A := ⟨_, rfl⟩
  obtain ⟨W, hW⟩ : ∃ W, w.alloc (.cells #[.int .i64 pa, .int .i64 o, .int .i64 pc] 98) = W := ⟨_, rfl⟩
  have hX : Ext No w W := by rw [← hW]; exact (Ext.refl _ _).alloc _
  have hB1 : Blk W A [.int .i64 pa, .int .i64 o, .int .i64 pc] 98 := by rw [← hW]; exact Blk.new' hA.symm
  rw [hW, hA]
  clear hW
  have hA1 : ¬ OwnOf (.slice a l.length cap) A := fun ho => by have := (h.p.lt A ho).2; omega
  have h1 := h.extNo hX
  have hne := h.ne
  clear h hz
  obtain ⟨b, cp, e9, _, _, hob, hbw, hbb, ⟨y0, y1, y2⟩, hfr, hset⟩ := own3_at2 h1.p rfl (k := i) hil
  cases e9
  have bn : b ≠ A := fun e => hA1 (e ▸ hob)
  have bn3 : b ≠ bb := fun e => hne (e ▸ hob)
  have v0 := h1.b.cell' (i := 0) rfl
  have r0 := hB1.cell' (i := 0) rfl
  have r1 := hB1.cell' (i := 1) rfl
  have r2 := hB1.cell' (i := 2) rfl
  have f0 := hfr (i * 3)
  have f1 := hfr (i * 3 + 1)
  have f2 := hfr (i * 3 + 2)
  have hset' := Lib.hid (hset ⟨pa, o, pc⟩)
  clear hset hfr
  refine anyZ_begin 7 (fun w' => w'.cell? ⟨bb, 0, none⟩ = some (.slice (some ⟨b, 0, none⟩) l.length cap) ∧ w'.cell? ⟨A, 0, none⟩ = some (.int .i64 pa) ∧ w'.cell? ⟨A, 1, none⟩ = some (.int .i64 o) ∧ w'.cell? ⟨A, 2, none⟩ = some (.int .i64 pc)) (by kernel_rfl) ?_
  have hC : (fun w' : World => w'.cell? ⟨bb, 0, none⟩ = some (.slice (some ⟨b, 0, none⟩) l.length cap) ∧ w'.cell? ⟨A, 0, none⟩ = some (.int .i64 pa) ∧ w'.cell? ⟨A, 1, none⟩ = some (.int .i64 o) ∧ w'.cell? ⟨A, 2, none⟩ = some (.int .i64 pc)) W.drew := ⟨v0, r0, r1, r2⟩
  have hi0 : (i : Int) < l.length := by omega
  refine anyZ_take 0 (v := ?_) rfl (by kernel_rfl) (by kernel_rfl) (by kernel_rfl) (by kernel_rfl) (fun _ _ _ h => h) hC (Or.inl ⟨by rfl, ?_⟩) ?_
  rotate_left
  · (intro wq hq; (try dsimp only at hq); go_simp; with_reducible rfl)
  simp only [Act.put, List.setIfInBounds_toArray, List.set_cons_zero, List.set_cons_succ]
  refine anyZ_take 1 (v := ?_) rfl (by kernel_rfl) (by kernel_rfl) (by kernel_rfl) (by kernel_rfl) (fun _ _ _ h => h) hC (Or.inl ⟨by rfl, ?_⟩) ?_
  rotate_left
  · (intro wq hq; (try dsimp only at hq); go_simp; with_reducible rfl)
  simp only [Act.put, List.setIfInBounds_toArray, List.set_cons_zero, List.set_cons_succ]
  refine anyZ_take 2 (v := ?_) rfl (by kernel_rfl) (by kernel_rfl) (by kernel_rfl) (by kernel_rfl) (fun _ _ _ h => h) hC (Or.inl ⟨by rfl, ?_⟩) ?_
  rotate_left
  · (intro wq hq; (try dsimp only at hq); go_simp; with_reducible rfl)
  simp only [Act.put, List.setIfInBounds_toArray, List.set_cons_zero, List.set_cons_succ]
  refine anyZ_take 3 (v := ?_) rfl (by kernel_rfl) (by kernel_rfl) (by kernel_rfl) (by kernel_rfl) (fun _ _ _ h => h) hC (Or.inl ⟨by rfl, ?_⟩) ?_
  rotate_left
  · (intro wq hq; (try dsimp only at hq); go_simp; with_reducible rfl)
  simp only [Act.put, List.setIfInBounds_toArray, List.set_cons_zero, List.set_cons_succ]
  refine anyZ_take 4 (v := ?_) rfl (by kernel_rfl) (by kernel_rfl) (by kernel_rfl) (by kernel_rfl) (fun _ _ _ h => h) hC (Or.inl ⟨by rfl, ?_⟩) ?_
  rotate_left
  · (intro wq hq; (try dsimp only at hq); go_simp; with_reducible rfl)
  simp only [Act.put, List.setIfInBounds_toArray, List.set_cons_zero, List.set_cons_succ]
  refine anyZ_take 5 (v := ?_) rfl (by kernel_rfl) (by kernel_rfl) (by kernel_rfl) (by kernel_rfl) (fun _ _ _ h => h) hC (Or.inl ⟨by rfl, ?_⟩) ?_
  rotate_left
  · (intro wq hq; (try dsimp only at hq); go_simp; with_reducible rfl)
  simp only [Act.put, List.setIfInBounds_toArray, List.set_cons_zero, List.set_cons_succ]
  refine anyZ_take 6 (v := ?_) rfl (by kernel_rfl) (by kernel_rfl) (by kernel_rfl) (by kernel_rfl) (fun _ _ _ h => h) hC (Or.inl ⟨by rfl, ?_⟩) ?_
  rotate_left
  · (intro wq hq; (try dsimp only at hq); go_simp; with_reducible rfl)
  simp only [Act.put, List.setIfInBounds_toArray, List.set_cons_zero, List.set_cons_succ]
  clear hC
  refine anyZ_last rfl (by kernel_rfl) (fun K hK => ?_)
  go_simp
  refine hK _ _ ?_
  clear hK K
  try simp only [Act.put, List.setIfInBounds_toArray, List.set_cons_zero, List.set_cons_succ]
  refine anyZ_done (by kernel_rfl) ?_ _
  obtain ⟨p', hp'⟩ : ∃ p' : T3, (⟨pa, o, pc⟩ : T3) = p' := ⟨_, rfl⟩
  have hsz : Hid (sz p' = z) := by show _ = _; rw [← hp', sz_mk, hz'.out]
  have hpp := Lib.hid hp'
  have hst : Ext (One b) W (((W.setCell ⟨b, i * 3, none⟩ (.int .i64 pa)).setCell ⟨b, i * 3 + 1, none⟩ (.int .i64 o)).setCell ⟨b, i * 3 + 2, none⟩ (.int .i64 pc)) := Ext.set3 _ _ _ _ _ _ _ _
  have hO : (((W.setCell ⟨b, i * 3, none⟩ (.int .i64 pa)).setCell ⟨b, i * 3 + 1, none⟩ (.int .i64 o)).setCell ⟨b, i * 3 + 2, none⟩ (.int .i64 pc)).drew.ownsRow base 98 3 (.slice (some ⟨b, 0, none⟩) l.length cap) l.length (t3sCells (setK l i p' 0)) := by
    have h2 := hset'.out
    rw [← setK_zero hil, ← hp']
    exact ownsRow_ext h2 ((Ext.refl No _).drew) (fun _ _ => id)
  obtain ⟨V, hV⟩ : ∃ V, (((W.setCell ⟨b, i * 3, none⟩ (.int .i64 pa)).setCell ⟨b, i * 3 + 1, none⟩ (.int .i64 o)).setCell ⟨b, i * 3 + 2, none⟩ (.int .i64 pc)).drew = V := ⟨_, rfl⟩
  have hxV : Ext (One b) W V := by rw [← hV]; exact hst.drew
  rw [hV] at hO ⊢
  clear hV hset' hst hp' y0 y1 y2 f0 f1 f2 v0 r0 r1 r2
  have hAV := hB1.extOne hxV (Ne.symm bn)
  have hbV := h1.b.extOne hxV (Ne.symm bn3)
  clear h1 hB1
  go_wp2_with fail
  go_loopg [6] (z - 1) (fun g u wr => ∃ k : Nat, k + g = z - 1 ∧ u = .int .i64 (k + 1 : Nat) ∧ wr.ownsRow base 98 3 (.slice (some ⟨b, 0, none⟩) l.length cap) l.length (t3sCells (setK l i p' k)) ∧ Ext (One b) W wr ∧ Blk wr A [.int .i64 pa, .int .i64 o, .int .i64 pc] 98 ∧ Blk wr bb [.slice (some ⟨b, 0, none⟩) l.length cap] 122)
  case atStart => exact ⟨0, by omega, rfl, hO, hxV, hAV, hbV⟩
  case round =>
    clear hO hxV hAV hbV
    obtain ⟨k, hk, rfl, hO, hx, hAV, hbV⟩ := hrel
    have hk' := Lib.hid hk
    have hkn : k ≤ z - 1 := by omega
    clear hk
    have q1 := hAV.cell' (i := 1) rfl
    by_cases hlt : k < z - 1
    · obtain ⟨b', oc', e9, _, _, _, _, _, ⟨y0, y1, y2⟩, f0, hset⟩ := own3_at2 hO (setK_len (by omega)) (k := i + 1 + k) (by omega)
      cases e9
      have v0 := hbV.cell' (i := 0) rfl
      have f1 := f0 ((i + 1 + k) * 3)
      have f2 := f0 ((i + 1 + k) * 3 + 1)
      have f3 := f0 ((i + 1 + k) * 3 + 2)
      have hset1 := hset inside
      rw [setK_succ (by omega)] at hset1
      have hset1' := Lib.hid hset1
      have hst : Ext (One b) wr (((wr.setCell ⟨b, (i + 1 + k) * 3, none⟩ (.int .i64 1)).setCell ⟨b, (i + 1 + k) * 3 + 1, none⟩ (.int .i64 0)).setCell ⟨b, (i + 1 + k) * 3 + 2, none⟩ (.int .i64 0)) := Ext.set3 _ _ _ _ _ _ _ _
      have hst' := Lib.hid hst
      obtain ⟨j, hj⟩ : ∃ j, i + 1 + k = j := ⟨_, rfl⟩
      have hw2 : IntKind.i64.wrap ((i : Int) + (k + 1 : Nat)) = (j : Int) := by rw [IntKind.wrap_i64]; omega
      have hb1 : (j : Int) < l.length := by omega
      have hd : decide (((k + 1 : Nat) : Int) < z) = true := decide_eq_true (by omega)
      have hd' : decide (k + 1 < z) = true := decide_eq_true (by omega)
      rw [hj] at y0 y1 y2 f1 f2 f3 hset1' hst'
      obtain ⟨k1, hk1⟩ : ∃ k1, k + 1 = k1 := ⟨_, rfl⟩
      rw [hk1] at hw2 hd hd' hset1' ⊢
      have hwr := hwr'.out
      clear f0 hset hset1 hst
      go_wp2_with fail
      clear hw2 hwr
      clear y0 y1 y2 f1 f2 f3 v0 q1
      have hAs := hAV.extOne hst'.out (Ne.symm bn)
      have hbs := hbV.extOne hst'.out (Ne.symm bn3)
      have hxs := hx.transSame hst'.out
      have hOs := hset1'.out
      go_roundg (z - 1 - (k + 1))
      case measure => have := hk'.out; omega
      case rel => exact ⟨k1, by omega, by go_num, hOs, hxs, hAs, hbs⟩
    · have hk2 : Hid (k = sz p' - 1) := by show _ = _; rw [hsz.out]; omega
      have hd : decide (((k + 1 : Nat) : Int) < z) = false := decide_eq_false (by omega)
      have hd' : decide (k + 1 < z) = false := decide_eq_false (by omega)
      have hE : Ext (OwnOf (.slice (some ⟨b, 0, none⟩) l.length cap)) w wr := (hX.of_no).trans hx (fun x _ (e : x = b) => by rw [e]; exact hob)
      have hln : (setL l i p').length = l.length := setL_len (by rw [hsz.out]; omega)
      obtain ⟨k1, hk1⟩ : ∃ k1, k + 1 = k1 := ⟨_, rfl⟩
      rw [hk1] at hd hd' ⊢
      have hwr := hwr'.out
      go_wp2_with fail
      refine bodyPost_end (results_none rfl _ _ _) rfl ⟨⟨_, rfl⟩, ?_, hE⟩
      rw [hpp.out]
      rw [hk2.out, setK_all] at hO
      exact ⟨hbV, by rw [hln]; exact hO, hne, by rw [hln]; exact hn⟩

/-- Is a free block of an order there? (Any page, any order.) -/
def freeBI (l : List T3) (i o : Int) : Bool := decide (0 ≤ i) && (decide (i < l.length) && decide (nth l i.toNat = ⟨0, o, 0⟩))
theorem freeBI_nat (l : List T3) (i o : Nat) : freeBI l i o = freeB l i o := by
  unfold freeBI freeB
  rw [decide_eq_true (Int.natCast_nonneg i), Bool.true_and, Int.toNat_natCast]
  congr 1
  apply decide_eq_decide.2; omega
set_option maxRecDepth 100000 in
set_option maxHeartbeats 1600000 in
theorem free120_spec (w : World) (bb base : Nat) (v : Value) (l : List T3) (h : BR w bb base v l 122) (i o : Int) :
    Calls Try.prog 120 #[.pointer (some ⟨bb, 0, none⟩), .int .i64 i, .int .i64 o] w fun e w' => e = .returned (.bool (freeBI l i o)) ∧ Ext No w w' := by
  obtain ⟨a, cap, rfl, hlc, hcap⟩ := h.val
  have h0 := h.b.cell' (i := 0) rfl
  by_cases hi0 : i < 0
  · have hr : Hid (freeBI l i o = false) := by show _ = _; unfold freeBI; rw [decide_eq_false (by omega)]; rfl
    have hd : decide (0 ≤ i) = false := decide_eq_false (by omega)
    go_enter Try.func120, Try.ntmps120
    go_wp2_with fail
    go_ret
    exact ⟨by rw [hr.out]; rfl, Ext.refl _ _⟩
  · obtain ⟨k, rfl⟩ : ∃ k : Nat, i = k := ⟨i.toNat, by omega⟩
    by_cases hi2 : k < l.length
    · obtain ⟨b, off, rfl, hbl, _, x0, x1, x2⟩ := h.rd.at hi2
      have hd : decide ((k : Int) < l.length) = true := decide_eq_true (by omega)
      have hd0 : decide ((0 : Int) ≤ k) = true := decide_eq_true (by omega)
      by_cases he : nth l k = ⟨0, o, 0⟩
      · have hr : Hid (freeBI l k o = true) := by show _ = _; unfold freeBI; rw [hd, hd0, Int.toNat_natCast, decide_eq_true he]; rfl
        have e1 : ((nth l k).a == 0) = true := by rw [he]; rfl
        have e2 : ((nth l k).b == o) = true := by rw [he]; simp
        have e3 : ((nth l k).c == 0) = true := by rw [he]; rfl
        clear he
        go_enter Try.func120, Try.ntmps120
        go_wp2_with fail
        go_ret
        exact ⟨by rw [hr.out]; rfl, Ext.refl _ _⟩
      · have hr : Hid (freeBI l k o = false) := by show _ = _; unfold freeBI; rw [Int.toNat_natCast, decide_eq_false he, Bool.and_false, Bool.and_false]
        rcases T3.ne_cases he with e1 | ⟨e1, e2⟩ | ⟨e1, e2, e3⟩
        all_goals
          clear he
          go_enter Try.func120, Try.ntmps120
          go_wp2_with fail
          go_ret
          exact ⟨by rw [hr.out]; rfl, Ext.refl _ _⟩
    · have hr : Hid (freeBI l k o = false) := by show _ = _; unfold freeBI; rw [decide_eq_false (show ¬ (k : Int) < l.length by omega)]; simp
      have hd : decide ((k : Int) < l.length) = false := decide_eq_false (by omega)
      have hd0 : decide ((0 : Int) ≤ k) = true := decide_eq_true (by omega)
      go_enter Try.func120, Try.ntmps120
      go_wp2_with fail
      go_ret
      exact ⟨by rw [hr.out]; rfl, Ext.refl _ _⟩
end Go.Proofs.Ytjkknjohmekeiaa
/- The document's pages in memory: Same; Check, begin, Free of tables that may be. -/
namespace Go.Proofs.Ytjkknjohmekeiaa
open Go.RowKit

set_option maxRecDepth 100000 in
set_option maxHeartbeats 2000000 in
theorem same122_spec (w : World) (a b : Value) (xs ys : List T3) (F G : Nat → Prop) (ha : RdT F w a xs) (hb : RdT G w b ys) :
    Calls Try.prog 122 #[a, b] w fun e w' => e = .returned (.bool (decide (xs = ys))) ∧ Ext No w w' := by
  obtain ⟨aa, ca, rfl, hla, hca⟩ := ha.val
  obtain ⟨ab, cb, rfl, _, _⟩ := hb.val
  by_cases hl : xs.length = ys.length
  · have hl' := Lib.hid hl
    have hne : (((xs.length : Nat) : Int) != (ys.length : Nat)) = false := by rw [hl]; simp
    have heq : ((xs.length : Nat) : Int) = (ys.length : Nat) := by rw [hl]
    rw [← hl] at hb ⊢
    clear hne heq
    go_enter Try.func122, Try.ntmps122
    go_wp2_with fail
    go_loopg [5] xs.length (fun g i wr => ∃ k : Nat, k + g = xs.length ∧ i = .int .i64 k ∧ (∀ j, j < k → nth xs j = nth ys j) ∧ ∃ n, wr = w.drewN n)
    case atStart => exact ⟨0, by omega, rfl, by omega, 0, rfl⟩
    case round =>
      obtain ⟨k, hk, rfl, hall, m, rfl⟩ := hrel
      have hk' := Lib.hid hk; have hall' := Lib.hid hall
      have hkn : k ≤ xs.length := by omega
      clear hk hall
      by_cases hlt : k < xs.length
      · obtain ⟨b1, o1, rfl, _, _, x0, x1, x2⟩ := ha.at hlt
        obtain ⟨b2, o2, rfl, _, _, y0, y1, y2⟩ := hb.at (k := k) (by omega)
        by_cases he : nth xs k = nth ys k
        · have e1 : ((nth xs k).a == (nth ys k).a) = true := by rw [he]; simp
          have e2 : ((nth xs k).b == (nth ys k).b) = true := by rw [he]; simp
          have e3 : ((nth xs k).c == (nth ys k).c) = true := by rw [he]; simp
          have he' := Lib.hid he; clear he
          go_wp2
          go_quiet (fail)
          go_wp2
          go_roundg (xs.length - (k + 1))
          case measure => have := hk'.out; omega
          case rel =>
            refine ⟨k + 1, by omega, by go_num, fun j hj => ?_, _, rfl⟩
            by_cases hjk : j < k
            · exact hall'.out j hjk
            · obtain rfl : j = k := by omega
              exact he'.out
        · have hr : Hid (decide (xs = ys) = false) := decide_eq_false (fun e => he (by rw [e]))
          rcases T3.ne_cases he with e1 | ⟨e1, e2⟩ | ⟨e1, e2, e3⟩
          all_goals
            clear he
            go_wp2
            go_quiet (fail)
            go_wp2
            go_ret
            exact ⟨by rw [hr.out]; rfl, ((Ext.refl No w).drewN _).drewN _⟩
      · have hr : Hid (decide (xs = ys) = true) := by
          apply decide_eq_true
          apply List.ext_getElem hl'.out
          intro j h1 h2
          have := hall'.out j (by omega)
          rw [nth_eq h1, nth_eq h2] at this; exact this
        go_wp2_with fail
        go_ret
        exact ⟨by rw [hr.out]; rfl, (Ext.refl No w).drewN _⟩
  · have hr : Hid (decide (xs = ys) = false) := decide_eq_false (fun e => hl (by rw [e]))
    have hne : (((xs.length : Nat) : Int) == (ys.length : Nat)) = false := by rw [beq_eq_false_iff_ne]; omega
    go_enter Try.func122, Try.ntmps122
    go_wp2_with fail
    go_ret
    exact ⟨by rw [hr.out]; rfl, Ext.refl _ _⟩


set_option maxRecDepth 100000 in
set_option maxHeartbeats 2000000 in
theorem head151_spec (w : World) (p : T3) (h : headB p = true) :
    Calls Try.prog 151 #[.agg #[.int .i64 p.a, .int .i64 p.b, .int .i64 p.c]] w fun e w' => e = .returned (.bool true) ∧ Ext No w w' := by
  have hb := headB_range h
  have hk := head_kind h
  have hc : p.a = 0 ∧ p.c = 0 ∨ p.a = 2 ∧ 0 ≤ p.c ∧ p.c ≤ 8 := by
    simp only [headB, Bool.and_eq_true, Bool.or_eq_true, decide_eq_true_eq] at h; omega
  obtain ⟨a, b, c⟩ := p
  dsimp only at *
  have hx : Ext No w (w.alloc (.cells #[.int .i64 a, .int .i64 b, .int .i64 c] 98)) := (Ext.refl _ _).alloc _
  have d1 : decide (0 ≤ b) = true := decide_eq_true hb.1
  have d2 : decide (b ≤ 10) = true := decide_eq_true hb.2
  rcases hc with ⟨rfl, rfl⟩ | ⟨rfl, h1, h2⟩
  · clear hk h
    go_enter Try.func151, Try.ntmps151
    go_wp2_with fail
    go_ret
    exact ⟨rfl, hx⟩
  · have d3 : decide (0 ≤ c) = true := decide_eq_true h1
    have d4 : decide (c ≤ 8) = true := decide_eq_true h2
    clear hk h
    go_enter Try.func151, Try.ntmps151
    go_wp2_with fail
    go_ret
    exact ⟨rfl, hx⟩

set_option maxRecDepth 100000 in
set_option maxHeartbeats 2000000 in
theorem begin150_spec (w : World) (v : Value) (l : List T3) (G : Nat → Prop) (hv : RdT G w v l) (hva : Va l) (i : Nat) (hi : i < l.length) (h : Nat) (hh : Hd l i h) :
    Calls Try.prog 150 #[v, .int .i64 i] w fun e w' => e = .returned (.int .i64 h) ∧ w = w' := by
  obtain ⟨a, cap, rfl, hlc, hcap⟩ := hv.val
  go_enter Try.func150, Try.ntmps150
  go_wp2_with fail
  go_loopg [1] i (fun g s wr => ∃ k : Nat, k ≤ g ∧ s = .int .i64 k ∧ Hd l k h ∧ k < l.length ∧ wr = w)
  case atStart => exact ⟨i, Nat.le_refl _, rfl, hh, hi, rfl⟩
  case round =>
    clear hh hi
    obtain ⟨k, hk, rfl, hh, hkl, rfl⟩ := hrel
    have hok := hva h hh.r (hh.hlt hkl)
    obtain ⟨b, off, rfl, _, _, x0, x1, x2⟩ := hv.at hkl
    have hk' := Lib.hid hk
    clear hk
    by_cases h0 : 0 < k
    · have hd : decide ((0 : Int) < k) = true := decide_eq_true (by omega)
      have hd' : decide (0 < k) = true := decide_eq_true h0
      by_cases he : k = h
      · have hr : Hid (k = h) := he
        have hne : ((nth l k).a == 1) = false := by
          rw [beq_eq_false_iff_ne, he]
          have := head_kind hok.1; omega
        clear he hok
        go_wp2_with fail
        go_ret
        exact ⟨by rw [hr.out]; rfl, rfl⟩
      · have hin : nth l k = inside := hok.2.2.2 k (by have := hh.le; omega) hh.lt
        have heq : ((nth l k).a == 1) = true := by rw [hin]; rfl
        have hh2 : Hd l (k - 1) h := ⟨hh.r, by have := hh.le; omega, by have := hh.lt; omega⟩
        clear hin hok
        go_wp2_with fail
        go_roundg (k - 1)
        case measure => have := hk'.out; omega
        case rel => exact ⟨k - 1, by omega, by go_num, hh2, by omega, rfl⟩
    · obtain rfl : k = 0 := by omega
      have hr : Hid (h = 0) := by have := hh.le; show _ = _; omega
      clear hok
      go_wp2_with fail
      go_ret
      exact ⟨by rw [hr.out]; rfl, rfl⟩
end Go.Proofs.Ytjkknjohmekeiaa
/- The document's pages in memory: Check, Free of tables that may be. -/
namespace Go.Proofs.Ytjkknjohmekeiaa
open Go.RowKit

set_option maxRecDepth 100000 in
set_option maxHeartbeats 6400000 in
theorem check149_spec (w : World) (v : Value) (l : List T3) (G : Nat → Prop) (hv : RdT G w v l) (ht : tabOk l = true) :
    Calls Try.prog 149 #[v] w fun e w' => e = .returned (.int .i64 0) ∧ Ext No w w' := by
  obtain ⟨h0, h1, hva⟩ := tab_iff.1 ht
  obtain ⟨a, cap, rfl, hlc, hcap⟩ := hv.val
  have d1 : decide ((l.length : Int) < 1) = false := decide_eq_false (by omega)
  have d2 : decide ((1024 : Int) < l.length) = false := decide_eq_false (by omega)
  go_enter Try.func149, Try.ntmps149
  go_wp2_with fail
  go_loopg [3] l.length (fun g s wr => ∃ i : Nat, l.length - i ≤ g ∧ s = .int .i64 i ∧ Rch l i ∧ i ≤ l.length ∧ Ext No w wr)
  case atStart => exact ⟨0, by omega, rfl, .zero, by omega, Ext.refl _ _⟩
  case round =>
    obtain ⟨i, hg, rfl, hr, hil, hx⟩ := hrel
    have hg' := Lib.hid hg
    clear hg
    obtain ⟨wz, hwz⟩ : ∃ wz, wr = wz := ⟨_, rfl⟩
    rw [hwz] at hx ⊢
    clear hwz
    by_cases hlt : i < l.length
    · have hd : decide ((i : Int) < l.length) = true := decide_eq_true (by omega)
      obtain ⟨g1, g2, g3, g4⟩ := hva i hr hlt
      have hb := headB_range g1
      obtain ⟨o, ho⟩ : ∃ o : Nat, (nth l i).b = o := ⟨(nth l i).b.toNat, by omega⟩
      have hsz : sz (nth l i) = pw o := by unfold sz pw; rw [ho]; rfl
      have ho10 : o ≤ 10 := by omega
      have hst := hr.step hlt
      rw [hsz] at g2 g3 g4 hst
      have hsh := shl_pw ho10
      have hwr := wrap_pw ho10
      have hp1 := pw_pos o
      have hp2 := pw_le ho10
      have hins : Hid (∀ j, i < j → j < i + pw o → nth l j = inside) := g4
      obtain ⟨z, hz⟩ : ∃ z, pw o = z := ⟨_, rfl⟩
      rw [hz] at hsh hwr hp1 hp2 g2 g3 hst
      have hz' := Lib.hid hz
      have hwrV : Value.int .i64 (wrap64 (2 ^ o)) = Value.int .i64 (z : Int) := by rw [hwr]
      clear hwr
      obtain ⟨b, off, rfl, hbl, _, x0, x1, x2⟩ := (hv.extNo hx).at hlt
      rw [ho] at x1
      have hz0 : ((z : Int) == 0) = false := by rw [beq_eq_false_iff_ne]; omega
      have hmd : (i : Int).tmod z = 0 := by rw [Int.tmod_eq_emod_of_nonneg (by omega)]; omega
      have hd3 : decide ((l.length : Int) < (i : Int) + z) = false := decide_eq_false (by omega)
      have hd3' : decide (l.length < i + z) = false := decide_eq_false (by omega)
      have hP : (.agg #[.int .i64 (nth l i).a, .int .i64 o, .int .i64 (nth l i).c] : Value) = .agg #[.int .i64 (nth l i).a, .int .i64 (nth l i).b, .int .i64 (nth l i).c] := by rw [ho]
      have hhd := fun W => head151_spec W (nth l i) g1
      rw [ho] at hhd
      obtain ⟨X, hX⟩ : ∃ X, wz.heap.size = X := ⟨_, rfl⟩
      have hxa : Ext No wz (wz.alloc (.cells #[.int .i64 (nth l i).a, .int .i64 o, .int .i64 (nth l i).c] 98)) := (Ext.refl _ _).alloc _
      have hXb : Blk (wz.alloc (.cells #[.int .i64 (nth l i).a, .int .i64 o, .int .i64 (nth l i).c] 98)) X [.int .i64 (nth l i).a, .int .i64 o, .int .i64 (nth l i).c] 98 := Blk.new' hX.symm
      obtain ⟨W, hW⟩ : ∃ W, wz.alloc (.cells #[.int .i64 (nth l i).a, .int .i64 o, .int .i64 (nth l i).c] 98) = W := ⟨_, rfl⟩
      rw [hW] at hxa hXb
      have q0 := hXb.cell' (i := 0) rfl
      have q1 := hXb.cell' (i := 1) rfl
      have q2 := hXb.cell' (i := 2) rfl
      clear g1 g4 hsz hb hz ho hP
      go_wp2_with fail
      refine (hhd W).mono ?_
      rintro e w2 ⟨rfl, hx2⟩
      have hX2 := hXb.extNo hx2
      have hx2' := (hx.transNo hxa).transNo hx2
      have y0 := hX2.cell' (i := 0) rfl
      have y1 := hX2.cell' (i := 1) rfl
      have y2 := hX2.cell' (i := 2) rfl
      clear x0 x1 x2 q0 q1 q2 hxa hXb hW hhd hx2 hx
      go_wp2_with fail
      try simp only [hwrV]
      clear y0 y1 y2
      go_loopg [5] z (fun g s wr => ∃ j : Nat, (i + z) - j ≤ g ∧ s = .int .i64 j ∧ i < j ∧ j ≤ i + z ∧ Blk wr X [.int .i64 (nth l i).a, .int .i64 o, .int .i64 (nth l i).c] 98 ∧ Ext No w wr)
      case atStart => exact ⟨i + 1, by omega, rfl, by omega, by omega, hX2, hx2'⟩
      case round =>
        clear hX2 hx2'
        obtain ⟨j, hjg, rfl, hj1, hj2, hX2, hx2⟩ := hrel
        have hjg' := Lib.hid hjg
        clear hjg
        obtain ⟨wy, hwy⟩ : ∃ wy, wr = wy := ⟨_, rfl⟩
        rw [hwy] at hX2 hx2 ⊢
        clear hwy
        have y1 := hX2.cell' (i := 1) rfl
        by_cases hjz : j < i + z
        · have hd5 : decide ((j : Int) < (i : Int) + z) = true := decide_eq_true (by omega)
          have hd5' : decide (j < i + z) = true := decide_eq_true hjz
          have hjl : j < l.length := by omega
          obtain ⟨bb, oo, e, _, _, x0, x1, x2⟩ := (hv.extNo hx2).at hjl
          cases e
          have hin := hins.out j hj1 (by have := hz'.out; omega)
          rw [hin] at x0 x1 x2
          go_wp2_with fail
          go_roundg (i + z - (j + 1))
          case measure => have := hjg'.out; omega
          case rel => exact ⟨j + 1, by omega, by go_num, by omega, by omega, hX2, hx2⟩
        · have hd5 : decide ((j : Int) < (i : Int) + z) = false := decide_eq_false (by omega)
          have hd5' : decide (j < i + z) = false := decide_eq_false hjz
          go_wp2_with fail
          go_roundg (l.length - (i + z))
          case measure => have := hg'.out; omega
          case rel => exact ⟨i + z, by omega, by go_num, hst, g3, hx2⟩
    · have hd : decide ((i : Int) < l.length) = false := decide_eq_false (by omega)
      go_wp2_with fail
      go_ret
      exact ⟨rfl, hx⟩
end Go.Proofs.Ytjkknjohmekeiaa
/- The document's pages in memory: Free of tables that may be. -/
namespace Go.Proofs.Ytjkknjohmekeiaa
open Go.RowKit

/-- How many of the first pages lie in a free block. -/
def cntF (l : List T3) : Nat → Int
  | 0 => 0
  | i + 1 => cntF l i + if (nth l (headF l i).toNat).a = 0 then 1 else 0
theorem cntF_bd (l : List T3) : ∀ i, 0 ≤ cntF l i ∧ cntF l i ≤ i
  | 0 => by simp [cntF]
  | i + 1 => by have := cntF_bd l i; simp only [cntF]; split <;> omega
theorem cntF_in {l : List T3} (hv : Va l) {h : Nat} (hr : Rch l h) (hl : h < l.length) : ∀ m, m ≤ sz (nth l h) → cntF l (h + m) = cntF l h + (if (nth l h).a = 0 then (m : Int) else 0)
  | 0, _ => by simp
  | m + 1, hm => by
    have hok := (hv h hr hl).2.2.1
    have e := headF_eq hv (page := h + m) (h := h) (by omega) ⟨hr, by omega, by omega⟩
    show cntF l (h + m) + (if (nth l (headF l ((h + m : Nat) : Int)).toNat).a = 0 then 1 else 0) = _
    rw [cntF_in hv hr hl m (by omega), e, Int.toNat_natCast]
    split <;> omega
theorem cntF_rch {l : List T3} (hv : Va l) {i : Nat} (hr : Rch l i) : cntF l i = sumTo cFree l i := by
  induction hr with
  | zero => rfl
  | @step i hr hi ih =>
    have ho := hv i hr hi
    rw [cntF_in hv hr hi _ (Nat.le_refl _), ih, sumTo_block (by decide) ho]
    unfold cFree
    by_cases h : (nth l i).a = 0
    · rw [if_pos h, if_pos (by rw [h]; rfl)]
    · rw [if_neg h, if_neg (by rw [beq_iff_eq]; exact h)]
theorem cntF_all {l : List T3} (hv : Va l) : cntF l l.length = frS l := by
  rw [cntF_rch hv (rch_end hv), sumTo_take _ _ _ (Nat.le_refl _), List.take_length]; rfl

set_option maxRecDepth 100000 in
set_option maxHeartbeats 3200000 in
theorem free142_spec (w : World) (v : Value) (l : List T3) (G : Nat → Prop) (hv : RdT G w v l) (ht : tabOk l = true) :
    Calls Try.prog 142 #[v] w fun e w' => e = .returned (.int .i64 (frS l)) ∧ Ext No w w' := by
  obtain ⟨h0, h1, hva⟩ := tab_iff.1 ht
  obtain ⟨a, cap, rfl, hlc, hcap⟩ := hv.val
  go_enter Try.func142, Try.ntmps142
  go_wp2_with fail
  refine (check149_spec w _ l G hv ht).mono ?_
  rintro e w1 ⟨rfl, hx1⟩
  go_wp2_with fail
  go_loopg [3, 4] l.length (fun g c i wr => ∃ k : Nat, k + g = l.length ∧ i = .int .i64 k ∧ c = .int .i64 (cntF l k) ∧ Ext No w wr)
  case atStart => exact ⟨0, by omega, rfl, rfl, hx1⟩
  case round =>
    clear hx1
    obtain ⟨k, hk, rfl, rfl, hx⟩ := hrel
    have hk' := Lib.hid hk
    have hkn : k ≤ l.length := by omega
    clear hk
    obtain ⟨wz, hwz⟩ : ∃ wz, wr = wz := ⟨_, rfl⟩
    rw [hwz] at hx ⊢
    clear hwz
    by_cases hlt : k < l.length
    · have hd : decide ((k : Int) < l.length) = true := decide_eq_true (by omega)
      obtain ⟨h, hh⟩ := hd_ex hva hlt
      have hhl := hh.hlt hlt
      have hhF := headF_eq hva hlt hh
      have hR := hv.extNo hx
      have hb := cntF_bd l k
      obtain ⟨b, off, rfl, _, _, x0, _, _⟩ := hR.at hhl
      have hcn : Hid (cntF l (k + 1) = cntF l k + if (nth l h).a = 0 then 1 else 0) := by show _ = _; simp only [cntF]; rw [hhF, Int.toNat_natCast]
      obtain ⟨c, hc⟩ : ∃ c, cntF l k = c := ⟨_, rfl⟩
      rw [hc] at hb hcn ⊢
      clear hc hhF
      have hbeg := begin150_spec wz _ l G hR hva k hlt h hh
      by_cases ha : (nth l h).a = 0
      · have e1 : ((nth l h).a == 0) = true := by rw [ha]; rfl
        have hc1 : Hid (cntF l (k + 1) = c + 1) := by show _ = _; rw [hcn.out, if_pos ha]
        clear ha
        go_wp2_with fail
        refine hbeg.mono ?_
        rintro e w2 ⟨rfl, rfl⟩
        go_wp2_with fail
        go_roundg (l.length - (k + 1))
        case measure => have := hk'.out; omega
        case rel => exact ⟨k + 1, by omega, by go_num, by (rw [hc1.out]; try go_num), hx⟩
      · have e1 : ((nth l h).a == 0) = false := by rw [beq_eq_false_iff_ne]; exact ha
        have hc1 : Hid (cntF l (k + 1) = c) := by show _ = _; rw [hcn.out, if_neg ha]; omega
        clear ha
        go_wp2_with fail
        refine hbeg.mono ?_
        rintro e w2 ⟨rfl, rfl⟩
        go_wp2_with fail
        go_roundg (l.length - (k + 1))
        case measure => have := hk'.out; omega
        case rel => exact ⟨k + 1, by omega, by go_num, congrArg _ hc1.out.symm, hx⟩
    · have hd : decide ((k : Int) < l.length) = false := decide_eq_false (by omega)
      have hc1 : Hid (cntF l k = frS l) := by show _ = _; rw [show k = l.length by omega]; exact cntF_all hva
      go_wp2_with fail
      go_ret
      exact ⟨by rw [← hc1.out]; rfl, hx⟩
theorem left123_spec (w : World) (bb base : Nat) (v : Value) (l : List T3) (h : BR w bb base v l 122) (ht : tabOk l = true) :
    Calls Try.prog 123 #[.pointer (some ⟨bb, 0, none⟩)] w fun e w' => e = .returned (.int .i64 (frS l)) ∧ Ext No w w' := by
  have c0 := h.b.cell' (i := 0) rfl
  go_enter Try.func123, Try.ntmps123
  go_wp2_with fail
  refine (free142_spec w v l _ h.rd ht).mono ?_
  rintro e w1 ⟨rfl, hx⟩
  go_wp2_with fail
  go_ret
  exact ⟨rfl, hx⟩
end Go.Proofs.Ytjkknjohmekeiaa
/- The document's new pages. Between 1 and 1024 of them. -/
namespace Go.Proofs.Ytjkknjohmekeiaa
open Go.RowKit

theorem gr_uniq (n : Nat) : ∀ (D D' : List T3) (s : Nat), Gr n s D → Gr n s D' → s + tot D = n → s + tot D' = n → D = D'
  | [], [], _, _, _, _, _ => rfl
  | [], p :: r, s, _, _, h3, h4 => by have := sz_pos p; simp only [tot] at h3 h4; omega
  | p :: r, [], s, _, _, h3, h4 => by have := sz_pos p; simp only [tot] at h3 h4; omega
  | p :: r, q :: t, s, h1, h2, h3, h4 => by
    obtain ⟨e1, g1⟩ := h1
    obtain ⟨e2, g2⟩ := h2
    have e : p = q := by rw [e1, e2]
    subst e
    simp only [tot] at h3 h4
    rw [gr_uniq n r t _ g1 g2 (by omega) (by omega)]
theorem full_of {n : Nat} {D : List T3} (h : Gr n 0 D) (ht : tot D = n) : cellsB D = full n := by
  obtain ⟨hl, D', h1, _, h3⟩ := full_tile n
  rw [h1, gr_uniq n D D' 0 h h3 (by omega) (by rw [← cellsB_len, ← h1]; omega)]
theorem gOrd_of {n i o : Nat} (h : okO n i o) (h10 : o ≤ 10) (hn : o = 10 ∨ ¬ okO n i (o + 1)) (hi : i < n) : o = gOrd n i := by
  have h1 := gOrd_ge h h10
  rcases hn with e | e
  · have := gOrd_le n i; omega
  · rcases Nat.lt_or_ge o (gOrd n i) with h2 | h2
    · exact absurd (okO_down (by omega) (gOrd_is hi)) e
    · omega
theorem t3s_app (l m : List T3) : t3sCells (l ++ m) = t3sCells l ++ t3sCells m := by simp [t3sCells]
theorem wrap_pw2 {o : Nat} (h : o < 10) : Value.int .i64 (wrap64 (2 * 2 ^ o)) = Value.int .i64 (pw (o + 1) : Nat) := by
  have e : (2 * 2 ^ o : Int) = ((pw (o + 1) : Nat) : Int) := by rw [pw_succ]; unfold pw; push_cast; rfl
  have z := pw_le (o := o + 1) (by omega)
  rw [e]; congr 1; unfold wrap64; omega

set_option maxRecDepth 100000 in
set_option maxHeartbeats 6400000 in
theorem fresh119_spec (w : World) (n : Nat) (hn : n ≤ 1024) :
    Calls Try.prog 119 #[.int .i64 n] w fun e w' => ∃ r, e = .returned r ∧ w'.ownsRow w.heap.size 98 3 r n (t3sCells (full n)) ∧ Ext No w w' := by
  go_enter Try.func119, Try.ntmps119
  go_wp2_with fail
  go_loopg [3] n (fun g v wr => ∃ (D : List T3) (i : Nat), n - i ≤ g ∧ i ≤ n ∧ tot D = i ∧ Gr n 0 D ∧ wr.ownsRow w.heap.size 98 3 v i (t3sCells (cellsB D)) ∧ Ext No w wr)
  case atStart => exact ⟨[], 0, by omega, by omega, rfl, trivial, World.ownsRow_nil _ _ _ _, Ext.refl _ _⟩
  case round =>
    obtain ⟨D, i, hg, hin, hD, hG, ho, hx⟩ := hrel
    obtain ⟨wz, hwz⟩ : ∃ wz, wr = wz := ⟨_, rfl⟩
    rw [hwz] at ho hx ⊢
    clear hwz
    have hg' := Lib.hid hg
    clear hg
    obtain ⟨av, cv, rfl, hcv⟩ := ownsRow_val ho
    by_cases hlt : i < n
    · have hd : decide ((i : Int) < n) = true := decide_eq_true (by omega)
      go_wp2_with fail
      go_loopg [5] 10 (fun g s wr => ∃ o : Nat, 10 - o ≤ g ∧ o ≤ 10 ∧ s = .int .i64 o ∧ okO n i o ∧ wr = wz)
      case atStart => exact ⟨0, by omega, by omega, rfl, ⟨by unfold pw; exact Nat.mod_one _, by unfold pw; omega⟩, rfl⟩
      case round =>
        obtain ⟨o, hog, ho10, rfl, hok, rfl⟩ := hrel
        have hog' := Lib.hid hog
        clear hog
        have hR := ho
        by_cases hA : o < 10 ∧ okO n i (o + 1)
        · obtain ⟨h10, hok2⟩ := hA
          have hok2' := Lib.hid hok2
          have hd1 : decide ((o : Int) < 10) = true := decide_eq_true (by omega)
          have hw2 := wrap_pw2 h10
          have hq1 := pw_pos (o + 1)
          have hq2 := pw_le (o := o + 1) (by omega)
          obtain ⟨hq3, hq4⟩ := hok2
          obtain ⟨q, hq⟩ : ∃ q, pw (o + 1) = q := ⟨_, rfl⟩
          rw [hq] at hw2 hq1 hq2 hq3 hq4
          have e0 : ¬ q = 0 := by omega
          have e1 : ((i : Int) % q == 0) = true := by rw [beq_iff_eq]; omega
          have e2 : (i : Int) % q = 0 := by omega
          have e3 : decide ((i : Int) + q ≤ n) = true := decide_eq_true (by omega)
          have e3' : decide (i + q ≤ n) = true := decide_eq_true hq4
          clear hq hok hR
          go_wp2_with fail
          go_roundg (10 - (o + 1))
          case measure => have := hog'.out; omega
          case rel => exact ⟨o + 1, by omega, by omega, by go_num, hok2'.out, rfl⟩
        · have hgo : Hid (o = gOrd n i) := gOrd_of hok ho10 (by by_cases h : o < 10; exact .inr (fun h2 => hA ⟨h, h2⟩); exact .inl (by omega)) hlt
          have hfit := hok.2
          have hcase : (decide ((o : Int) < 10) = false) ∨ (decide ((o : Int) < 10) = true ∧ Value.int .i64 (wrap64 (2 * 2 ^ o)) = Value.int .i64 (pw (o + 1) : Nat) ∧ ((i % pw (o + 1) = 0) ∧ ¬ (i + pw (o + 1) ≤ n) ∨ ¬ (i % pw (o + 1) = 0))) := by
            by_cases h : o < 10
            · refine .inr ⟨decide_eq_true (by omega), wrap_pw2 h, ?_⟩
              by_cases h2 : i % pw (o + 1) = 0
              · exact .inl ⟨h2, fun h3 => hA ⟨h, h2, h3⟩⟩
              · exact .inr h2
            · exact .inl (decide_eq_false (by omega))
          have hz1 := pw_pos o
          have hz2 := pw_le ho10
          have hsh := shl_pw ho10
          have hwr := wrap_pw ho10
          have hwrV : Value.int .i64 (wrap64 (2 ^ o)) = Value.int .i64 (pw o : Nat) := by rw [hwr]
          have hgb : Hid ((pw (o + 1) : Nat) ≤ 2048 ∧ 1 ≤ pw (o + 1)) := by have := pw_succ o; show _ ∧ _; omega
          have hp : Hid (headB ⟨0, (o : Nat), 0⟩ = true ∧ (⟨0, (o : Nat), 0⟩ : T3) = ⟨0, (gOrd n i : Nat), 0⟩ ∧ sz ⟨0, (o : Nat), 0⟩ = pw o) := ⟨headB_free ho10, by rw [← hgo.out], sz_mk 0 0 o⟩
          obtain ⟨z, hz⟩ : ∃ z, pw o = z := ⟨_, rfl⟩
          rw [hz] at hz1 hz2 hsh hwrV hfit hp
          have hx0 := hx
          clear hwr hok hA hgo hR hz
          obtain ⟨P, hP⟩ : ∃ P : T3, (⟨0, (o : Nat), 0⟩ : T3) = P := ⟨_, rfl⟩
          have hPc : t3Cells P = [.int .i64 0, .int .i64 o, .int .i64 0] := by rw [← hP]; rfl
          rw [hP] at hp
          clear hP
          rcases hcase with hd1 | ⟨hd1, hw2, hq | hq⟩
          rotate_left
          · obtain ⟨hq1, hq2⟩ := hq
            obtain ⟨q, hq⟩ : ∃ q, pw (o + 1) = q := ⟨_, rfl⟩
            rw [hq] at hgb hw2 hq1 hq2
            obtain ⟨hq3, hq4⟩ := hgb.out
            have e0 : ¬ q = 0 := by omega
            have e1 : ((i : Int) % q == 0) = true := by rw [beq_iff_eq]; omega
            have e2 : (i : Int) % q = 0 := by omega
            have e3 : decide ((i : Int) + q ≤ n) = false := decide_eq_false (by omega)
            have e3' : decide (i + q ≤ n) = false := decide_eq_false hq2
            clear hq hgb
            go_wp2_with (at_builtin; refine stop_here ?_)
            refine Stop.mk ?_
            have hxa : Ext No wr (wr.alloc (.cells #[.int .i64 0, .int .i64 o, .int .i64 0] 98)) := (Ext.refl _ _).alloc _
            refine wpList_app (v := .slice av i cv) (m := 1) ty_page rfl _ _ rfl rfl (ownsRow_ext ho hxa (fun _ _ => id)) rfl (Rd.of_blk (n := 1) (cs := [.int .i64 0, .int .i64 o, .int .i64 0]) (Blk.new' rfl) rfl (by decide)) (by simp [Value.oneCell']) (by omega) (by unfold maxLen; omega) (by have := hx.size; simp only [World.size_alloc]; omega) ?_
            intro v1 w1 ho1 hx1 _ hfr1
            have hX1 : Ext No w w1 := (hx.transNo hxa).trans hx1 (fun x hx2 h => by have := (ho.lt x h).1; omega)
            have ho1' : w1.ownsRow w.heap.size 98 3 v1 (i + 1) (t3sCells (cellsB D ++ (P :: List.replicate 0 inside))) := by
              rw [t3s_app]
              have e : t3sCells (P :: List.replicate 0 inside) = [.int .i64 0, .int .i64 o, .int .i64 0] := by rw [← hPc]; simp [t3sCells]
              rw [e]; exact ho1
            clear ho1 hx1 hfr1 ho hxa hx hx0
            go_wp2_with fail
            go_loopg [3, 6] z (fun g v s wy => ∃ k : Nat, z - (k + 1) ≤ g ∧ k + 1 ≤ z ∧ s = .int .i64 (k + 1 : Nat) ∧ wy.ownsRow w.heap.size 98 3 v (i + 1 + k) (t3sCells (cellsB D ++ (P :: List.replicate k inside))) ∧ Ext No w wy)
            case atStart => exact ⟨0, by omega, hz1, rfl, ho1', hX1⟩
            case round =>
              clear ho1' hX1
              obtain ⟨k, hkg, hkz, rfl, ho2, hx2⟩ := hrel
              obtain ⟨wy, hwy⟩ : ∃ wy, wr = wy := ⟨_, rfl⟩
              rw [hwy] at ho2 hx2 ⊢
              clear hwy
              have hkg' := Lib.hid hkg
              clear hkg
              obtain ⟨ay, cy, rfl, hcy⟩ := ownsRow_val ho2
              obtain ⟨k1, hk1⟩ : ∃ k1, k + 1 = k1 := ⟨_, rfl⟩
              obtain ⟨ik, hik⟩ : ∃ ik, i + 1 + k = ik := ⟨_, rfl⟩
              rw [hk1] at hkz ⊢
              rw [hik] at ho2 hcy ⊢
              by_cases hk : k1 < z
              · have e5 : decide ((k1 : Int) < z) = true := decide_eq_true (by omega)
                have e5' : decide (k1 < z) = true := decide_eq_true hk
                go_wp2_with (at_builtin; refine stop_here ?_)
                refine Stop.mk ?_
                have hxa : Ext No wy (wy.alloc (.cells #[.int .i64 1, .int .i64 0, .int .i64 0] 98)) := (Ext.refl _ _).alloc _
                refine wpList_app (v := .slice ay ik cy) (m := 1) ty_page rfl _ _ rfl rfl (ownsRow_ext ho2 hxa (fun _ _ => id)) rfl (Rd.of_blk (n := 1) (cs := [.int .i64 1, .int .i64 0, .int .i64 0]) (Blk.new' rfl) rfl (by decide)) (by simp [Value.oneCell']) (by omega) (by unfold maxLen; omega) (by have := hx2.size; simp only [World.size_alloc]; omega) ?_
                intro v3 w3 ho3 hx3 _ hfr3
                have hX3 : Ext No w w3 := (hx2.transNo hxa).trans hx3 (fun x hx5 h => by have := (ho2.lt x h).1; omega)
                have ho3' : Hid (w3.ownsRow w.heap.size 98 3 v3 (i + 1 + k1) (t3sCells (cellsB D ++ (P :: List.replicate k1 inside)))) := by
                  show w3.ownsRow w.heap.size 98 3 v3 (i + 1 + k1) (t3sCells (cellsB D ++ (P :: List.replicate k1 inside)))
                  rw [← hk1, List.replicate_succ', ← List.cons_append, ← List.append_assoc, t3s_app (cellsB D ++ (P :: List.replicate k inside)), show i + 1 + (k + 1) = ik + 1 by omega]
                  exact ho3
                clear ho3 hx3 hfr3 ho2 hxa hx2
                go_wp2_with fail
                go_roundg (z - (k1 + 1))
                case measure => have := hkg'.out; omega
                case rel => exact ⟨k1, by omega, by omega, by go_num, ho3'.out, hX3⟩
              · have e5 : decide ((k1 : Int) < z) = false := decide_eq_false (by omega)
                have e5' : decide (k1 < z) = false := decide_eq_false hk
                have hrow : Hid (wy.ownsRow w.heap.size 98 3 (.slice ay ik cy) (i + z) (t3sCells (cellsB (D ++ [P])))) := by
                  show wy.ownsRow w.heap.size 98 3 (.slice ay ik cy) (i + z) (t3sCells (cellsB (D ++ [P])))
                  have e : cellsB (D ++ [P]) = cellsB D ++ (P :: List.replicate k inside) := by
                    rw [cellsB_app]; simp only [cellsB, cell1, List.append_nil]; rw [hp.out.2.2, show z - 1 = k by omega]
                  rw [e, show i + z = ik by omega]; exact ho2
                have hG2 : Hid (Gr n 0 (D ++ [P]) ∧ tot (D ++ [P]) = i + z) := by
                  refine ⟨?_, ?_⟩
                  · rw [gr_app]; exact ⟨hG, by rw [hD, Nat.zero_add]; exact hp.out.2.1, trivial⟩
                  · rw [tot_app, hD]; simp only [tot]; rw [hp.out.2.2]; omega
                clear ho2
                go_wp2_with fail
                go_roundg (n - (i + z))
                case measure => have := hg'.out; omega
                case rel => exact ⟨D ++ [P], i + z, Nat.le_refl _, hfit, hG2.out.2, hG2.out.1, hrow.out, hx2⟩

          · obtain ⟨q, hq5⟩ : ∃ q, pw (o + 1) = q := ⟨_, rfl⟩
            rw [hq5] at hgb hw2 hq
            obtain ⟨hq3, hq4⟩ := hgb.out
            have e0 : ¬ q = 0 := by omega
            have e1 : ((i : Int) % q == 0) = false := by rw [beq_eq_false_iff_ne]; omega
            have e2 : ¬ (i : Int) % q = 0 := by omega
            clear hq5 hgb
            go_wp2_with (at_builtin; refine stop_here ?_)
            refine Stop.mk ?_
            have hxa : Ext No wr (wr.alloc (.cells #[.int .i64 0, .int .i64 o, .int .i64 0] 98)) := (Ext.refl _ _).alloc _
            refine wpList_app (v := .slice av i cv) (m := 1) ty_page rfl _ _ rfl rfl (ownsRow_ext ho hxa (fun _ _ => id)) rfl (Rd.of_blk (n := 1) (cs := [.int .i64 0, .int .i64 o, .int .i64 0]) (Blk.new' rfl) rfl (by decide)) (by simp [Value.oneCell']) (by omega) (by unfold maxLen; omega) (by have := hx.size; simp only [World.size_alloc]; omega) ?_
            intro v1 w1 ho1 hx1 _ hfr1
            have hX1 : Ext No w w1 := (hx.transNo hxa).trans hx1 (fun x hx2 h => by have := (ho.lt x h).1; omega)
            have ho1' : w1.ownsRow w.heap.size 98 3 v1 (i + 1) (t3sCells (cellsB D ++ (P :: List.replicate 0 inside))) := by
              rw [t3s_app]
              have e : t3sCells (P :: List.replicate 0 inside) = [.int .i64 0, .int .i64 o, .int .i64 0] := by rw [← hPc]; simp [t3sCells]
              rw [e]; exact ho1
            clear ho1 hx1 hfr1 ho hxa hx hx0
            go_wp2_with fail
            go_loopg [3, 6] z (fun g v s wy => ∃ k : Nat, z - (k + 1) ≤ g ∧ k + 1 ≤ z ∧ s = .int .i64 (k + 1 : Nat) ∧ wy.ownsRow w.heap.size 98 3 v (i + 1 + k) (t3sCells (cellsB D ++ (P :: List.replicate k inside))) ∧ Ext No w wy)
            case atStart => exact ⟨0, by omega, hz1, rfl, ho1', hX1⟩
            case round =>
              clear ho1' hX1
              obtain ⟨k, hkg, hkz, rfl, ho2, hx2⟩ := hrel
              obtain ⟨wy, hwy⟩ : ∃ wy, wr = wy := ⟨_, rfl⟩
              rw [hwy] at ho2 hx2 ⊢
              clear hwy
              have hkg' := Lib.hid hkg
              clear hkg
              obtain ⟨ay, cy, rfl, hcy⟩ := ownsRow_val ho2
              obtain ⟨k1, hk1⟩ : ∃ k1, k + 1 = k1 := ⟨_, rfl⟩
              obtain ⟨ik, hik⟩ : ∃ ik, i + 1 + k = ik := ⟨_, rfl⟩
              rw [hk1] at hkz ⊢
              rw [hik] at ho2 hcy ⊢
              by_cases hk : k1 < z
              · have e5 : decide ((k1 : Int) < z) = true := decide_eq_true (by omega)
                have e5' : decide (k1 < z) = true := decide_eq_true hk
                go_wp2_with (at_builtin; refine stop_here ?_)
                refine Stop.mk ?_
                have hxa : Ext No wy (wy.alloc (.cells #[.int .i64 1, .int .i64 0, .int .i64 0] 98)) := (Ext.refl _ _).alloc _
                refine wpList_app (v := .slice ay ik cy) (m := 1) ty_page rfl _ _ rfl rfl (ownsRow_ext ho2 hxa (fun _ _ => id)) rfl (Rd.of_blk (n := 1) (cs := [.int .i64 1, .int .i64 0, .int .i64 0]) (Blk.new' rfl) rfl (by decide)) (by simp [Value.oneCell']) (by omega) (by unfold maxLen; omega) (by have := hx2.size; simp only [World.size_alloc]; omega) ?_
                intro v3 w3 ho3 hx3 _ hfr3
                have hX3 : Ext No w w3 := (hx2.transNo hxa).trans hx3 (fun x hx5 h => by have := (ho2.lt x h).1; omega)
                have ho3' : Hid (w3.ownsRow w.heap.size 98 3 v3 (i + 1 + k1) (t3sCells (cellsB D ++ (P :: List.replicate k1 inside)))) := by
                  show w3.ownsRow w.heap.size 98 3 v3 (i + 1 + k1) (t3sCells (cellsB D ++ (P :: List.replicate k1 inside)))
                  rw [← hk1, List.replicate_succ', ← List.cons_append, ← List.append_assoc, t3s_app (cellsB D ++ (P :: List.replicate k inside)), show i + 1 + (k + 1) = ik + 1 by omega]
                  exact ho3
                clear ho3 hx3 hfr3 ho2 hxa hx2
                go_wp2_with fail
                go_roundg (z - (k1 + 1))
                case measure => have := hkg'.out; omega
                case rel => exact ⟨k1, by omega, by omega, by go_num, ho3'.out, hX3⟩
              · have e5 : decide ((k1 : Int) < z) = false := decide_eq_false (by omega)
                have e5' : decide (k1 < z) = false := decide_eq_false hk
                have hrow : Hid (wy.ownsRow w.heap.size 98 3 (.slice ay ik cy) (i + z) (t3sCells (cellsB (D ++ [P])))) := by
                  show wy.ownsRow w.heap.size 98 3 (.slice ay ik cy) (i + z) (t3sCells (cellsB (D ++ [P])))
                  have e : cellsB (D ++ [P]) = cellsB D ++ (P :: List.replicate k inside) := by
                    rw [cellsB_app]; simp only [cellsB, cell1, List.append_nil]; rw [hp.out.2.2, show z - 1 = k by omega]
                  rw [e, show i + z = ik by omega]; exact ho2
                have hG2 : Hid (Gr n 0 (D ++ [P]) ∧ tot (D ++ [P]) = i + z) := by
                  refine ⟨?_, ?_⟩
                  · rw [gr_app]; exact ⟨hG, by rw [hD, Nat.zero_add]; exact hp.out.2.1, trivial⟩
                  · rw [tot_app, hD]; simp only [tot]; rw [hp.out.2.2]; omega
                clear ho2
                go_wp2_with fail
                go_roundg (n - (i + z))
                case measure => have := hg'.out; omega
                case rel => exact ⟨D ++ [P], i + z, Nat.le_refl _, hfit, hG2.out.2, hG2.out.1, hrow.out, hx2⟩

          · have hdum := hd1
            clear hdum
            go_wp2_with (at_builtin; refine stop_here ?_)
            refine Stop.mk ?_
            have hxa : Ext No wr (wr.alloc (.cells #[.int .i64 0, .int .i64 o, .int .i64 0] 98)) := (Ext.refl _ _).alloc _
            refine wpList_app (v := .slice av i cv) (m := 1) ty_page rfl _ _ rfl rfl (ownsRow_ext ho hxa (fun _ _ => id)) rfl (Rd.of_blk (n := 1) (cs := [.int .i64 0, .int .i64 o, .int .i64 0]) (Blk.new' rfl) rfl (by decide)) (by simp [Value.oneCell']) (by omega) (by unfold maxLen; omega) (by have := hx.size; simp only [World.size_alloc]; omega) ?_
            intro v1 w1 ho1 hx1 _ hfr1
            have hX1 : Ext No w w1 := (hx.transNo hxa).trans hx1 (fun x hx2 h => by have := (ho.lt x h).1; omega)
            have ho1' : w1.ownsRow w.heap.size 98 3 v1 (i + 1) (t3sCells (cellsB D ++ (P :: List.replicate 0 inside))) := by
              rw [t3s_app]
              have e : t3sCells (P :: List.replicate 0 inside) = [.int .i64 0, .int .i64 o, .int .i64 0] := by rw [← hPc]; simp [t3sCells]
              rw [e]; exact ho1
            clear ho1 hx1 hfr1 ho hxa hx hx0
            go_wp2_with fail
            go_loopg [3, 6] z (fun g v s wy => ∃ k : Nat, z - (k + 1) ≤ g ∧ k + 1 ≤ z ∧ s = .int .i64 (k + 1 : Nat) ∧ wy.ownsRow w.heap.size 98 3 v (i + 1 + k) (t3sCells (cellsB D ++ (P :: List.replicate k inside))) ∧ Ext No w wy)
            case atStart => exact ⟨0, by omega, hz1, rfl, ho1', hX1⟩
            case round =>
              clear ho1' hX1
              obtain ⟨k, hkg, hkz, rfl, ho2, hx2⟩ := hrel
              obtain ⟨wy, hwy⟩ : ∃ wy, wr = wy := ⟨_, rfl⟩
              rw [hwy] at ho2 hx2 ⊢
              clear hwy
              have hkg' := Lib.hid hkg
              clear hkg
              obtain ⟨ay, cy, rfl, hcy⟩ := ownsRow_val ho2
              obtain ⟨k1, hk1⟩ : ∃ k1, k + 1 = k1 := ⟨_, rfl⟩
              obtain ⟨ik, hik⟩ : ∃ ik, i + 1 + k = ik := ⟨_, rfl⟩
              rw [hk1] at hkz ⊢
              rw [hik] at ho2 hcy ⊢
              by_cases hk : k1 < z
              · have e5 : decide ((k1 : Int) < z) = true := decide_eq_true (by omega)
                have e5' : decide (k1 < z) = true := decide_eq_true hk
                go_wp2_with (at_builtin; refine stop_here ?_)
                refine Stop.mk ?_
                have hxa : Ext No wy (wy.alloc (.cells #[.int .i64 1, .int .i64 0, .int .i64 0] 98)) := (Ext.refl _ _).alloc _
                refine wpList_app (v := .slice ay ik cy) (m := 1) ty_page rfl _ _ rfl rfl (ownsRow_ext ho2 hxa (fun _ _ => id)) rfl (Rd.of_blk (n := 1) (cs := [.int .i64 1, .int .i64 0, .int .i64 0]) (Blk.new' rfl) rfl (by decide)) (by simp [Value.oneCell']) (by omega) (by unfold maxLen; omega) (by have := hx2.size; simp only [World.size_alloc]; omega) ?_
                intro v3 w3 ho3 hx3 _ hfr3
                have hX3 : Ext No w w3 := (hx2.transNo hxa).trans hx3 (fun x hx5 h => by have := (ho2.lt x h).1; omega)
                have ho3' : Hid (w3.ownsRow w.heap.size 98 3 v3 (i + 1 + k1) (t3sCells (cellsB D ++ (P :: List.replicate k1 inside)))) := by
                  show w3.ownsRow w.heap.size 98 3 v3 (i + 1 + k1) (t3sCells (cellsB D ++ (P :: List.replicate k1 inside)))
                  rw [← hk1, List.replicate_succ', ← List.cons_append, ← List.append_assoc, t3s_app (cellsB D ++ (P :: List.replicate k inside)), show i + 1 + (k + 1) = ik + 1 by omega]
                  exact ho3
                clear ho3 hx3 hfr3 ho2 hxa hx2
                go_wp2_with fail
                go_roundg (z - (k1 + 1))
                case measure => have := hkg'.out; omega
                case rel => exact ⟨k1, by omega, by omega, by go_num, ho3'.out, hX3⟩
              · have e5 : decide ((k1 : Int) < z) = false := decide_eq_false (by omega)
                have e5' : decide (k1 < z) = false := decide_eq_false hk
                have hrow : Hid (wy.ownsRow w.heap.size 98 3 (.slice ay ik cy) (i + z) (t3sCells (cellsB (D ++ [P])))) := by
                  show wy.ownsRow w.heap.size 98 3 (.slice ay ik cy) (i + z) (t3sCells (cellsB (D ++ [P])))
                  have e : cellsB (D ++ [P]) = cellsB D ++ (P :: List.replicate k inside) := by
                    rw [cellsB_app]; simp only [cellsB, cell1, List.append_nil]; rw [hp.out.2.2, show z - 1 = k by omega]
                  rw [e, show i + z = ik by omega]; exact ho2
                have hG2 : Hid (Gr n 0 (D ++ [P]) ∧ tot (D ++ [P]) = i + z) := by
                  refine ⟨?_, ?_⟩
                  · rw [gr_app]; exact ⟨hG, by rw [hD, Nat.zero_add]; exact hp.out.2.1, trivial⟩
                  · rw [tot_app, hD]; simp only [tot]; rw [hp.out.2.2]; omega
                clear ho2
                go_wp2_with fail
                go_roundg (n - (i + z))
                case measure => have := hg'.out; omega
                case rel => exact ⟨D ++ [P], i + z, Nat.le_refl _, hfit, hG2.out.2, hG2.out.1, hrow.out, hx2⟩

    · have hd : decide ((i : Int) < n) = false := decide_eq_false (by omega)
      have hfu : Hid (cellsB D = full n) := full_of hG (by omega)
      obtain rfl : i = n := by omega
      go_wp2_with fail
      go_ret
      rw [← hfu.out]
      exact ⟨_, rfl, ho, hx⟩
end Go.Proofs.Ytjkknjohmekeiaa
/- The document's buddies in memory: New, Whole. -/
namespace Go.Proofs.Ytjkknjohmekeiaa
open Go.RowKit

theorem new74_spec (w : World) (n : Nat) (h1 : 1 ≤ n) (h2 : n ≤ 1024) :
    Calls Try.prog 74 #[.int .i64 n] w fun e w' => ∃ p v base, e = .returned (.tuple #[.pointer (some ⟨p, 0, none⟩), .int .i64 0]) ∧ BR w' p base v (full n) 122 ∧ w.heap.size ≤ p ∧ (∀ x, OwnOf v x → w.heap.size ≤ x) ∧ Ext No w w' := by
  go_enter Try.func74, Try.ntmps74
  go_wp2_with fail
  refine (fresh119_spec w n h2).mono ?_
  rintro e w1 ⟨r, rfl, ho, hx⟩
  obtain ⟨ar, cr, rfl, hcr⟩ := ownsRow_val ho
  go_wp2_with fail
  go_ret2
  have hxa : Ext No w1 (w1.alloc (.cells #[.slice ar n cr] 122)) := (Ext.refl _ _).alloc _
  refine ⟨_, _, w.heap.size, rfl, ⟨Blk.new' rfl, by rw [full_len]; exact ownsRow_ext ho hxa (fun _ _ => id), fun h => by have := (ho.lt _ h).2; omega, by rw [full_len]; exact h2⟩, hx.size, fun x h => (ho.lt x h).1, hx.transNo hxa⟩
theorem new74_out (w : World) (n : Int) (h : n < 1 ∨ 1024 < n) :
    Calls Try.prog 74 #[.int .i64 n] w fun e w' => e = .returned (.tuple #[.pointer none, .int .i64 2]) ∧ w = w' := by
  by_cases h1 : n < 1
  · go_enter Try.func74, Try.ntmps74
    go_wp2_with fail
    go_ret2
    exact ⟨rfl, rfl⟩
  · have h2 : 1024 < n := by omega
    go_enter Try.func74, Try.ntmps74
    go_wp2_with fail
    go_ret2
    exact ⟨rfl, rfl⟩
theorem whole124_spec (w : World) (bb base : Nat) (v : Value) (l : List T3) (h : BR w bb base v l 122) :
    Calls Try.prog 124 #[.pointer (some ⟨bb, 0, none⟩)] w fun e w' => e = .returned (.bool (decide (l = full l.length))) ∧ Ext No w w' := by
  obtain ⟨a, cap, rfl, hlc, hcap⟩ := h.val
  have c0 := h.b.cell' (i := 0) rfl
  have hn := h.n
  go_enter Try.func124, Try.ntmps124
  go_wp2_with fail
  have hxd : Ext No w w.drew := (Ext.refl No w).drew
  have hd := h.extNo hxd
  refine anyZ_begin 12 (fun w' => w'.cell? ⟨bb, 0, none⟩ = some (.slice a l.length cap)) (by kernel_rfl) ?_
  have hC : (fun w' : World => w'.cell? ⟨bb, 0, none⟩ = some (.slice a l.length cap)) w.drew := c0
  refine anyZ_take 0 (v := ?_) rfl (by kernel_rfl) (by kernel_rfl) (by kernel_rfl) (by kernel_rfl) (fun _ _ _ h => h) hC (Or.inl ⟨by rfl, ?_⟩) ?_
  rotate_left
  · (intro wq hq; (try dsimp only at hq); go_simp; with_reducible rfl)
  simp only [Act.put, List.setIfInBounds_toArray, List.set_cons_zero, List.set_cons_succ]
  refine anyZ_take 1 (v := ?_) rfl (by kernel_rfl) (by kernel_rfl) (by kernel_rfl) (by kernel_rfl) (fun _ _ _ h => h) hC (Or.inl ⟨by rfl, ?_⟩) ?_
  rotate_left
  · (intro wq hq; (try dsimp only at hq); go_simp; with_reducible rfl)
  simp only [Act.put, List.setIfInBounds_toArray, List.set_cons_zero, List.set_cons_succ]
  refine anyZ_take 2 (v := ?_) rfl (by kernel_rfl) (by kernel_rfl) (by kernel_rfl) (by kernel_rfl) (fun _ _ _ h => h) hC (Or.inl ⟨by rfl, ?_⟩) ?_
  rotate_left
  · (intro wq hq; (try dsimp only at hq); go_simp; with_reducible rfl)
  simp only [Act.put, List.setIfInBounds_toArray, List.set_cons_zero, List.set_cons_succ]
  refine anyZ_take 3 (v := ?_) rfl (by kernel_rfl) (by kernel_rfl) (by kernel_rfl) (by kernel_rfl) (fun _ _ _ h => h) hC (Or.inl ⟨by rfl, ?_⟩) ?_
  rotate_left
  · (intro wq hq; (try dsimp only at hq); go_simp; with_reducible rfl)
  simp only [Act.put, List.setIfInBounds_toArray, List.set_cons_zero, List.set_cons_succ]
  refine anyZ_take 4 (v := ?_) rfl (by kernel_rfl) (by kernel_rfl) (by kernel_rfl) (by kernel_rfl) (fun _ _ _ h => h) hC (Or.inl ⟨by rfl, ?_⟩) ?_
  rotate_left
  · (intro wq hq; (try dsimp only at hq); go_simp; with_reducible rfl)
  simp only [Act.put, List.setIfInBounds_toArray, List.set_cons_zero, List.set_cons_succ]
  refine anyZ_take 5 (v := ?_) rfl (by kernel_rfl) (by kernel_rfl) (by kernel_rfl) (by kernel_rfl) (fun _ _ _ h => h) hC (Or.inl ⟨by rfl, ?_⟩) ?_
  rotate_left
  · (intro wq hq; (try dsimp only at hq); go_simp; with_reducible rfl)
  simp only [Act.put, List.setIfInBounds_toArray, List.set_cons_zero, List.set_cons_succ]
  refine anyZ_take 6 (v := ?_) rfl (by kernel_rfl) (by kernel_rfl) (by kernel_rfl) (by kernel_rfl) (fun _ _ _ h => h) hC (Or.inl ⟨by rfl, ?_⟩) ?_
  rotate_left
  · (intro wq hq; (try dsimp only at hq); go_simp; with_reducible rfl)
  simp only [Act.put, List.setIfInBounds_toArray, List.set_cons_zero, List.set_cons_succ]
  refine anyZ_take 7 (v := ?_) rfl (by kernel_rfl) (by kernel_rfl) (by kernel_rfl) (by kernel_rfl) (fun _ _ _ h => h) hC (Or.inl ⟨by rfl, ?_⟩) ?_
  rotate_left
  · (intro wq hq; (try dsimp only at hq); go_simp; with_reducible rfl)
  simp only [Act.put, List.setIfInBounds_toArray, List.set_cons_zero, List.set_cons_succ]
  refine anyZ_take 8 (v := ?_) rfl (by kernel_rfl) (by kernel_rfl) (by kernel_rfl) (by kernel_rfl) (fun _ _ _ h => h) hC (Or.inl ⟨by rfl, ?_⟩) ?_
  rotate_left
  · (intro wq hq; (try dsimp only at hq); go_simp; with_reducible rfl)
  simp only [Act.put, List.setIfInBounds_toArray, List.set_cons_zero, List.set_cons_succ]
  refine anyZ_step 9 rfl (by kernel_rfl) (fun K hK => ?_)
  go_simp
  refine (fresh119_spec w.drew l.length hn).mono ?_
  rintro e w1 ⟨r, rfl, ho, hx⟩
  have ho' : w1.ownsRow w.drew.heap.size 98 3 r (full l.length).length (t3sCells (full l.length)) := by rw [full_len]; exact ho
  have hR := (hd.extNo hx).rd
  have hC1 : (fun w' : World => w'.cell? ⟨bb, 0, none⟩ = some (.slice a l.length cap)) w1 := hx.cell (w := w.drew) c0 id
  refine hK _ _ hC1 ?_
  clear hK K
  try simp only [Act.put, List.setIfInBounds_toArray, List.set_cons_zero, List.set_cons_succ]
  refine anyZ_step 10 rfl (by kernel_rfl) (fun K hK => ?_)
  go_simp
  refine (same122_spec w1 _ _ l (full l.length) _ _ hR (own_rdT ho')).mono ?_
  rintro e w2 ⟨rfl, hx2⟩
  have hC2 : (fun w' : World => w'.cell? ⟨bb, 0, none⟩ = some (.slice a l.length cap)) w2 := hx2.cell (w := w1) hC1 id
  refine hK _ _ hC2 ?_
  clear hK K
  try simp only [Act.put, List.setIfInBounds_toArray, List.set_cons_zero, List.set_cons_succ]
  refine anyZ_take 11 (v := ?_) rfl (by kernel_rfl) (by kernel_rfl) (by kernel_rfl) (by kernel_rfl) (fun _ _ _ h => h) hC2 (Or.inl ⟨by rfl, ?_⟩) ?_
  rotate_left
  · (intro wq hq; (try dsimp only at hq); go_simp; with_reducible rfl)
  simp only [Act.put, List.setIfInBounds_toArray, List.set_cons_zero, List.set_cons_succ]
  refine anyZ_done (by kernel_rfl) ?_ _
  go_wp2_with fail
  go_ret
  exact ⟨rfl, (hxd.transNo hx).transNo hx2⟩
end Go.Proofs.Ytjkknjohmekeiaa
