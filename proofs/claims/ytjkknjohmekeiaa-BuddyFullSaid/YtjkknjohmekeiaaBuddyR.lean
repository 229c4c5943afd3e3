/- BuddyFull. No condition. -/
import Derived.Test.YtjkknjohmekeiaaBuddyP
namespace Go.Proofs.Ytjkknjohmekeiaa
open Go.RowKit

theorem smB_nn (c : T3 → Int) (hc : ∀ p, 0 ≤ c p) : ∀ l, 0 ≤ smB c l
  | [] => Int.le_refl _
  | p :: r => by have := hc p; have := smB_nn c hc r; simp only [smB]; omega
theorem frS_nn (l : List T3) : 0 ≤ frS l := smB_nn _ (fun p => by unfold cFree; split <;> omega) l
/-- Is a free block there, of an order between two? -/
def someL (l : List T3) (o : Nat) : Nat → Bool
  | 0 => false
  | d + 1 => someL l o d || decide (0 < (freesL l (o + d) 0).length)
theorem someL_iff (l : List T3) (o : Nat) : ∀ d, someL l o d = true ↔ ∃ k, o ≤ k ∧ k < o + d ∧ freesL l k 0 ≠ []
  | 0 => by simp [someL]; omega
  | d + 1 => by
    simp only [someL, Bool.or_eq_true, decide_eq_true_eq, someL_iff l o d]
    constructor
    · rintro (⟨k, h1, h2, h3⟩ | h)
      · exact ⟨k, h1, by omega, h3⟩
      · exact ⟨o + d, by omega, by omega, fun e => by rw [e] at h; simp at h⟩
    · rintro ⟨k, h1, h2, h3⟩
      by_cases e : k = o + d
      · subst e; exact .inr (List.length_pos_iff.2 h3)
      · exact .inl ⟨k, h1, by omega, h3⟩
theorem someL_least (l : List T3) {o : Nat} (ho : o ≤ 10) : someL l o (11 - o) = (leastL l o).isSome := by
  cases hl : leastL l o with
  | none =>
    have := (least_none (11 - o) o (Nat.le_refl _)).1 hl
    cases hs : someL l o (11 - o)
    · rfl
    · obtain ⟨k, h1, h2, h3⟩ := (someL_iff l o _).1 hs
      exact absurd (this k h1 (by omega)) h3
  | some b =>
    cases hs : someL l o (11 - o)
    · exfalso
      have hn : leastL l o = none := (least_none (11 - o) o (Nat.le_refl _)).2 (fun k h1 h2 => by
        cases hf : freesL l k 0 with
        | nil => rfl
        | cons x r =>
          have := (someL_iff l o (11 - o)).2 ⟨k, h1, by omega, by rw [hf]; exact List.cons_ne_nil _ _⟩
          rw [hs] at this; cases this)
      rw [hl] at hn; cases hn
    · rfl

theorem head_in {l : List T3} (ht : tabOk l = true) {i q z d : Nat} (hr : Rch l i) (he : nth l i = ⟨0, q, 0⟩) (hz : z ≤ pw q) (hd : d < z) (hf : i + z ≤ l.length) : headR l ((i + d : Nat) : Int) = i := by
  unfold headR
  rw [if_pos ht]
  have : inT l ((i + d : Nat) : Int) = true := by
    unfold inT; rw [decide_eq_true (Int.natCast_nonneg _), decide_eq_true (show ((i + d : Nat) : Int) < l.length by omega)]; rfl
  rw [if_pos this]
  exact headF_eq (tab_iff.1 ht).2.2 (by omega) ⟨hr, by omega, by rw [he, sz_mk]; omega⟩

set_option maxRecDepth 100000 in
set_option maxHeartbeats 6400000 in
theorem buddyFull_core (w : World) (pages : Int) (vd : Value) (ds : List T3) (order : Int) (G : Nat → Prop) (hv : RdT G w vd ds) :
    Calls Try.prog 18 #[.int .i64 pages, vd, .int .i64 order] w fun e w' => e = .returned (.bool true) ∧ Ext No w w' := by
  obtain ⟨o, ho, ho2⟩ := modn order 11 (by decide)
  have ho10 : o ≤ 10 := by omega
  have hsh := shl_pw ho10
  have hwr := wrap_pw ho10
  have hpp := pw_le ho10
  have hwr2 : IntKind.i64.wrap (2 ^ o) = ((pw o : Nat) : Int) := by
    have e : (2 ^ o : Int) = ((pw o : Nat) : Int) := by unfold pw; norm_cast
    rw [e, IntKind.wrap_i64]; omega
  have hp1 := pw_pos o
  go_enter Try.func18, Try.ntmps18
  go_wp2_with fail
  refine (played66_spec w pages vd ds G hv).mono ?_
  rintro e w2 ⟨p, v, l, vo, out, rfl, hP, hll⟩
  have hB := hP.b
  clear hP hll hv
  go_wp2_with fail
  refine (bring_spec w2 order 11 (by decide) (by decide)).mono ?_
  rintro e w3 ⟨rfl, rfl⟩
  rw [ho]
  go_wp2_with fail
  go_loopg [9, 10] 11 (fun g s k wr => ∃ d : Nat, 11 - (o + d) ≤ g ∧ o + d ≤ 11 ∧ s = .bool (someL l o d) ∧ k = .int .i64 (o + d : Nat) ∧ BT w wr p v l)
  case atStart => exact ⟨0, by omega, by omega, rfl, rfl, hB⟩
  case round =>
    clear hB
    obtain ⟨d, hg, hod, rfl, rfl, hB⟩ := hrel
    obtain ⟨wz, hwz⟩ : ∃ wz, wr = wz := ⟨_, rfl⟩
    rw [hwz] at hB ⊢
    clear hwz
    have hg' := Lib.hid hg
    clear hg
    obtain ⟨k, hk⟩ : ∃ k, o + d = k := ⟨_, rfl⟩
    rw [hk]
    obtain ⟨s, hs⟩ : ∃ s, someL l o d = s := ⟨_, rfl⟩
    rw [hs]
    by_cases hlt : k ≤ 10
    · have hd10 : decide ((k : Int) ≤ 10) = true := decide_eq_true (by omega)
      obtain ⟨L, hL⟩ : ∃ L, freesL l k 0 = L := ⟨_, rfl⟩
      have hs2 : Hid (someL l o (d + 1) = (s || decide (0 < L.length))) := by show _ = _; simp only [someL]; rw [hs, hk, hL]
      cases s with
      | true =>
        clear hs hL
        go_wp2_with fail
        go_roundg (11 - (o + (d + 1)))
        case measure => have := hg'.out; omega
        case rel => exact ⟨d + 1, by omega, by omega, by rw [hs2.out]; rfl, by rw [← hk]; go_num, hB⟩
      | false =>
        have hfr := bt_frees hB k hlt hL
        clear hs hL
        go_wp2_with fail
        refine hfr.mono ?_
        rintro e w4 ⟨aa, ca, rfl, ha, hB4, hx4⟩
        clear ha hfr hB
        by_cases h0 : 0 < L.length
        · have hd0 : decide ((0 : Int) < L.length) = true := decide_eq_true (by omega)
          have hs3 : Hid (someL l o (d + 1) = true) := by show _ = _; rw [hs2.out, decide_eq_true h0]; rfl
          go_wp2_with fail
          go_roundg (11 - (o + (d + 1)))
          case measure => have := hg'.out; omega
          case rel => exact ⟨d + 1, by omega, by omega, by rw [hs3.out], by rw [← hk]; go_num, hB4⟩
        · have hd0 : decide ((0 : Int) < L.length) = false := decide_eq_false (by omega)
          have hs3 : Hid (someL l o (d + 1) = false) := by show _ = _; rw [hs2.out, decide_eq_false h0]; rfl
          go_wp2_with fail
          go_roundg (11 - (o + (d + 1)))
          case measure => have := hg'.out; omega
          case rel => exact ⟨d + 1, by omega, by omega, by rw [hs3.out], by rw [← hk]; go_num, hB4⟩
    · have hd10 : decide ((k : Int) ≤ 10) = false := decide_eq_false (by omega)
      have hsl := someL_least l ho10
      rw [show 11 - o = d by omega, hs] at hsl
      clear hs
      subst hsl
      obtain ⟨N, hN⟩ : ∃ N, frS l = N := ⟨_, rfl⟩
      have hpg := bt_pages hB
      go_wp2_with fail
      refine hpg.mono ?_
      rintro e w4 ⟨r, rfl, hr, hB4, hx4⟩
      obtain ⟨ar, cr, rfl, hcr⟩ := ownsRow_val hr
      have hrn : ∀ x, OwnOf (.slice ar l.length cr) x → ¬ OwnOf v x := fun x hx ho => by have := (hr.lt x hx).1; have := hB.lt.2 x ho; omega
      have hR4 := own_rdT hr
      clear hpg hB hr
      go_wp2_with fail
      refine (bt_left hB4 hN).mono ?_
      rintro e w5 ⟨rfl, hB5, hx5⟩
      have hR5 := hR4.extNo hx5
      clear hB4 hR4
      cases hl : leastL l o with
      | none =>
        have hX : allocX l o = 0 := by unfold allocX; rw [hl]
        have hE : allocE l o = 7 := by unfold allocE; rw [hl]
        have hA : allocL l o 2 = l := BI.none 2 hl
        clear hl
        go_wp2_with fail
        refine (bt_alloc hB5 o 2 ho10 (by decide) hX hE hA).mono ?_
        rintro e w6 ⟨rfl, hB6, hx6⟩
        clear hX hE hA
        go_wp2_with fail
        refine (bt_left hB6 hN).mono ?_
        rintro e w7 ⟨rfl, hB7, hx7⟩
        go_wp2_with fail
        refine (works65_spec w7).mono ?_
        rintro e w8 ⟨rfl, hx8⟩
        go_wp2_with fail
        go_ret
        exact ⟨rfl, hB7.x.transNo hx8⟩
      | some b =>
        obtain ⟨h1, h2, h3, h4, h5⟩ := least_some (11 - o) o (Nat.le_refl _) b hl
        obtain ⟨hp, hbi⟩ := hB5.i.alloc (c := 2) (by decide) hl
        obtain ⟨hrb, _, _, hfb⟩ := free_ok hB5.i.va h5
        have hX : allocX l o = b.i := by unfold allocX; rw [hl]
        have hE : allocE l o = 0 := by unfold allocE; rw [hl]
        obtain ⟨i, q⟩ := b
        dsimp only at *
        have hoq := Nat.le_of_dvd (pw_pos q) (pw_dvd h1)
        have hnn := frS_nn (allocL l o 2)
        have hfr := hp.fr
        rw [hN] at hfr
        rw [hfr] at hnn
        have hat := hp.at0
        have hlen := hp.len
        have hpages := hB5.i.le
        have hN1024 : N ≤ 1024 * 1024 := by
          have hc := cBd cFree (by decide) cFree_bd hB5.i.va l.length (Nat.le_refl _)
          rw [sumTo_take _ _ _ (Nat.le_refl _), List.take_length] at hc
          have : frS l ≤ 1024 * l.length := hc.2
          omega
        have hdl : decide (N < (pw o : Nat)) = false := decide_eq_false (by omega)
        have hnth := (free_is.1 h5).2
        clear hl h5 hp hbi
        obtain ⟨L2, hL2⟩ : ∃ L2, allocL l o 2 = L2 := ⟨_, rfl⟩
        rw [hL2] at hfr hat hlen
        have hlr := hB5.lt
        have hva := hB5.i.va
        have htab := hB5.i.tab
        go_wp2_with fail
        refine (bt_alloc hB5 o 2 ho10 (by decide) hX hE hL2).mono ?_
        rintro e w6 ⟨rfl, hB6, hx6⟩
        have hR6 := hR5.ext hx6 hrn
        clear hB5 hR5 hX hE hL2
        go_wp2_with fail
        refine (bt_pages hB6).mono ?_
        rintro e w7 ⟨r7, rfl, hr7, hB7, hx7⟩
        have hR7 := hR6.extNo hx7
        obtain ⟨a7, c7, rfl, hc7⟩ := ownsRow_val hr7
        have hN7 := own_rdT hr7
        rw [hlen] at hN7 hc7
        clear hB6 hR6 hr7
        obtain ⟨b7, off7, rfl, hbl7, _, x0, x1, x2⟩ := hN7.at (k := i) (by omega)
        rw [hat] at x0 x1 x2
        have hR8 := hR7
        obtain ⟨b8, off8, rfl, hbl8, _, _, _, _⟩ := hR8.at (k := i) (by omega)
        clear hR8
        have hw1 : IntKind.i64.wrap ((i : Int) + (pw o : Nat)) = (i : Int) + (pw o : Nat) := by rw [IntKind.wrap_i64]; omega
        have hd1 : decide ((l.length : Int) < (i : Int) + (pw o : Nat)) = false := decide_eq_false (by omega)
        have hw2 : IntKind.i64.wrap (N - (pw o : Nat)) = N - (pw o : Nat) := by rw [IntKind.wrap_i64]; omega
        have hd1' : decide (l.length < i + pw o) = false := decide_eq_false (by omega)
        have hd2 : decide ((i : Int) < 0) = false := decide_eq_false (by omega)
        have hd3 : decide ((l.length : Int) ≤ (i : Int)) = false := decide_eq_false (by omega)
        have hee : ((o : Int) == (o : Int)) = true := beq_self_eq_true _
        have hne : (N - (pw o : Nat) != N - (pw o : Nat)) = false := by rw [bne, beq_self_eq_true]; rfl
        have hil : i < l.length := h4
        have hbg0 : Hid ((l.length : Int) ≤ 1024 ∧ i + pw o ≤ l.length) := by show _ ∧ _; omega
        have hmod : Hid ((i : Int) % (l.length : Int) = i) := Int.emod_eq_of_lt (by omega) (by omega)
        have hxd : Ext No w7 w7.drew := (Ext.refl No w7).drew
        obtain ⟨z, hz⟩ : ∃ z, pw o = z := ⟨_, rfl⟩
        rw [hz] at hw1 hd1 hd1' hw2 hne hsh hwr hwr2 hpp hp1 hoq hnn hdl hfr
        go_wp2_with fail
        refine anyZ_begin 33 (fun w' => w'.cell? ⟨b7, off7 + i * 3, none⟩ = some (.int .i64 2) ∧ w'.cell? ⟨b7, off7 + i * 3 + 1, none⟩ = some (.int .i64 o) ∧ w'.cell? ⟨b7, off7 + i * 3 + 2, none⟩ = some (.int .i64 2)) (by kernel_rfl) ?_
        have hC : (fun w' : World => w'.cell? ⟨b7, off7 + i * 3, none⟩ = some (.int .i64 2) ∧ w'.cell? ⟨b7, off7 + i * 3 + 1, none⟩ = some (.int .i64 o) ∧ w'.cell? ⟨b7, off7 + i * 3 + 2, none⟩ = some (.int .i64 2)) w7.drew := ⟨x0, x1, x2⟩
        refine anyZ_take 0 (v := ?_) rfl (by kernel_rfl) (by kernel_rfl) (by kernel_rfl) (by kernel_rfl) (fun _ _ _ h => h) hC (Or.inl ⟨by rfl, ?_⟩) ?_
        rotate_left
        · (intro wq hq; (try dsimp only at hq); go_simp; with_reducible rfl)
        simp only [Act.put, List.setIfInBounds_toArray, List.set_cons_zero, List.set_cons_succ]
        refine anyZ_take 1 (v := ?_) rfl (by kernel_rfl) (by kernel_rfl) (by kernel_rfl) (by kernel_rfl) (fun _ _ _ h => h) hC (Or.inl ⟨by rfl, ?_⟩) ?_
        rotate_left
        · (intro wq hq; (try dsimp only at hq); go_simp; with_reducible rfl)
        simp only [Act.put, List.setIfInBounds_toArray, List.set_cons_zero, List.set_cons_succ]
        refine anyZ_take 2 (v := ?_) rfl (by kernel_rfl) (by kernel_rfl) (by kernel_rfl) (by kernel_rfl) (fun _ _ _ h => h) hC (Or.inl ⟨by rfl, ?_⟩) ?_
        rotate_left
        · (intro wq hq; (try dsimp only at hq); go_simp; with_reducible rfl)
        simp only [Act.put, List.setIfInBounds_toArray, List.set_cons_zero, List.set_cons_succ]
        refine anyZ_take 3 (v := ?_) rfl (by kernel_rfl) (by kernel_rfl) (by kernel_rfl) (by kernel_rfl) (fun _ _ _ h => h) hC (Or.inl ⟨by rfl, ?_⟩) ?_
        rotate_left
        · (intro wq hq; (try dsimp only at hq); go_simp; with_reducible rfl)
        simp only [Act.put, List.setIfInBounds_toArray, List.set_cons_zero, List.set_cons_succ]
        refine anyZ_take 4 (v := ?_) rfl (by kernel_rfl) (by kernel_rfl) (by kernel_rfl) (by kernel_rfl) (fun _ _ _ h => h) hC (Or.inl ⟨by rfl, ?_⟩) ?_
        rotate_left
        · (intro wq hq; (try dsimp only at hq); go_simp; with_reducible rfl)
        simp only [Act.put, List.setIfInBounds_toArray, List.set_cons_zero, List.set_cons_succ]
        refine anyZ_take 5 (v := ?_) rfl (by kernel_rfl) (by kernel_rfl) (by kernel_rfl) (by kernel_rfl) (fun _ _ _ h => h) hC (Or.inl ⟨by rfl, ?_⟩) ?_
        rotate_left
        · (intro wq hq; (try dsimp only at hq); go_simp; with_reducible rfl)
        simp only [Act.put, List.setIfInBounds_toArray, List.set_cons_zero, List.set_cons_succ]
        refine anyZ_take 6 (v := ?_) rfl (by kernel_rfl) (by kernel_rfl) (by kernel_rfl) (by kernel_rfl) (fun _ _ _ h => h) hC (Or.inl ⟨by rfl, ?_⟩) ?_
        rotate_left
        · (intro wq hq; (try dsimp only at hq); go_simp; with_reducible rfl)
        simp only [Act.put, List.setIfInBounds_toArray, List.set_cons_zero, List.set_cons_succ]
        refine anyZ_take 7 (v := ?_) rfl (by kernel_rfl) (by kernel_rfl) (by kernel_rfl) (by kernel_rfl) (fun _ _ _ h => h) hC (Or.inl ⟨by rfl, ?_⟩) ?_
        rotate_left
        · (intro wq hq; (try dsimp only at hq); go_simp; with_reducible rfl)
        simp only [Act.put, List.setIfInBounds_toArray, List.set_cons_zero, List.set_cons_succ]
        refine anyZ_take 8 (v := ?_) rfl (by kernel_rfl) (by kernel_rfl) (by kernel_rfl) (by kernel_rfl) (fun _ _ _ h => h) hC (Or.inl ⟨by rfl, ?_⟩) ?_
        rotate_left
        · (intro wq hq; (try dsimp only at hq); go_simp; with_reducible rfl)
        simp only [Act.put, List.setIfInBounds_toArray, List.set_cons_zero, List.set_cons_succ]
        refine anyZ_take 9 (v := ?_) rfl (by kernel_rfl) (by kernel_rfl) (by kernel_rfl) (by kernel_rfl) (fun _ _ _ h => h) hC (Or.inl ⟨by rfl, ?_⟩) ?_
        rotate_left
        · (intro wq hq; (try dsimp only at hq); go_simp; with_reducible rfl)
        simp only [Act.put, List.setIfInBounds_toArray, List.set_cons_zero, List.set_cons_succ]
        refine anyZ_take 10 (v := ?_) rfl (by kernel_rfl) (by kernel_rfl) (by kernel_rfl) (by kernel_rfl) (fun _ _ _ h => h) hC (Or.inl ⟨by rfl, ?_⟩) ?_
        rotate_left
        · (intro wq hq; (try dsimp only at hq); go_simp; with_reducible rfl)
        simp only [Act.put, List.setIfInBounds_toArray, List.set_cons_zero, List.set_cons_succ]
        refine anyZ_take 11 (v := ?_) rfl (by kernel_rfl) (by kernel_rfl) (by kernel_rfl) (by kernel_rfl) (fun _ _ _ h => h) hC (Or.inl ⟨by rfl, ?_⟩) ?_
        rotate_left
        · (intro wq hq; (try dsimp only at hq); go_simp; with_reducible rfl)
        simp only [Act.put, List.setIfInBounds_toArray, List.set_cons_zero, List.set_cons_succ]
        refine anyZ_take 12 (v := ?_) rfl (by kernel_rfl) (by kernel_rfl) (by kernel_rfl) (by kernel_rfl) (fun _ _ _ h => h) hC (Or.inl ⟨by rfl, ?_⟩) ?_
        rotate_left
        · (intro wq hq; (try dsimp only at hq); go_simp; with_reducible rfl)
        simp only [Act.put, List.setIfInBounds_toArray, List.set_cons_zero, List.set_cons_succ]
        refine anyZ_take 13 (v := ?_) rfl (by kernel_rfl) (by kernel_rfl) (by kernel_rfl) (by kernel_rfl) (fun _ _ _ h => h) hC (Or.inl ⟨by rfl, ?_⟩) ?_
        rotate_left
        · (intro wq hq; (try dsimp only at hq); go_simp; with_reducible rfl)
        simp only [Act.put, List.setIfInBounds_toArray, List.set_cons_zero, List.set_cons_succ]
        refine anyZ_take 14 (v := ?_) rfl (by kernel_rfl) (by kernel_rfl) (by kernel_rfl) (by kernel_rfl) (fun _ _ _ h => h) hC (Or.inl ⟨by rfl, ?_⟩) ?_
        rotate_left
        · (intro wq hq; (try dsimp only at hq); go_simp; with_reducible rfl)
        simp only [Act.put, List.setIfInBounds_toArray, List.set_cons_zero, List.set_cons_succ]
        refine anyZ_take 15 (v := ?_) rfl (by kernel_rfl) (by kernel_rfl) (by kernel_rfl) (by kernel_rfl) (fun _ _ _ h => h) hC (Or.inl ⟨by rfl, ?_⟩) ?_
        rotate_left
        · (intro wq hq; (try dsimp only at hq); go_simp; with_reducible rfl)
        simp only [Act.put, List.setIfInBounds_toArray, List.set_cons_zero, List.set_cons_succ]
        refine anyZ_take 16 (v := ?_) rfl (by kernel_rfl) (by kernel_rfl) (by kernel_rfl) (by kernel_rfl) (fun _ _ _ h => h) hC (Or.inl ⟨by rfl, ?_⟩) ?_
        rotate_left
        · (intro wq hq; (try dsimp only at hq); go_simp; with_reducible rfl)
        simp only [Act.put, List.setIfInBounds_toArray, List.set_cons_zero, List.set_cons_succ]
        refine anyZ_take 17 (v := ?_) rfl (by kernel_rfl) (by kernel_rfl) (by kernel_rfl) (by kernel_rfl) (fun _ _ _ h => h) hC (Or.inl ⟨by rfl, ?_⟩) ?_
        rotate_left
        · (intro wq hq; (try dsimp only at hq); go_simp; with_reducible rfl)
        simp only [Act.put, List.setIfInBounds_toArray, List.set_cons_zero, List.set_cons_succ]
        refine anyZ_take 18 (v := ?_) rfl (by kernel_rfl) (by kernel_rfl) (by kernel_rfl) (by kernel_rfl) (fun _ _ _ h => h) hC (Or.inl ⟨by rfl, ?_⟩) ?_
        rotate_left
        · (intro wq hq; (try dsimp only at hq); go_simp; with_reducible rfl)
        simp only [Act.put, List.setIfInBounds_toArray, List.set_cons_zero, List.set_cons_succ]
        refine anyZ_take 19 (v := ?_) rfl (by kernel_rfl) (by kernel_rfl) (by kernel_rfl) (by kernel_rfl) (fun _ _ _ h => h) hC (Or.inl ⟨by rfl, ?_⟩) ?_
        rotate_left
        · (intro wq hq; (try dsimp only at hq); go_simp; with_reducible rfl)
        simp only [Act.put, List.setIfInBounds_toArray, List.set_cons_zero, List.set_cons_succ]
        refine anyZ_take 20 (v := ?_) rfl (by kernel_rfl) (by kernel_rfl) (by kernel_rfl) (by kernel_rfl) (fun _ _ _ h => h) hC (Or.inl ⟨by rfl, ?_⟩) ?_
        rotate_left
        · (intro wq hq; (try dsimp only at hq); go_simp; with_reducible rfl)
        simp only [Act.put, List.setIfInBounds_toArray, List.set_cons_zero, List.set_cons_succ]
        refine anyZ_take 21 (v := ?_) rfl (by kernel_rfl) (by kernel_rfl) (by kernel_rfl) (by kernel_rfl) (fun _ _ _ h => h) hC (Or.inl ⟨by rfl, ?_⟩) ?_
        rotate_left
        · (intro wq hq; (try dsimp only at hq); go_simp; with_reducible rfl)
        simp only [Act.put, List.setIfInBounds_toArray, List.set_cons_zero, List.set_cons_succ]
        refine anyZ_take 22 (v := ?_) rfl (by kernel_rfl) (by kernel_rfl) (by kernel_rfl) (by kernel_rfl) (fun _ _ _ h => h) hC (Or.inl ⟨by rfl, ?_⟩) ?_
        rotate_left
        · (intro wq hq; (try dsimp only at hq); go_simp; with_reducible rfl)
        simp only [Act.put, List.setIfInBounds_toArray, List.set_cons_zero, List.set_cons_succ]
        refine anyZ_take 23 (v := ?_) rfl (by kernel_rfl) (by kernel_rfl) (by kernel_rfl) (by kernel_rfl) (fun _ _ _ h => h) hC (Or.inl ⟨by rfl, ?_⟩) ?_
        rotate_left
        · (intro wq hq; (try dsimp only at hq); go_simp; with_reducible rfl)
        simp only [Act.put, List.setIfInBounds_toArray, List.set_cons_zero, List.set_cons_succ]
        refine anyZ_take 24 (v := ?_) rfl (by kernel_rfl) (by kernel_rfl) (by kernel_rfl) (by kernel_rfl) (fun _ _ _ h => h) hC (Or.inl ⟨by rfl, ?_⟩) ?_
        rotate_left
        · (intro wq hq; (try dsimp only at hq); go_simp; with_reducible rfl)
        simp only [Act.put, List.setIfInBounds_toArray, List.set_cons_zero, List.set_cons_succ]
        refine anyZ_take 25 (v := ?_) rfl (by kernel_rfl) (by kernel_rfl) (by kernel_rfl) (by kernel_rfl) (fun _ _ _ h => h) hC (Or.inl ⟨by rfl, ?_⟩) ?_
        rotate_left
        · (intro wq hq; (try dsimp only at hq); go_simp; with_reducible rfl)
        simp only [Act.put, List.setIfInBounds_toArray, List.set_cons_zero, List.set_cons_succ]
        refine anyZ_take 27 (v := ?_) rfl (by kernel_rfl) (by kernel_rfl) (by kernel_rfl) (by kernel_rfl) (fun _ _ _ h => h) hC (Or.inl ⟨by rfl, ?_⟩) ?_
        rotate_left
        · (intro wq hq; (try dsimp only at hq); go_simp; with_reducible rfl)
        simp only [Act.put, List.setIfInBounds_toArray, List.set_cons_zero, List.set_cons_succ]
        refine anyZ_take 28 (v := ?_) rfl (by kernel_rfl) (by kernel_rfl) (by kernel_rfl) (by kernel_rfl) (fun _ _ _ h => h) hC (Or.inl ⟨by rfl, ?_⟩) ?_
        rotate_left
        · (intro wq hq; (try dsimp only at hq); go_simp; with_reducible rfl)
        simp only [Act.put, List.setIfInBounds_toArray, List.set_cons_zero, List.set_cons_succ]
        refine anyZ_take 29 (v := ?_) rfl (by kernel_rfl) (by kernel_rfl) (by kernel_rfl) (by kernel_rfl) (fun _ _ _ h => h) hC (Or.inl ⟨by rfl, ?_⟩) ?_
        rotate_left
        · (intro wq hq; (try dsimp only at hq); go_simp; with_reducible rfl)
        simp only [Act.put, List.setIfInBounds_toArray, List.set_cons_zero, List.set_cons_succ]
        refine anyZ_take 30 (v := ?_) rfl (by kernel_rfl) (by kernel_rfl) (by kernel_rfl) (by kernel_rfl) (fun _ _ _ h => h) hC (Or.inl ⟨by rfl, ?_⟩) ?_
        rotate_left
        · (intro wq hq; (try dsimp only at hq); go_simp; with_reducible rfl)
        simp only [Act.put, List.setIfInBounds_toArray, List.set_cons_zero, List.set_cons_succ]
        refine anyZ_step 26 rfl (by kernel_rfl) (fun K hK => ?_)
        go_simp
        refine (bt_left (hB7.extNo hxd) hfr).mono ?_
        rintro e w8 ⟨rfl, hB8, hx8⟩
        have hC8 : (fun w' : World => w'.cell? ⟨b7, off7 + i * 3, none⟩ = some (.int .i64 2) ∧ w'.cell? ⟨b7, off7 + i * 3 + 1, none⟩ = some (.int .i64 o) ∧ w'.cell? ⟨b7, off7 + i * 3 + 2, none⟩ = some (.int .i64 2)) w8 := ⟨hx8.cell (w := w7.drew) x0 id, hx8.cell (w := w7.drew) x1 id, hx8.cell (w := w7.drew) x2 id⟩
        refine hK _ _ hC8 ?_
        clear hK K
        try simp only [Act.put, List.setIfInBounds_toArray, List.set_cons_zero, List.set_cons_succ]
        refine anyZ_take 31 (v := ?_) rfl (by kernel_rfl) (by kernel_rfl) (by kernel_rfl) (by kernel_rfl) (fun _ _ _ h => h) hC8 (Or.inl ⟨by rfl, ?_⟩) ?_
        rotate_left
        · (intro wq hq; (try dsimp only at hq); go_simp; with_reducible rfl)
        simp only [Act.put, List.setIfInBounds_toArray, List.set_cons_zero, List.set_cons_succ]
        refine anyZ_take 32 (v := ?_) rfl (by kernel_rfl) (by kernel_rfl) (by kernel_rfl) (by kernel_rfl) (fun _ _ _ h => h) hC8 (Or.inl ⟨by rfl, ?_⟩) ?_
        rotate_left
        · (intro wq hq; (try dsimp only at hq); go_simp; with_reducible rfl)
        simp only [Act.put, List.setIfInBounds_toArray, List.set_cons_zero, List.set_cons_succ]
        refine anyZ_done (by kernel_rfl) ?_ _
        have hR8 := (hR7.extNo hxd).extNo hx8
        clear hC hC8 hR7 hB7 x0 x1 x2 hx8 hx7 hx6 hx5 hx4
        have hz' := Lib.hid hz
        have hbg : Hid ((l.length : Int) ≤ 1024 ∧ i + z ≤ l.length) := by rw [← hz]; exact hbg0
        clear hne hee hdl hw2 hd1 hd1' hd2 hd3
        have hk0 : (nth l i).a = 0 := by rw [hnth]
        have hdh : ∀ d, d < z → headR l ((i + d : Nat) : Int) = i := fun d hd => head_in htab hrb hnth hoq hd hbg.out.2
        have hdh' := Lib.hid hdh
        clear hz hdh hwr hsh hwr2 hnth hfr hrb hva hnn hN hN1024 hc7 hcr hfb hat hlen ho ho2 hk hlt hod h1 h2 h3
        have hsh := shl_pw ho10
        have hwr := wrap_pw ho10
        have hwr2 : IntKind.i64.wrap (2 ^ o) = (z : Int) := by
          have e : (2 ^ o : Int) = ((pw o : Nat) : Int) := by unfold pw; norm_cast
          rw [e, hz'.out, IntKind.wrap_i64]; omega
        rw [hz'.out] at hsh hwr
        have hw1' := Lib.hid hw1
        have hwr' := Lib.hid hwr
        have hwr2' := Lib.hid hwr2
        go_wp2_with fail
        clear hw1 hwr hwr2
        go_loopg [16, 17, 18] z (fun g s16 s17 s18 wr => ∃ d : Nat, z - d ≤ g ∧ d ≤ z ∧ s16 = .int .i64 (i + d : Nat) ∧ BT w wr p v L2 ∧ RdT (OwnOf (.slice (some ⟨b8, off8, none⟩) l.length cr)) wr (.slice (some ⟨b8, off8, none⟩) l.length cr) l)
        case atStart => exact ⟨0, by omega, by omega, rfl, hB8, hR8⟩
        case round =>
          clear hB8 hR8
          obtain ⟨d, hg2, hdz, rfl, hB9, hR9⟩ := hrel
          obtain ⟨wy, hwy⟩ : ∃ wy, wr = wy := ⟨_, rfl⟩
          rw [hwy] at hB9 hR9 ⊢
          clear hwy
          have hg2' := Lib.hid hg2
          clear hg2
          by_cases hdlt : d < z
          · have hd5 : decide (((i + d : Nat) : Int) < (i : Int) + z) = true := decide_eq_true (by omega)
            have hd5' : decide (i + d < i + z) = true := decide_eq_true (by omega)
            have hdr := hdh'.out d hdlt
            obtain ⟨bb, ob, e, _, _, x0, x1, x2⟩ := hR9.at hil
            cases e
            rw [hk0] at x0
            obtain ⟨HE, hHE⟩ : ∃ HE, headE l ((i + d : Nat) : Int) = HE := ⟨_, rfl⟩
            obtain ⟨pg, hpg⟩ : ∃ pg, i + d = pg := ⟨_, rfl⟩
            rw [hpg] at hdr hHE hd5 hd5' ⊢
            have hw1 := hw1'.out
            have hwr := hwr'.out
            have hwr2 := hwr2'.out
            go_wp2_with fail
            clear hw1 hwr hwr2
            refine (head63_spec wy _ l _ hR9 (pg : Int)).mono ?_
            rintro e w9 ⟨rfl, hx9⟩
            rw [hdr, hHE]
            have y0 := hx9.cell x0 id
            clear x0 x1 x2
            have hB10 := hB9.extNo hx9
            have hR10 := hR9.extNo hx9
            clear hB9 hR9
            go_wp2_with fail
            refine (bring_spec w9 (i : Int) l.length (by omega) (by have := hbg.out.1; omega)).mono ?_
            rintro e w10 ⟨rfl, rfl⟩
            rw [hmod.out]
            go_wp2_with fail
            go_roundg (z - (d + 1))
            case measure => have := hg2'.out; omega
            case rel => exact ⟨d + 1, by omega, by omega, by rw [← hpg]; go_num, hB10, hR10⟩
          · have hd5 : decide (((i + d : Nat) : Int) < (i : Int) + z) = false := decide_eq_false (by omega)
            have hd5' : decide (i + d < i + z) = false := decide_eq_false (by omega)
            obtain ⟨pg, hpg⟩ : ∃ pg, i + d = pg := ⟨_, rfl⟩
            rw [hpg] at hd5 hd5' ⊢
            have hw1 := hw1'.out
            have hwr := hwr'.out
            have hwr2 := hwr2'.out
            go_wp2_with fail
            refine (works65_spec wy).mono ?_
            rintro e w9 ⟨rfl, hx9⟩
            go_wp2_with fail
            go_ret
            exact ⟨rfl, hB9.x.transNo hx9⟩
theorem buddyFull_walk (w : World) (pages : Int) (_ : (Lit.int .i64 pages).wf = true) (v : Value) (l : List T3) (hv : RdT (Iv 0 w.heap.size) w v l) (_ : l.length * 24 ≤ reachBytes ∧ ∀ x ∈ l, T3wf x) (order : Int) (_ : (Lit.int .i64 order).wf = true) :
    Calls Try.prog 18 #[.int .i64 pages, v, .int .i64 order] w fun e w' => e = .returned (.bool true) ∧ Below w.heap.size w w' :=
  (buddyFull_core w pages v l order _ hv).mono fun _ _ ⟨h1, h2⟩ => ⟨h1, h2.belowNo⟩
end Go.Proofs.Ytjkknjohmekeiaa
