/- Texts of ours, one behind the other (ZoneP, ZoneQ, ZoneR, ZoneS): each says in its own first lines what it proves. No condition. -/
import Derived.Test.YtjkknjohmekeiaaPackP
/- The law ZoneFull, walked. No condition. -/
namespace Go.Proofs.Ytjkknjohmekeiaa
open Go.RowKit

theorem So_nn : ∀ l, 0 ≤ So l
  | [] => Int.le_refl _
  | x :: r => by have := So_nn r; simp only [So]; omega
theorem wrap_two {o : Nat} (ho : o ≤ 10) : IntKind.i64.wrap (2 ^ o) = ((pw o : Nat) : Int) := by
  have e : (2 ^ o : Int) = ((pw o : Nat) : Int) := by unfold pw; norm_cast
  have := pw_le ho
  rw [e, IntKind.wrap_i64]; omega
theorem smB_zero (c : T3 → Int) : ∀ l : List T3, (∀ p ∈ l, c p = 0) → smB c l = 0
  | [], _ => rfl
  | p :: r, h => by simp only [smB]; rw [h p (List.mem_cons_self ..), smB_zero c r (fun q hq => h q (List.mem_cons_of_mem _ hq))]; rfl
theorem none_free {l : List T3} (h : BI l) (hb : leastL l 0 = none) : frS l = 0 := by
  have hall := (least_none 11 0 (by omega)).1 hb
  unfold frS
  refine smB_zero _ _ (fun p hp => ?_)
  obtain ⟨j, hj, rfl⟩ := List.mem_iff_getElem.1 hp
  rw [← nth_eq hj]
  unfold cFree
  split
  · next ha =>
    exfalso
    have ha : (nth l j).a = 0 := by simpa using ha
    have hr := hd_of_kind h.va hj (by rw [ha]; decide)
    obtain ⟨o, ho, he⟩ := free_head (h.va j hr hj).1 (by rw [ha]; decide)
    have hf : freeB l j o = true := free_is.2 ⟨hj, he⟩
    obtain ⟨_, _, hal, _⟩ := free_ok h.va hf
    have := hall o (by omega) ho
    have hm : j ∈ freesL l o 0 := mem_frees0.2 ⟨hal, hj, hf⟩
    rw [this] at hm; cases hm
  · rfl
theorem flat_nil {ll : List (List Int)} (h : ll.flatten = []) (c : Int) : listIn ll c = [] := by
  cases hi : inR ll c
  · exact (listIn_out hi).1
  · obtain ⟨e, hl, _⟩ := listIn_in hi
    rw [e]
    exact List.flatten_eq_nil_iff.1 h _ (nth_mem hl)
theorem zo_tag {l : List T3} {ll : List (List Int)} {D : Dm} {out : List PO} (h : ZO l ll.flatten D out) {x : PO} (hx : x ∈ out) :
    tB l ll x.p = true ∧ tH l ll x.p = x.p ∧ tO l ll x.p = x.o ∧ tC D l ll x.p = tagF D l x.p := by
  obtain ⟨h1, h2, h3, h4⟩ := (h.mem x).1 hx
  have hhas : hasIn ll x.p = false := by
    cases hh : hasIn ll x.p
    · rfl
    · exfalso
      unfold hasIn at hh
      obtain ⟨r, hr, hr2⟩ := List.any_eq_true.1 hh
      exact h4 (List.mem_flatten.2 ⟨r, hr, by simpa using hr2⟩)
  obtain ⟨i, e, hi, ha, hn, g1, g2, g3⟩ := zout_yes (ll := ll) (page := (x.p : Int)) h.zi.bi (by unfold zout; rw [outAt_iff.2 ⟨x.p, rfl, h1, h2⟩, hhas]; rfl)
  obtain rfl : x.p = i := by omega
  exact ⟨g1, g2, by rw [g3, h3], tC_is g1 (hd_out h.zi.bi.va h1 h2)⟩

set_option maxRecDepth 100000 in
set_option maxHeartbeats 6400000 in
theorem zoneFull_core (w : World) (pages : Int) (vd : Value) (ds : List Cl) (order : Int) (G : Nat → Prop) (hv : RdC G w vd ds) :
    Calls Try.prog 9 #[.int .i64 pages, vd, .int .i64 order] w fun e w' => e = .returned (.bool true) ∧ Ext No w w' := by
  obtain ⟨o, ho, ho2⟩ := modn order 11 (by decide)
  have ho10 : o ≤ 10 := by omega
  go_enter Try.func9, Try.ntmps9
  go_wp2_with fail
  refine (zplayed38_spec w pages vd ds G hv).mono ?_
  rintro e w1 ⟨z, Z, l, ll, D, n, vo, out, rfl, hB, _, hO, hl, hll, hn, _⟩
  have hmax : n < maxLen := by unfold maxLen; omega
  have hin : inR ll (0 : Nat) = true := by unfold inR; rw [decide_eq_true (by omega), decide_eq_true (by omega)]; rfl
  go_wp2_with fail
  refine (bring_spec w1 order 11 (by decide) (by decide)).mono ?_
  rintro e w2 ⟨rfl, rfl⟩
  rw [ho]
  have hs0 := hO.sum
  have hle := hO.zi.bi.le
  have hS0 := frS_bd hO.zi.bi
  obtain ⟨S, hS⟩ : ∃ S, frS l + (ll.flatten.length : Int) = S := ⟨_, rfl⟩
  have hlf := zt_left' hB hS
  have hP := zalloc_plain hO hin (o := o) (k := 5) ho10 (by decide)
  go_wp2_with fail
  refine hlf.mono ?_
  rintro e w3 ⟨rfl, hx3⟩
  have hB3 := hB.extNo hx3
  have hspec := zt_alloc hB3 hmax (0 : Nat) o 5
  obtain ⟨r, hr⟩ : ∃ r, zalloc l ll D (0 : Nat) o 5 = r := ⟨_, rfl⟩
  rw [hr] at hspec
  have hr' : zalloc l ll D (0 : Nat) o (5 : Nat) = r := hr
  rw [hr'] at hP
  clear hr hr' hlf hx3 hB hv hO
  go_wp2_with fail
  refine hspec.mono ?_
  rintro e w4 ⟨rfl, Z4, hB4, _⟩
  clear hspec hB3
  have hX4 := hB4.x
  by_cases he : r.e = 0
  · obtain ⟨p, hpx, hO4, htag⟩ := hP.yes he
    obtain ⟨t1, t2, t3, t4⟩ := zo_tag hO4 (x := PO.mk p o) (by simp)
    rw [htag] at t4
    have hsum := hO4.sum
    rw [So_app] at hsum
    simp only [So] at hsum
    rw [hP.len] at hsum
    have hleft : frS r.l + (r.ll.flatten.length : Int) = S - (pw o : Nat) := by omega
    have hpw := pw_le ho10
    have hpp := pw_pos o
    have hnn := frS_nn r.l
    have hson := So_nn out
    have hw2 : IntKind.i64.wrap (S - (pw o : Nat)) = S - (pw o : Nat) := by rw [IntKind.wrap_i64]; omega
    have hsh := shl_pw ho10
    have hwr := wrap_pw ho10
    have hwr2 := wrap_two ho10
    have hpB := hpx
    rw [hpx]
    have he0 : (r.e == 0) = true := by rw [he]; rfl
    have htg := zt_tag' hB4 (p : Int) t2 t3 t4 t1
    have hq1 : ((p : Int) == p) = true := beq_self_eq_true _
    have hq2 : ((o : Int) == o) = true := beq_self_eq_true _
    have hq3 : ((S - (pw o : Nat)) == (S - (pw o : Nat))) = true := beq_self_eq_true _
    obtain ⟨q, hq⟩ : ∃ q, pw o = q := ⟨_, rfl⟩
    rw [hq] at hw2 hsh hwr hwr2 hq3 hleft
    clear hnn hson
    clear hP hO4 hsum t1 t2 t3 t4 htag hpx hpw hpp hq hs0 hS hS0 hle
    have hw2' := Lib.hid hw2; have hwr' := Lib.hid hwr; have hwr2' := Lib.hid hwr2
    clear hw2 hwr hwr2
    go_wp2_with fail
    refine htg.mono ?_
    rintro e w5 ⟨rfl, hx5⟩
    obtain ⟨A, hA⟩ : ∃ A, w5.heap.size = A := ⟨_, rfl⟩
    obtain ⟨W, hW⟩ : ∃ W, w5.alloc (.cells #[.int .i64 p, .int .i64 o, .int .i64 5] 56) = W := ⟨_, rfl⟩
    have hX5 : Ext No w4 W := by rw [← hW]; exact hx5.alloc _
    have hA1 : Blk W A [.int .i64 p, .int .i64 o, .int .i64 5] 56 := by rw [← hW]; exact Blk.new' hA.symm
    have hB5 := hB4.extNo hX5
    have x0 := hA1.cell' (i := 0) rfl
    have x1 := hA1.cell' (i := 1) rfl
    have x2 := hA1.cell' (i := 2) rfl
    have hW' := Lib.hid hW; have hA' := Lib.hid hA
    clear hW hA hx5 htg hB4 hX5
    go_wp2_with fail
    rw [hW'.out, hA'.out]
    have hxd : Ext No W W.drew := (Ext.refl No W).drew
    have hw2 := hw2'.out; have hwr := hwr'.out; have hwr2 := hwr2'.out
    refine anyZ_begin 21 (fun w' => w'.cell? ⟨A, 0, none⟩ = some (.int .i64 p) ∧ w'.cell? ⟨A, 1, none⟩ = some (.int .i64 o) ∧ w'.cell? ⟨A, 2, none⟩ = some (.int .i64 5)) (by kernel_rfl) ?_
    have hC : (fun w' : World => w'.cell? ⟨A, 0, none⟩ = some (.int .i64 p) ∧ w'.cell? ⟨A, 1, none⟩ = some (.int .i64 o) ∧ w'.cell? ⟨A, 2, none⟩ = some (.int .i64 5)) W.drew := ⟨x0, x1, x2⟩
    refine anyZ_take 0 (v := ?_) rfl (by kernel_rfl) (by kernel_rfl) (by kernel_rfl) (by kernel_rfl) (fun _ _ _ h => h) hC (Or.inl ⟨by rfl, ?_⟩) ?_
    rotate_left
    · (intro wq hq; (try dsimp only at hq); go_simp; with_reducible rfl)
    simp only [Act.put, List.setIfInBounds_toArray, List.set_cons_zero, List.set_cons_succ]
    refine anyZ_take 1 (v := ?_) rfl (by kernel_rfl) (by kernel_rfl) (by kernel_rfl) (by kernel_rfl) (fun _ _ _ h => h) hC (Or.inl ⟨by rfl, ?_⟩) ?_
    rotate_left
    · (intro wq hq; (try dsimp only at hq); go_simp; with_reducible rfl)
    simp only [Act.put, List.setIfInBounds_toArray, List.set_cons_zero, List.set_cons_succ]
    refine anyZ_take 2 (v := ?_) rfl (by kernel_rfl) (by kernel_rfl) (by kernel_rfl) (by kernel_rfl) (fun _ _ _ h => h) hC (Or.inl ⟨by rfl, ?_⟩) ?_
    rotate_left
    · (intro wq hq; (try dsimp only at hq); go_simp; with_reducible rfl)
    simp only [Act.put, List.setIfInBounds_toArray, List.set_cons_zero, List.set_cons_succ]
    refine anyZ_take 3 (v := ?_) rfl (by kernel_rfl) (by kernel_rfl) (by kernel_rfl) (by kernel_rfl) (fun _ _ _ h => h) hC (Or.inl ⟨by rfl, ?_⟩) ?_
    rotate_left
    · (intro wq hq; (try dsimp only at hq); go_simp; with_reducible rfl)
    simp only [Act.put, List.setIfInBounds_toArray, List.set_cons_zero, List.set_cons_succ]
    refine anyZ_take 4 (v := ?_) rfl (by kernel_rfl) (by kernel_rfl) (by kernel_rfl) (by kernel_rfl) (fun _ _ _ h => h) hC (Or.inl ⟨by rfl, ?_⟩) ?_
    rotate_left
    · (intro wq hq; (try dsimp only at hq); go_simp; with_reducible rfl)
    simp only [Act.put, List.setIfInBounds_toArray, List.set_cons_zero, List.set_cons_succ]
    refine anyZ_take 5 (v := ?_) rfl (by kernel_rfl) (by kernel_rfl) (by kernel_rfl) (by kernel_rfl) (fun _ _ _ h => h) hC (Or.inl ⟨by rfl, ?_⟩) ?_
    rotate_left
    · (intro wq hq; (try dsimp only at hq); go_simp; with_reducible rfl)
    simp only [Act.put, List.setIfInBounds_toArray, List.set_cons_zero, List.set_cons_succ]
    refine anyZ_take 6 (v := ?_) rfl (by kernel_rfl) (by kernel_rfl) (by kernel_rfl) (by kernel_rfl) (fun _ _ _ h => h) hC (Or.inl ⟨by rfl, ?_⟩) ?_
    rotate_left
    · (intro wq hq; (try dsimp only at hq); go_simp; with_reducible rfl)
    simp only [Act.put, List.setIfInBounds_toArray, List.set_cons_zero, List.set_cons_succ]
    refine anyZ_take 7 (v := ?_) rfl (by kernel_rfl) (by kernel_rfl) (by kernel_rfl) (by kernel_rfl) (fun _ _ _ h => h) hC (Or.inl ⟨by rfl, ?_⟩) ?_
    rotate_left
    · (intro wq hq; (try dsimp only at hq); go_simp; with_reducible rfl)
    simp only [Act.put, List.setIfInBounds_toArray, List.set_cons_zero, List.set_cons_succ]
    refine anyZ_take 8 (v := ?_) rfl (by kernel_rfl) (by kernel_rfl) (by kernel_rfl) (by kernel_rfl) (fun _ _ _ h => h) hC (Or.inl ⟨by rfl, ?_⟩) ?_
    rotate_left
    · (intro wq hq; (try dsimp only at hq); go_simp; with_reducible rfl)
    simp only [Act.put, List.setIfInBounds_toArray, List.set_cons_zero, List.set_cons_succ]
    refine anyZ_take 9 (v := ?_) rfl (by kernel_rfl) (by kernel_rfl) (by kernel_rfl) (by kernel_rfl) (fun _ _ _ h => h) hC (Or.inl ⟨by rfl, ?_⟩) ?_
    rotate_left
    · (intro wq hq; (try dsimp only at hq); go_simp; with_reducible rfl)
    simp only [Act.put, List.setIfInBounds_toArray, List.set_cons_zero, List.set_cons_succ]
    refine anyZ_take 11 (v := ?_) rfl (by kernel_rfl) (by kernel_rfl) (by kernel_rfl) (by kernel_rfl) (fun _ _ _ h => h) hC (Or.inl ⟨by rfl, ?_⟩) ?_
    rotate_left
    · (intro wq hq; (try dsimp only at hq); go_simp; with_reducible rfl)
    simp only [Act.put, List.setIfInBounds_toArray, List.set_cons_zero, List.set_cons_succ]
    refine anyZ_take 12 (v := ?_) rfl (by kernel_rfl) (by kernel_rfl) (by kernel_rfl) (by kernel_rfl) (fun _ _ _ h => h) hC (Or.inl ⟨by rfl, ?_⟩) ?_
    rotate_left
    · (intro wq hq; (try dsimp only at hq); go_simp; with_reducible rfl)
    simp only [Act.put, List.setIfInBounds_toArray, List.set_cons_zero, List.set_cons_succ]
    refine anyZ_take 13 (v := ?_) rfl (by kernel_rfl) (by kernel_rfl) (by kernel_rfl) (by kernel_rfl) (fun _ _ _ h => h) hC (Or.inl ⟨by rfl, ?_⟩) ?_
    rotate_left
    · (intro wq hq; (try dsimp only at hq); go_simp; with_reducible rfl)
    simp only [Act.put, List.setIfInBounds_toArray, List.set_cons_zero, List.set_cons_succ]
    refine anyZ_take 14 (v := ?_) rfl (by kernel_rfl) (by kernel_rfl) (by kernel_rfl) (by kernel_rfl) (fun _ _ _ h => h) hC (Or.inl ⟨by rfl, ?_⟩) ?_
    rotate_left
    · (intro wq hq; (try dsimp only at hq); go_simp; with_reducible rfl)
    simp only [Act.put, List.setIfInBounds_toArray, List.set_cons_zero, List.set_cons_succ]
    refine anyZ_step 10 rfl (by kernel_rfl) (fun K hK => ?_)
    go_simp
    refine (zt_left' (hB5.extNo hxd) hleft).mono ?_
    rintro e w8 ⟨rfl, hx8⟩
    have hC8 : (fun w' : World => w'.cell? ⟨A, 0, none⟩ = some (.int .i64 p) ∧ w'.cell? ⟨A, 1, none⟩ = some (.int .i64 o) ∧ w'.cell? ⟨A, 2, none⟩ = some (.int .i64 5)) w8 := ⟨hx8.cell (w := W.drew) x0 id, hx8.cell (w := W.drew) x1 id, hx8.cell (w := W.drew) x2 id⟩
    refine hK _ _ hC8 ?_
    clear hK K
    try simp only [Act.put, List.setIfInBounds_toArray, List.set_cons_zero, List.set_cons_succ]
    refine anyZ_take 15 (v := ?_) rfl (by kernel_rfl) (by kernel_rfl) (by kernel_rfl) (by kernel_rfl) (fun _ _ _ h => h) hC8 (Or.inl ⟨by rfl, ?_⟩) ?_
    rotate_left
    · (intro wq hq; (try dsimp only at hq); go_simp; with_reducible rfl)
    simp only [Act.put, List.setIfInBounds_toArray, List.set_cons_zero, List.set_cons_succ]
    refine anyZ_take 16 (v := ?_) rfl (by kernel_rfl) (by kernel_rfl) (by kernel_rfl) (by kernel_rfl) (fun _ _ _ h => h) hC8 (Or.inl ⟨by rfl, ?_⟩) ?_
    rotate_left
    · (intro wq hq; (try dsimp only at hq); go_simp; with_reducible rfl)
    simp only [Act.put, List.setIfInBounds_toArray, List.set_cons_zero, List.set_cons_succ]
    refine anyZ_take 17 (v := ?_) rfl (by kernel_rfl) (by kernel_rfl) (by kernel_rfl) (by kernel_rfl) (fun _ _ _ h => h) hC8 (Or.inl ⟨by rfl, ?_⟩) ?_
    rotate_left
    · (intro wq hq; (try dsimp only at hq); go_simp; with_reducible rfl)
    simp only [Act.put, List.setIfInBounds_toArray, List.set_cons_zero, List.set_cons_succ]
    have hB8 := (hB5.extNo hxd).extNo hx8
    clear hw2 hwr hwr2
    refine anyZ_step 18 rfl (by kernel_rfl) (fun K hK => ?_)
    go_simp
    refine (works43_spec w8).mono ?_
    rintro e w9 ⟨rfl, hx9⟩
    have hC9 : (fun w' : World => w'.cell? ⟨A, 0, none⟩ = some (.int .i64 p) ∧ w'.cell? ⟨A, 1, none⟩ = some (.int .i64 o) ∧ w'.cell? ⟨A, 2, none⟩ = some (.int .i64 5)) w9 := ⟨hx9.cell hC8.1 id, hx9.cell hC8.2.1 id, hx9.cell hC8.2.2 id⟩
    refine hK _ _ hC9 ?_
    clear hK K
    try simp only [Act.put, List.setIfInBounds_toArray, List.set_cons_zero, List.set_cons_succ]
    refine anyZ_take 19 (v := ?_) rfl (by kernel_rfl) (by kernel_rfl) (by kernel_rfl) (by kernel_rfl) (fun _ _ _ h => h) hC9 (Or.inl ⟨by rfl, ?_⟩) ?_
    rotate_left
    · (intro wq hq; (try dsimp only at hq); go_simp; with_reducible rfl)
    simp only [Act.put, List.setIfInBounds_toArray, List.set_cons_zero, List.set_cons_succ]
    refine anyZ_take 20 (v := ?_) rfl (by kernel_rfl) (by kernel_rfl) (by kernel_rfl) (by kernel_rfl) (fun _ _ _ h => h) hC9 (Or.inl ⟨by rfl, ?_⟩) ?_
    rotate_left
    · (intro wq hq; (try dsimp only at hq); go_simp; with_reducible rfl)
    simp only [Act.put, List.setIfInBounds_toArray, List.set_cons_zero, List.set_cons_succ]
    refine anyZ_done (by kernel_rfl) ?_ _
    go_wp2_with fail
    go_ret
    exact ⟨rfl, hB8.x.transNo hx9⟩
  · obtain ⟨he7, hx0, hO4, hnil, hno⟩ := hP.no he
    have hlz := none_free hO4.zi.bi
    have hsum := hO4.sum
    rw [hP.len, hnil] at hsum
    simp only [List.length_nil] at hsum
    have hleft : frS r.l + (r.ll.flatten.length : Int) = S := by rw [hnil]; simp only [List.length_nil]; omega
    have hn0 : ((listIn r.ll 0).length : Int) = 0 := by rw [flat_nil hnil]; rfl
    have hn1 : ((listIn r.ll 1).length : Int) = 0 := by rw [flat_nil hnil]; rfl
    have hn2 : ((listIn r.ll 2).length : Int) = 0 := by rw [flat_nil hnil]; rfl
    have hoS : o = 0 → S = 0 := fun h0 => by
      subst h0
      have := hlz hno
      rw [hnil] at hleft; simp only [List.length_nil] at hleft; omega
    rw [he7, hx0]
    have hz1 := zt_left' hB4 hleft
    clear hP hO4 hsum hno hlz hnil hleft hs0 hS hS0 hle he he7
    go_wp2_with fail
    refine hz1.mono ?_
    rintro e w5 ⟨rfl, hx5⟩
    have hB5 := hB4.extNo hx5
    have hq3 : (S == S) = true := beq_self_eq_true _
    clear hz1 hx5 hB4
    go_wp2_with fail
    refine (zt_near' hB5 0 hn0).mono ?_
    rintro e w6 ⟨rfl, hx6⟩
    have hB6 := hB5.extNo hx6
    clear hx6 hB5
    go_wp2_with fail
    refine (zt_near' hB6 1 hn1).mono ?_
    rintro e w7 ⟨rfl, hx7⟩
    have hB7 := hB6.extNo hx7
    clear hx7 hB6
    go_wp2_with fail
    refine (zt_near' hB7 2 hn2).mono ?_
    rintro e w8 ⟨rfl, hx8⟩
    have hB8 := hB7.extNo hx8
    clear hx8 hB7
    by_cases h0 : o = 0
    · have hq4 : decide ((o : Int) > 0) = false := decide_eq_false (by omega)
      have hq4' : decide (0 < o) = false := decide_eq_false (by omega)
      have hS0 := hoS h0
      have hq5 : (S == 0) = true := by rw [beq_iff_eq]; exact hS0
      clear hoS
      go_wp2_with fail
      refine (works43_spec w8).mono ?_
      rintro e w9 ⟨rfl, hx9⟩
      go_wp2_with fail
      go_ret
      exact ⟨rfl, hB8.x.transNo hx9⟩
    · have hq4 : decide ((o : Int) > 0) = true := decide_eq_true (by omega)
      have hq4' : decide (0 < o) = true := decide_eq_true (by omega)
      clear hoS
      go_wp2_with fail
      refine (works43_spec w8).mono ?_
      rintro e w9 ⟨rfl, hx9⟩
      go_wp2_with fail
      go_ret
      exact ⟨rfl, hB8.x.transNo hx9⟩

theorem zoneFull_walk (w : World) (pages : Int) (_ : (Lit.int .i64 pages).wf = true) (v : Value) (l : List Cl) (hv : RdC (Iv 0 w.heap.size) w v l) (_ : l.length * 32 ≤ reachBytes ∧ ∀ x ∈ l, Clwf x) (order : Int) (_ : (Lit.int .i64 order).wf = true) :
    Calls Try.prog 9 #[.int .i64 pages, v, .int .i64 order] w fun e w' => e = .returned (.bool true) ∧ Below w.heap.size w w' :=
  (zoneFull_core w pages v l order _ hv).mono fun _ _ ⟨h1, h2⟩ => ⟨h1, h2.belowNo⟩
end Go.Proofs.Ytjkknjohmekeiaa
/- The law ZoneBack, walked. No condition. -/
namespace Go.Proofs.Ytjkknjohmekeiaa
open Go.RowKit

theorem wrap_same (x : Int) : IntKind.i64.wrap x = wrap64 x := by rw [IntKind.wrap_i64]; unfold wrap64; first | rfl | omega
theorem ZO.whole {l : List T3} {D : Dm} (h : ZO l [] D []) : l = full l.length ∧ frS l = l.length := by
  refine ⟨none_out h.zi.bi.va h.zi.bi.np (fun x hx ha => ?_), ?_⟩
  · obtain ⟨k, c, _, he⟩ := out_is h.zi.bi.va hx ha
    have := (h.mem ⟨x, k⟩).2 ⟨hx, ha, by rw [he], by simp⟩
    cases this
  · have := h.sum
    simp only [List.length_nil, So] at this; omega
theorem list_drain {ll : List (List Int)} {c : Nat} (h : c < ll.length) : listIn (drainL ll c) c = [] := by
  have hi : inR ll c = true := by unfold inR; rw [decide_eq_true (by omega), decide_eq_true (by omega)]; rfl
  have e : drainL ll c = ll.set (c : Int).toNat [] := by unfold drainL; rw [if_pos hi]
  rw [e]
  exact (listIn_set hi []).1
theorem nth_drain {ll : List (List Int)} {c j : Nat} (hj : j < ll.length) (h : nth ll j = [] ∨ j = c) : nth (drainL ll c) j = [] := by
  unfold drainL
  split
  · rw [Int.toNat_natCast]
    by_cases e : j = c
    · subst e; exact nth_set_eq _ hj
    · rw [nth_set_ne _ hj e]; exact h.resolve_right e
  · next hi =>
    rcases h with h | h
    · exact h
    · subst h
      exfalso; apply hi
      unfold inR; rw [decide_eq_true (by omega), decide_eq_true (by omega)]; rfl
theorem all_nil {ll : List (List Int)} (h : ∀ j, j < ll.length → nth ll j = []) : ll.flatten = [] := by
  rw [List.flatten_eq_nil_iff]
  intro x hx
  obtain ⟨j, hj, rfl⟩ := List.mem_iff_getElem.1 hx
  rw [← nth_eq hj]; exact h j hj
theorem zdrain_in {l : List T3} {ll : List (List Int)} {D : Dm} {c : Int} (hc : inR ll c = true) : zdrain l ll D c = ⟨backL l (listIn ll c), drainL ll c, D, 0, 0⟩ := by
  unfold zdrain; rw [if_neg (by rw [hc]; decide)]

set_option maxRecDepth 100000 in
set_option maxHeartbeats 6400000 in
theorem zoneBack_core (w : World) (pages : Int) (vd : Value) (ds : List Cl) (who : Int) (G : Nat → Prop) (hv : RdC G w vd ds) :
    Calls Try.prog 23 #[.int .i64 pages, vd, .int .i64 who] w fun e w' => e = .returned (.bool true) ∧ Ext No w w' := by
  go_enter Try.func23, Try.ntmps23
  go_wp2_with fail
  refine (works43_spec w).mono ?_
  rintro e w0 ⟨rfl, hx0⟩
  go_wp2_with fail
  refine (zplayed38_spec w0 pages vd ds G (Rd.extNo hv hx0)).mono ?_
  rintro e w1 ⟨z, Z, l, ll, D, n, vo, out, rfl, hB, hR, hO, hl, hll, hn, hol⟩
  obtain ⟨ao, co, rfl, hco⟩ := hR.val
  obtain ⟨m, hm, hm2⟩ := modn pages 150 (by decide)
  rw [hm] at hl
  clear hv hn
  go_wp2_with fail
  go_loopg [9] out.length (fun g i wr => ∃ (k : Nat) (Z : Nat → Prop) (l : List T3) (ll : List (List Int)) (D : Dm), k + g = out.length ∧ i = .int .i64 k ∧ ZT w0 wr z Z l ll D n ∧ Row2 w0 wr Z (.slice ao out.length co) out ∧ ZO l ll.flatten D (out.drop k) ∧ (l.length : Int) = 1 + m ∧ ll.length = 3)
  case atStart => exact ⟨0, Z, l, ll, D, by omega, rfl, hB, hR, hO, hl, hll⟩
  case round =>
    clear hB hR hO hl hll
    obtain ⟨k, Z, l, ll, D, hg, rfl, hB, hR, hO, hl, hll⟩ := hrel
    obtain ⟨wz, hwz⟩ : ∃ wz, wr = wz := ⟨_, rfl⟩
    rw [hwz] at hB hR ⊢
    clear hwz
    have hg' := Lib.hid hg
    have hkn : k ≤ out.length := by omega
    clear hg
    by_cases hlt : k < out.length
    · have hd : decide ((k : Int) < out.length) = true := decide_eq_true (by omega)
      obtain ⟨X, hX⟩ : ∃ X, IntKind.i64.wrap (who + k) = X := ⟨_, rfl⟩
      obtain ⟨cc, hcc, hcc2⟩ := modn X 3 (by decide)
      have hin : inR ll cc = true := by unfold inR; rw [decide_eq_true (by omega), decide_eq_true (by omega)]; rfl
      have hdrop : out.drop k = nth out k :: out.drop (k + 1) := drop_nth hlt
      rw [hdrop] at hO
      obtain ⟨he, hO2, hl2, hll2⟩ := zfree_plain hO hin
      have hxd : Ext No wz wz.drew := (Ext.refl No wz).drew
      have hspec := zt_free (hB.extNo hxd) cc ((nth out k).p : Nat)
      obtain ⟨r, hr⟩ : ∃ r, zfree l ll D cc ((nth out k).p : Nat) = r := ⟨_, rfl⟩
      rw [hr] at he hO2 hl2 hll2 hspec
      rw [he] at hspec
      obtain ⟨⟨base, hb1, hb2, hown⟩, hdis⟩ := id hR
      obtain ⟨bo, co', e, _, _, _, _, _, ⟨cj, _⟩, _, _⟩ := own2_at hown rfl hlt
      cases e
      clear hr hO he hown hdis hdrop
      have hX' := Lib.hid hX
      clear hX
      go_wp2_with fail
      refine anyZ_begin 12 (fun w' => w'.cell? ⟨bo, k * 2, none⟩ = some (.int .i64 ((nth out k).p : Nat))) (by kernel_rfl) ?_
      have hC : (fun w' : World => w'.cell? ⟨bo, k * 2, none⟩ = some (.int .i64 ((nth out k).p : Nat))) wz.drew := cj
      refine anyZ_take 0 (v := ?_) rfl (by kernel_rfl) (by kernel_rfl) (by kernel_rfl) (by kernel_rfl) (fun _ _ _ h => h) hC (Or.inl ⟨by rfl, ?_⟩) ?_
      rotate_left
      · (intro wq hq; (try dsimp only at hq); go_simp; with_reducible rfl)
      simp only [Act.put, List.setIfInBounds_toArray, List.set_cons_zero, List.set_cons_succ]
      refine anyZ_take 1 (v := ?_) rfl (by kernel_rfl) (by kernel_rfl) (by kernel_rfl) (by kernel_rfl) (fun _ _ _ h => h) hC (Or.inl ⟨by rfl, ?_⟩) ?_
      rotate_left
      · (intro wq hq; (try dsimp only at hq); go_simp; with_reducible rfl)
      simp only [Act.put, List.setIfInBounds_toArray, List.set_cons_zero, List.set_cons_succ]
      refine anyZ_take 2 (v := ?_) rfl (by kernel_rfl) (by kernel_rfl) (by kernel_rfl) (by kernel_rfl) (fun _ _ _ h => h) hC (Or.inl ⟨by rfl, ?_⟩) ?_
      rotate_left
      · (intro wq hq; (try dsimp only at hq); go_simp; with_reducible rfl)
      simp only [Act.put, List.setIfInBounds_toArray, List.set_cons_zero, List.set_cons_succ]
      refine anyZ_take 3 (v := ?_) rfl (by kernel_rfl) (by kernel_rfl) (by kernel_rfl) (by kernel_rfl) (fun _ _ _ h => h) hC (Or.inl ⟨by rfl, ?_⟩) ?_
      rotate_left
      · (intro wq hq; (try dsimp only at hq); go_simp; with_reducible rfl)
      simp only [Act.put, List.setIfInBounds_toArray, List.set_cons_zero, List.set_cons_succ]
      refine anyZ_take 5 (v := ?_) rfl (by kernel_rfl) (by kernel_rfl) (by kernel_rfl) (by kernel_rfl) (fun _ _ _ h => h) hC (Or.inl ⟨by rfl, ?_⟩) ?_
      rotate_left
      · (intro wq hq; (try dsimp only at hq); go_simp; with_reducible rfl)
      simp only [Act.put, List.setIfInBounds_toArray, List.set_cons_zero, List.set_cons_succ]
      refine anyZ_take 6 (v := ?_) rfl (by kernel_rfl) (by kernel_rfl) (by kernel_rfl) (by kernel_rfl) (fun _ _ _ h => h) hC (Or.inl ⟨by rfl, ?_⟩) ?_
      rotate_left
      · (intro wq hq; (try dsimp only at hq); go_simp; with_reducible rfl)
      simp only [Act.put, List.setIfInBounds_toArray, List.set_cons_zero, List.set_cons_succ]
      refine anyZ_take 7 (v := ?_) rfl (by kernel_rfl) (by kernel_rfl) (by kernel_rfl) (by kernel_rfl) (fun _ _ _ h => h) hC (Or.inl ⟨by rfl, ?_⟩) ?_
      rotate_left
      · (intro wq hq; (try dsimp only at hq); go_simp; with_reducible rfl)
      simp only [Act.put, List.setIfInBounds_toArray, List.set_cons_zero, List.set_cons_succ]
      refine anyZ_take 8 (v := ?_) rfl (by kernel_rfl) (by kernel_rfl) (by kernel_rfl) (by kernel_rfl) (fun _ _ _ h => h) hC (Or.inl ⟨by rfl, ?_⟩) ?_
      rotate_left
      · (intro wq hq; (try dsimp only at hq); go_simp; with_reducible rfl)
      simp only [Act.put, List.setIfInBounds_toArray, List.set_cons_zero, List.set_cons_succ]
      refine anyZ_take 9 (v := ?_) rfl (by kernel_rfl) (by kernel_rfl) (by kernel_rfl) (by kernel_rfl) (fun _ _ _ h => h) hC (Or.inl ⟨by rfl, ?_⟩) ?_
      rotate_left
      · (intro wq hq; (try dsimp only at hq); go_simp; with_reducible rfl)
      simp only [Act.put, List.setIfInBounds_toArray, List.set_cons_zero, List.set_cons_succ]
      refine anyZ_step 4 rfl (by kernel_rfl) (fun K hK => ?_)
      go_simp
      have hXw : wrap64 (who + k) = X := by rw [← wrap_same]; exact hX'.out
      first | rw [hX'.out] | rw [hXw]
      clear hXw
      refine (bring_spec wz.drew X 3 (by decide) (by decide)).mono ?_
      rintro e w2 ⟨rfl, rfl⟩
      rw [hcc]
      refine hK _ _ hC ?_
      clear hK K
      try simp only [Act.put, List.setIfInBounds_toArray, List.set_cons_zero, List.set_cons_succ]
      refine anyZ_step 10 rfl (by kernel_rfl) (fun K hK => ?_)
      go_simp
      refine hspec.mono ?_
      rintro e w3 ⟨rfl, Z3, hB3, hM3⟩
      have hM3' : Mv wz Z w3 Z3 := (Mv.no hxd Z).trans hM3
      have hR3 := hR.move hM3'
      have hC3 : (fun w' : World => w'.cell? ⟨bo, k * 2, none⟩ = some (.int .i64 ((nth out k).p : Nat))) w3 := by
        obtain ⟨⟨base, hb1, hb2, hown⟩, hdis⟩ := hR3
        obtain ⟨bo9, co9, e, _, _, _, _, _, ⟨cj9, _⟩, _, _⟩ := own2_at hown rfl hlt
        cases e
        exact cj9
      refine hK _ _ hC3 ?_
      clear hK K
      try simp only [Act.put, List.setIfInBounds_toArray, List.set_cons_zero, List.set_cons_succ]
      refine anyZ_take 11 (v := ?_) rfl (by kernel_rfl) (by kernel_rfl) (by kernel_rfl) (by kernel_rfl) (fun _ _ _ h => h) hC3 (Or.inl ⟨by rfl, ?_⟩) ?_
      rotate_left
      · (intro wq hq; (try dsimp only at hq); go_simp; with_reducible rfl)
      simp only [Act.put, List.setIfInBounds_toArray, List.set_cons_zero, List.set_cons_succ]
      refine anyZ_done (by kernel_rfl) ?_ _
      clear hC hC3 hB hR hM3 hM3' hspec cj hX'
      go_wp2_with fail
      go_roundg (out.length - (k + 1))
      case measure => have := hg'.out; omega
      case rel => exact ⟨k + 1, Z3, _, _, _, by omega, by go_num, hB3, hR3, hO2, by omega, by omega⟩
    · have hd : decide ((k : Int) < out.length) = false := decide_eq_false (by omega)
      obtain rfl : k = out.length := by omega
      rw [List.drop_length] at hO
      clear hR
      go_wp2_with fail
      go_loopg [10] 3 (fun g i wr => ∃ (c : Nat) (Z : Nat → Prop) (l : List T3) (ll : List (List Int)) (D : Dm), c + g = 3 ∧ i = .int .i64 c ∧ ZT w0 wr z Z l ll D n ∧ ZO l ll.flatten D [] ∧ (l.length : Int) = 1 + m ∧ ll.length = 3 ∧ ∀ j, j < c → nth ll j = [])
      case atStart => exact ⟨0, Z, l, ll, D, by omega, rfl, hB, hO, hl, hll, fun j hj => by omega⟩
      case round =>
        clear hB hO hl hll
        obtain ⟨c, Z, l, ll, D, hg, rfl, hB, hO, hl, hll, hnil⟩ := hrel
        obtain ⟨wy, hwy⟩ : ∃ wy, wr = wy := ⟨_, rfl⟩
        rw [hwy] at hB ⊢
        clear hwy
        have hg' := Lib.hid hg
        have hcn : c ≤ 3 := by omega
        clear hg
        by_cases hlt2 : c < 3
        · have hd3 : decide ((c : Int) < 3) = true := decide_eq_true (by omega)
          have hin : inR ll c = true := by unfold inR; rw [decide_eq_true (by omega), decide_eq_true (by omega)]; rfl
          have h6 := (hB.ok.list c).1
          have hq6 : decide ((((listIn ll c).length : Nat) : Int) > 6) = false := decide_eq_false (by omega)
          have hq6' : decide (6 < (listIn ll c).length) = false := decide_eq_false (by omega)
          obtain ⟨_, hO2, hl2, hll2⟩ := zdrain_plain hO hin
          have e1 := zdrain_in (l := l) (D := D) hin
          have hnil2 : ∀ j, j < c + 1 → nth (drainL ll c) j = [] := fun j hj => nth_drain (by omega) (by
            by_cases e : j = c
            · exact .inr e
            · exact .inl (hnil j (by omega)))
          have hlast : ((listIn (drainL ll c) c).length : Int) = 0 := by rw [list_drain (by omega)]; rfl
          rw [e1] at hO2 hl2 hll2
          obtain ⟨N, hN⟩ : ∃ N, (listIn ll c).length = N := ⟨_, rfl⟩
          rw [hN] at hq6 hq6'
          have hnr := zt_near' hB (c : Int) (N := (N : Int)) (by rw [hN])
          have hnil2' := Lib.hid hnil2
          try dsimp only at hO2 hl2 hll2
          clear hN hnil hnil2 h6 hO
          go_wp2_with fail
          refine hnr.mono ?_
          rintro e w4 ⟨rfl, hx4⟩
          have hB4 := hB.extNo hx4
          have hspec := zt_drain hB4 (c : Int)
          rw [e1] at hspec
          clear hnr hB hx4 e1
          go_wp2_with fail
          refine hspec.mono ?_
          rintro e w5 ⟨rfl, Z5, hB5, hM5⟩
          try dsimp only at hB5
          clear hspec hB4 hM5
          go_wp2_with fail
          refine (zt_near' hB5 (c : Int) hlast).mono ?_
          rintro e w6 ⟨rfl, hx6⟩
          have hB6 := hB5.extNo hx6
          clear hB5 hx6 hlast
          go_wp2_with fail
          go_roundg (3 - (c + 1))
          case measure => have := hg'.out; omega
          case rel => exact ⟨c + 1, Z5, _, _, _, by omega, by go_num, hB6, hO2, by omega, by omega, hnil2'.out⟩
        · have hd3 : decide ((c : Int) < 3) = false := decide_eq_false (by omega)
          have hfl : ll.flatten = [] := all_nil (fun j hj => hnil j (by omega))
          rw [hfl] at hO
          obtain ⟨hw1, hw2⟩ := hO.whole
          have hwh := zt_whole' hB (B := true) (decide_eq_true hw1)
          have hlf : frS l + (ll.flatten.length : Int) = 1 + (m : Int) := by rw [hfl, hw2, hl]; simp
          have hwm : IntKind.i64.wrap (1 + (m : Int)) = 1 + (m : Int) := by rw [IntKind.wrap_i64]; omega
          have hq : ((1 + (m : Int)) == (1 + (m : Int))) = true := beq_self_eq_true _
          clear hw1 hw2 hnil hfl hO
          go_wp2_with fail
          refine hwh.mono ?_
          rintro e w4 ⟨rfl, hx4⟩
          have hB4 := hB.extNo hx4
          go_wp2_with fail
          refine (zt_left' hB4 hlf).mono ?_
          rintro e w5 ⟨rfl, hx5⟩
          have hB5 := hB4.extNo hx5
          clear hwh hx4 hx5 hB4 hB hlf
          go_wp2_with fail
          refine (bring_spec w5 pages 150 (by decide) (by decide)).mono ?_
          rintro e w6 ⟨rfl, rfl⟩
          rw [hm]
          go_wp2_with fail
          go_ret
          exact ⟨rfl, hx0.transNo hB5.x⟩

theorem zoneBack_walk (w : World) (pages : Int) (_ : (Lit.int .i64 pages).wf = true) (v : Value) (l : List Cl) (hv : RdC (Iv 0 w.heap.size) w v l) (_ : l.length * 32 ≤ reachBytes ∧ ∀ x ∈ l, Clwf x) (who : Int) (_ : (Lit.int .i64 who).wf = true) :
    Calls Try.prog 23 #[.int .i64 pages, v, .int .i64 who] w fun e w' => e = .returned (.bool true) ∧ Below w.heap.size w w' :=
  (zoneBack_core w pages v l who _ hv).mono fun _ _ ⟨h1, h2⟩ => ⟨h1, h2.belowNo⟩
end Go.Proofs.Ytjkknjohmekeiaa
/- The law ZoneStands, walked. No condition. -/
namespace Go.Proofs.Ytjkknjohmekeiaa
open Go.RowKit

theorem zzero73 : Try.zeroCells73 = ((ind []).map int).toArray := by
  rw [ind_nil]
  simp only [List.map_replicate]
  kernel_rfl
theorem zind_cell {w : World} {b : Nat} {S : List Int} (h : Blk w b ((ind S).map int) 73) {k : Nat} (hk : k < 1024) (v : Int) (hv : (if (k : Int) ∈ S then (1 : Int) else 0) = v) : w.cell? ⟨b, k, none⟩ = some (.int .i64 v) := by
  subst hv
  apply h.cell'
  rw [List.getElem?_map, nth_some (by rw [ind_len]; exact hk), ind_get S hk]; rfl
theorem zind_store1 {w : World} {b : Nat} {S : List Int} (h : Blk w b ((ind S).map int) 73) (k : Nat) : Blk (w.setCell ⟨b, k, none⟩ (.int .i64 1)) b ((ind ((k : Int) :: S)).map int) 73 := by
  have := h.set k (int 1)
  rw [← List.map_set, ind_set1] at this
  exact this

/-- A zone, what is out of it, and an array of pages that were met. -/
structure SD (w0 wr : World) (A z : Nat) (Z : Nat → Prop) (l : List T3) (ll : List (List Int)) (D : Dm) (n : Nat) (vo : Value) (out : List PO) (S : List Int) : Prop where
  b : ZT w0 wr z Z l ll D n
  r : Row2 w0 wr Z vo out
  a : Blk wr A ((ind S).map int) 73
  a1 : ¬ Z A
  a2 : ¬ OwnOf vo A
  a3 : w0.heap.size ≤ A
section
variable {w0 w w' : World} {A z n : Nat} {Z : Nat → Prop} {l : List T3} {ll : List (List Int)} {D : Dm} {vo : Value} {out : List PO} {S : List Int}
theorem SD.extNo (h : SD w0 w A z Z l ll D n vo out S) (hx : Ext No w w') : SD w0 w' A z Z l ll D n vo out S :=
  ⟨h.b.extNo hx, h.r.extNo hx, h.a.extNo hx, h.a1, h.a2, h.a3⟩
theorem SD.store (h : SD w0 w A z Z l ll D n vo out S) (k : Nat) : SD w0 (w.setCell ⟨A, k, none⟩ (.int .i64 1)) A z Z l ll D n vo out ((k : Int) :: S) := by
  have hx : Ext (One A) w (w.setCell ⟨A, k, none⟩ (.int .i64 1)) := Ext.set1 _ _ _ _
  obtain ⟨⟨base, h1, h2, h3⟩, h4⟩ := h.r
  exact ⟨h.b.ext hx (fun x hz (e : x = A) => h.a1 (e ▸ hz)) (fun x (e : x = A) => by rw [e]; exact h.a3),
    ⟨⟨base, h1, Nat.le_trans h2 hx.size, ownsRow_ext h3 hx (fun x hx (e : x = A) => h.a2 (e ▸ hx))⟩, h4⟩, zind_store1 h.a k, h.a1, h.a2, h.a3⟩
end
def Cov (out : List PO) (i x : Nat) : Prop := ∃ j, j < i ∧ (nth out j).p ≤ x ∧ x < (nth out j).p + pw (nth out j).o
theorem cov_next {out : List PO} {i x : Nat} : Cov out (i + 1) x ↔ Cov out i x ∨ ((nth out i).p ≤ x ∧ x < (nth out i).p + pw (nth out i).o) := by
  constructor
  · rintro ⟨j, h1, h2⟩
    by_cases e : j = i
    · subst e; exact .inr h2
    · exact .inl ⟨j, by omega, h2⟩
  · rintro (⟨j, h1, h2⟩ | h)
    · exact ⟨j, by omega, h2⟩
    · exact ⟨i, by omega, h⟩
section
variable {l : List T3} {ll : List (List Int)} {D : Dm} {out : List PO}
/-- The pages of a block that is out. -/
theorem zo_in {N : List Int} (h : ZO l N D out) {x : PO} (hx : x ∈ out) {k : Nat} (h1 : x.p ≤ k) (h2 : k < x.p + pw x.o) : k < l.length ∧ Hd l k x.p ∧ x.o ≤ 10 ∧ x.p + pw x.o ≤ l.length := by
  obtain ⟨g1, g2, g3, _⟩ := (h.mem x).1 hx
  have hr := hd_of_kind h.zi.bi.va g1 (by rw [g2]; decide)
  have hok := h.zi.bi.va _ hr g1
  have hs : sz (nth l x.p) = pw x.o := by unfold sz pw; rw [g3]; rfl
  have hb := headB_range hok.1
  have hf := hok.2.2.1
  rw [hs] at hf
  exact ⟨by omega, ⟨hr, h1, by rw [hs]; exact h2⟩, by omega, hf⟩
theorem zo_all {N : List Int} (h : ZO l N D out) {x : PO} (hx : x ∈ out) : x.o ≤ 10 ∧ x.p + pw x.o ≤ l.length := by
  have := zo_in h hx (k := x.p) (Nat.le_refl _) (by have := pw_pos x.o; omega)
  exact ⟨this.2.2.1, this.2.2.2⟩
theorem zo_tagin (h : ZO l ll.flatten D out) {x : PO} (hx : x ∈ out) {k : Nat} (h1 : x.p ≤ k) (h2 : k < x.p + pw x.o) : tB l ll k = true ∧ tH l ll k = x.p ∧ tO l ll k = x.o := by
  obtain ⟨hk, hd, _⟩ := zo_in h hx h1 h2
  obtain ⟨g1, g2, g3, g4⟩ := (h.mem x).1 hx
  have hf := headF_eq h.zi.bi.va hk hd
  have hhas : hasIn ll x.p = false := by
    cases hh : hasIn ll x.p
    · rfl
    · exfalso
      unfold hasIn at hh
      obtain ⟨r, hr, hr2⟩ := List.any_eq_true.1 hh
      exact g4 (List.mem_flatten.2 ⟨r, hr, by simpa using hr2⟩)
  have hb : tB l ll k = true := by unfold tB; rw [in_nat hk, hf, Int.toNat_natCast, decide_eq_true g2, hhas]; rfl
  exact ⟨hb, by unfold tH; rw [hb, hf]; rfl, by unfold tO; rw [hb, hf, Int.toNat_natCast, g3]; rfl⟩
theorem zo_apart {N : List Int} (h : ZO l N D out) {i j x : Nat} (hi : i < out.length) (hj : j < out.length) (h1 : (nth out i).p ≤ x) (h2 : x < (nth out i).p + pw (nth out i).o) (h3 : (nth out j).p ≤ x) (h4 : x < (nth out j).p + pw (nth out j).o) : i = j := by
  obtain ⟨_, d1, _⟩ := zo_in h (nth_mem hi) h1 h2
  obtain ⟨_, d2, _⟩ := zo_in h (nth_mem hj) h3 h4
  have e := d1.uniq d2
  have m1 := (h.mem _).1 (nth_mem hi)
  have m2 := (h.mem _).1 (nth_mem hj)
  have eo : (nth out i).o = (nth out j).o := by
    have a := m1.2.2.1; have b := m2.2.2.1
    rw [e] at a; omega
  have : nth out i = nth out j := by
    cases hx : nth out i; cases hy : nth out j
    rw [hx] at e eo; rw [hy] at e eo
    simp only at e eo; rw [e, eo]
  rw [nth_eq hi, nth_eq hj] at this
  exact (List.getElem_inj h.nd).1 this
theorem zo_tagcov (h : ZO l ll.flatten D out) {k : Nat} (hk : k < l.length) : tB l ll k = true ↔ Cov out out.length k := by
  constructor
  · intro hb
    obtain ⟨hh, hd⟩ := hd_ex h.zi.bi.va hk
    have hf := headF_eq h.zi.bi.va hk hd
    unfold tB at hb
    rw [hf, Int.toNat_natCast] at hb
    simp only [Bool.and_eq_true, Bool.not_eq_true', decide_eq_true_eq] at hb
    obtain ⟨_, ha, hn⟩ := hb
    have hl := hd.hlt hk
    obtain ⟨o, c, _, he⟩ := out_is h.zi.bi.va hl ha
    have hnm : (hh : Int) ∉ ll.flatten := by
      intro hm
      obtain ⟨r, hr, hr2⟩ := List.mem_flatten.1 hm
      have : hasIn ll hh = true := by unfold hasIn; exact List.any_eq_true.2 ⟨r, hr, by simpa using hr2⟩
      rw [hn] at this; cases this
    have hx := (h.mem ⟨hh, o⟩).2 ⟨hl, ha, by rw [he], hnm⟩
    obtain ⟨j, hj, hje⟩ := List.mem_iff_getElem.1 hx
    refine ⟨j, hj, ?_⟩
    rw [nth_eq hj, hje]
    have := hd.lt
    rw [he, sz_mk] at this
    exact ⟨hd.le, this⟩
  · rintro ⟨j, hj, h1, h2⟩
    exact (zo_tagin h (nth_mem hj) h1 h2).1
theorem So_take : ∀ (out : List PO) (i : Nat), So (out.take i) ≤ So out
  | [], i => by simp [So]
  | x :: r, 0 => by have := So_nn (x :: r); simpa [So] using this
  | x :: r, i + 1 => by have := So_take r i; simp only [List.take_succ_cons, So]; omega
theorem So_next {out : List PO} {i : Nat} (h : i < out.length) : So (out.take (i + 1)) = So (out.take i) + (pw (nth out i).o : Nat) := by
  rw [take_nth h, So_app]; simp [So]
end
end Go.Proofs.Ytjkknjohmekeiaa
/- The law ZoneStands: its walk. No condition. -/
namespace Go.Proofs.Ytjkknjohmekeiaa
open Go.RowKit

theorem wrap_ok {x : Int} (h0 : 0 ≤ x) (h1 : x < 4611686018427387904) : IntKind.i64.wrap x = x := by rw [IntKind.wrap_i64]; omega
set_option maxRecDepth 100000 in
set_option maxHeartbeats 6400000 in
theorem zoneStands_core (w : World) (pages : Int) (vd : Value) (ds : List Cl) (G : Nat → Prop) (hv : RdC G w vd ds) :
    Calls Try.prog 22 #[.int .i64 pages, vd] w fun e w' => e = .returned (.bool true) ∧ Ext No w w' := by
  obtain ⟨m, hm, hm2⟩ := modn pages 150 (by decide)
  go_enter Try.func22, Try.ntmps22
  go_wp2_with fail
  refine (zplayed38_spec w pages vd ds G hv).mono ?_
  rintro e w1 ⟨z, Z, l, ll, D, n, vo, out, rfl, hB, hR, hO, hl, hll, hn, hol⟩
  rw [hm] at hl
  have hw1 : IntKind.i64.wrap (1 + (m : Int)) = ((1 + m : Nat) : Int) := by rw [IntKind.wrap_i64]; omega
  go_wp2_with fail
  refine (bring_spec w1 pages 150 (by decide) (by decide)).mono ?_
  rintro e w2 ⟨rfl, rfl⟩
  rw [hm]
  have hsum := hO.sum
  have hS0 := frS_bd hO.zi.bi
  have hson := So_nn out
  have htk : ∀ i, So (out.take i) ≤ So out ∧ 0 ≤ So (out.take i) := fun i => ⟨So_take out i, So_nn _⟩
  obtain ⟨T, hT⟩ : ∃ T, frS l + (ll.flatten.length : Int) = T := ⟨_, rfl⟩
  have hT0 : 0 ≤ T ∧ T + So out = 1 + m := by omega
  have hlf := zt_left' (hB.extNo ((Ext.refl No w1).alloc (.cells Try.zeroCells73 73))) hT
  have hA0 : SD w (w1.alloc (.cells Try.zeroCells73 73)) w1.heap.size z Z l ll D n vo out [] := by
    have hx : Ext No w1 (w1.alloc (.cells Try.zeroCells73 73)) := (Ext.refl _ _).alloc _
    refine ⟨hB.extNo hx, hR.extNo hx, by rw [zzero73]; exact Blk.new' rfl, fun h => by have := hB.lt _ h; omega, fun h => ?_, hB.x.size⟩
    obtain ⟨⟨base, _, _, h3⟩, _⟩ := hR
    have := (h3.lt _ h).2; omega
  obtain ⟨A, hA⟩ : ∃ A, w1.heap.size = A := ⟨_, rfl⟩
  obtain ⟨W, hW⟩ : ∃ W, w1.alloc (.cells Try.zeroCells73 73) = W := ⟨_, rfl⟩
  rw [hW] at hlf hA0
  rw [hA] at hA0
  have hA' := Lib.hid hA; have hW' := Lib.hid hW
  clear hA hW hB hR hv hsum hS0 hT
  go_wp2_with fail
  rw [hW'.out, hA'.out]
  refine hlf.mono ?_
  rintro e w3 ⟨rfl, hx3⟩
  have hA3 := hA0.extNo hx3
  obtain ⟨av, cv, rfl, hcv⟩ := hA3.r.val
  have hcov0 : ∀ x : Nat, (x : Int) ∈ ([] : List Int) ↔ Cov out 0 x := fun x => by
    constructor
    · intro h; cases h
    · rintro ⟨j, hj, _⟩; omega
  clear hlf hx3 hA0 hw1
  obtain ⟨al, hal⟩ : ∃ al, 1 + m = al := ⟨_, rfl⟩
  have hl : l.length = al := by omega
  have hT1 : T + So out = al := by omega
  have hT0 := hT0.1
  have hal150 : al ≤ 150 := by omega
  have hal2 : (1 : Int) + (m : Int) = (al : Int) := by omega
  rw [hal2]
  clear hm hm2 hal hal2
  go_wp2_with fail
  go_loopg [9, 10] out.length (fun g s i wr => ∃ (k : Nat) (S : List Int), k + g = out.length ∧ s = .int .i64 (T + So (out.take k)) ∧ i = .int .i64 k ∧ SD w wr A z Z l ll D n (.slice av out.length cv) out S ∧ ∀ x : Nat, (x : Int) ∈ S ↔ Cov out k x)
  case atStart => exact ⟨0, [], by omega, by simp [So], rfl, hA3, hcov0⟩
  case round =>
    clear hA3 hcov0
    obtain ⟨k, S, hg, rfl, rfl, hA3, hcov⟩ := hrel
    obtain ⟨wz, hwz⟩ : ∃ wz, wr = wz := ⟨_, rfl⟩
    rw [hwz] at hA3 ⊢
    clear hwz
    have hg' := Lib.hid hg
    have hkn : k ≤ out.length := by omega
    clear hg
    by_cases hlt : k < out.length
    · have hd : decide ((k : Int) < out.length) = true := decide_eq_true (by omega)
      obtain ⟨ho10, hfit⟩ := zo_all hO (nth_mem hlt)
      have hso := htk (k + 1)
      have hnx := So_next hlt
      have hson1 := (htk k).2
      rw [hl] at hfit
      have htag : ∀ d : Nat, d < pw (nth out k).o → tB l ll ((nth out k).p + d : Nat) = true ∧ tH l ll ((nth out k).p + d : Nat) = (nth out k).p ∧ tO l ll ((nth out k).p + d : Nat) = (nth out k).o := fun d hd => zo_tagin hO (nth_mem hlt) (by omega) (by omega)
      have hnew : ∀ d : Nat, d < pw (nth out k).o → ¬ Cov out k ((nth out k).p + d) := fun d hd hc => by
        obtain ⟨j, h1, h2, h3⟩ := hc
        have := zo_apart hO (i := j) (j := k) (by omega) hlt h2 h3 (by omega) (by omega)
        omega
      have hcn : ∀ x : Nat, Cov out (k + 1) x ↔ Cov out k x ∨ ((nth out k).p ≤ x ∧ x < (nth out k).p + pw (nth out k).o) := fun x => cov_next
      obtain ⟨⟨base, _, _, hown⟩, _⟩ := hA3.r
      obtain ⟨bo, co, e, _, _, _, _, _, ⟨c0, c1⟩, _, _⟩ := own2_at hown rfl hlt
      cases e
      clear hown
      obtain ⟨p, hp⟩ : ∃ p, (nth out k).p = p := ⟨_, rfl⟩
      obtain ⟨o, hoo⟩ : ∃ o, (nth out k).o = o := ⟨_, rfl⟩
      have hcell : ∀ w', Row2 w w' Z (.slice (some ⟨bo, 0, none⟩) out.length cv) out → w'.cell? ⟨bo, k * 2, none⟩ = some (.int .i64 p) ∧ w'.cell? ⟨bo, k * 2 + 1, none⟩ = some (.int .i64 o) := by
        intro w' hr
        obtain ⟨⟨base, _, _, hown⟩, _⟩ := hr
        obtain ⟨bo9, co9, e, _, _, _, _, _, hc9, _, _⟩ := own2_at hown rfl hlt
        cases e
        rw [hp, hoo] at hc9
        exact hc9
      rw [hp] at c0 htag hnew hcn hfit
      rw [hoo] at c1 htag hnew hcn hfit ho10 hnx
      have hqp := pw_pos o
      have hpl := pw_le ho10
      obtain ⟨q, hq⟩ : ∃ q, pw o = q := ⟨_, rfl⟩
      rw [hq] at htag hnew hcn hfit hnx hqp hpl
      have hsum2 : IntKind.i64.wrap (T + So (out.take k) + (q : Int)) = T + So (out.take (k + 1)) := by rw [hnx]; rw [wrap_ok (by omega) (by omega)]; omega
      have hpq : IntKind.i64.wrap ((p : Int) + q) = (p : Int) + q := wrap_ok (by omega) (by omega)
      have hsh := shl_pw ho10
      have hwr := wrap_pw ho10
      have hwr2 := wrap_two ho10
      rw [hq] at hsh hwr hwr2
      obtain ⟨T2, hT2⟩ : ∃ T2, T + So (out.take (k + 1)) = T2 := ⟨_, rfl⟩
      rw [hT2] at hsum2
      obtain ⟨T1, hT1'⟩ : ∃ T1, T + So (out.take k) = T1 := ⟨_, rfl⟩
      rw [hT1'] at hsum2 ⊢
      have hT2' := Lib.hid hT2
      have htag' := Lib.hid htag; have hnew' := Lib.hid hnew; have hcn' := Lib.hid hcn; have hcov' := Lib.hid hcov; have hcell' := Lib.hid hcell
      have hpq' := Lib.hid hpq; have hwr' := Lib.hid hwr; have hwr2' := Lib.hid hwr2
      clear htag hnew hcn hcov hcell hT2 hT1' hp hoo hq hnx hso hson1 hpq
      go_upto_region 10 with (fail)
      obtain ⟨wy, hwy⟩ : ∃ wy, wz = wy := ⟨_, rfl⟩
      rw [hwy] at hA3 ⊢
      clear hwy hwr hwr2 hsum2 c0 c1
      go_wp2_with fail
      go_loopg [11] q (fun g s wr => ∃ (d : Nat) (S2 : List Int), d + g = q ∧ s = .int .i64 (p + d : Nat) ∧ SD w wr A z Z l ll D n (.slice (some ⟨bo, 0, none⟩) out.length cv) out S2 ∧ ∀ x : Nat, (x : Int) ∈ S2 ↔ Cov out k x ∨ (p ≤ x ∧ x < p + d))
      case atStart => exact ⟨0, S, by omega, by rw [Nat.add_zero], hA3, fun x => by rw [hcov'.out x]; constructor; exact .inl; rintro (h | h); exact h; omega⟩
      case round =>
        clear hA3
        obtain ⟨d, S2, hg2, rfl, hA3, hcov2⟩ := hrel
        obtain ⟨wx, hwx⟩ : ∃ wx, wr = wx := ⟨_, rfl⟩
        rw [hwx] at hA3 ⊢
        clear hwx
        have hg2' := Lib.hid hg2
        have hdq : d ≤ q := by omega
        clear hg2
        obtain ⟨c0, c1⟩ := hcell'.out _ hA3.r
        have hxd : Ext No wx wx.drew := (Ext.refl No wx).drew
        have hAd := hA3.extNo hxd
        obtain ⟨j, hj⟩ : ∃ j, p + d = j := ⟨_, rfl⟩
        by_cases hdlt : d < q
        · obtain ⟨t1, t2, t3⟩ := htag'.out d hdlt
          have hfresh : (j : Int) ∉ S2 := fun h => by
            rcases (hcov2 j).1 h with h | h
            · exact hnew'.out d hdlt (by rw [hj]; exact h)
            · omega
          have hcov3 : ∀ x : Nat, (x : Int) ∈ (j : Int) :: S2 ↔ Cov out k x ∨ (p ≤ x ∧ x < p + (d + 1)) := fun x => by
            rw [List.mem_cons, hcov2 x]
            constructor
            · rintro (h | h | h)
              · exact .inr (by omega)
              · exact .inl h
              · exact .inr (by omega)
            · rintro (h | h)
              · exact .inr (.inl h)
              · by_cases e : x = j
                · exact .inl (by omega)
                · exact .inr (.inr (by omega))
          have hcov3' := Lib.hid hcov3
          clear hcov3 hcov2
          rw [hj] at t1 t2 t3 ⊢
          have hdj : decide ((j : Int) < (p : Int) + q) = true := decide_eq_true (by omega)
          have hdj2 : decide (j < p + q) = true := decide_eq_true (by omega)
          have hdj3 : decide ((j : Int) < 0) = false := decide_eq_false (by omega)
          have hdj4 : decide ((al : Int) ≤ j) = false := decide_eq_false (by omega)
          have hdj5 : decide (al ≤ j) = false := decide_eq_false (by omega)
          have hj1024 : j < 1024 := by omega
          have hja : (j : Int) < 1024 := by omega
          have a0 := zind_cell hAd.a hj1024 0 (by rw [if_neg hfresh])
          have af := hAd.a.frozen j
          have hst := hAd.store j
          have htg := zt_tag' hst.b (j : Int) t2 t3 rfl t1
          obtain ⟨C, hC0⟩ : ∃ C, tC D l ll (j : Int) = C := ⟨_, rfl⟩
          rw [hC0] at htg
          have hj' := Lib.hid hj
          go_wp2_with fail
          have hpq := hpq'.out; have hwr := hwr'.out; have hwr2 := hwr2'.out
          clear hj t1 t2 t3 hC0 hfresh hA3
          refine anyZ_begin 14 (fun w' => w'.cell? ⟨bo, k * 2, none⟩ = some (.int .i64 p) ∧ w'.cell? ⟨bo, k * 2 + 1, none⟩ = some (.int .i64 o)) (by kernel_rfl) ?_
          have hC : (fun w' : World => w'.cell? ⟨bo, k * 2, none⟩ = some (.int .i64 p) ∧ w'.cell? ⟨bo, k * 2 + 1, none⟩ = some (.int .i64 o)) wx.drew := ⟨c0, c1⟩
          refine anyZ_take 0 (v := ?_) rfl (by kernel_rfl) (by kernel_rfl) (by kernel_rfl) (by kernel_rfl) (fun _ _ _ h => h) hC (Or.inl ⟨by rfl, ?_⟩) ?_
          rotate_left
          · (intro wq hq; (try dsimp only at hq); go_simp; with_reducible rfl)
          simp only [Act.put, List.setIfInBounds_toArray, List.set_cons_zero, List.set_cons_succ]
          refine anyZ_take 1 (v := ?_) rfl (by kernel_rfl) (by kernel_rfl) (by kernel_rfl) (by kernel_rfl) (fun _ _ _ h => h) hC (Or.inl ⟨by rfl, ?_⟩) ?_
          rotate_left
          · (intro wq hq; (try dsimp only at hq); go_simp; with_reducible rfl)
          simp only [Act.put, List.setIfInBounds_toArray, List.set_cons_zero, List.set_cons_succ]
          refine anyZ_take 2 (v := ?_) rfl (by kernel_rfl) (by kernel_rfl) (by kernel_rfl) (by kernel_rfl) (fun _ _ _ h => h) hC (Or.inl ⟨by rfl, ?_⟩) ?_
          rotate_left
          · (intro wq hq; (try dsimp only at hq); go_simp; with_reducible rfl)
          simp only [Act.put, List.setIfInBounds_toArray, List.set_cons_zero, List.set_cons_succ]
          refine anyZ_take 3 (v := ?_) rfl (by kernel_rfl) (by kernel_rfl) (by kernel_rfl) (by kernel_rfl) (fun _ _ _ h => h) hC (Or.inl ⟨by rfl, ?_⟩) ?_
          rotate_left
          · (intro wq hq; (try dsimp only at hq); go_simp; with_reducible rfl)
          simp only [Act.put, List.setIfInBounds_toArray, List.set_cons_zero, List.set_cons_succ]
          refine anyZ_take 4 (v := ?_) rfl (by kernel_rfl) (by kernel_rfl) (by kernel_rfl) (by kernel_rfl) (fun _ _ _ h => h) hC (Or.inl ⟨by rfl, ?_⟩) ?_
          rotate_left
          · (intro wq hq; (try dsimp only at hq); go_simp; with_reducible rfl)
          simp only [Act.put, List.setIfInBounds_toArray, List.set_cons_zero, List.set_cons_succ]
          refine anyZ_take 5 (v := ?_) rfl (by kernel_rfl) (by kernel_rfl) (by kernel_rfl) (by kernel_rfl) (fun _ _ _ h => h) hC (Or.inl ⟨by rfl, ?_⟩) ?_
          rotate_left
          · (intro wq hq; (try dsimp only at hq); go_simp; with_reducible rfl)
          simp only [Act.put, List.setIfInBounds_toArray, List.set_cons_zero, List.set_cons_succ]
          refine anyZ_take 6 (v := ?_) rfl (by kernel_rfl) (by kernel_rfl) (by kernel_rfl) (by kernel_rfl) (fun _ _ _ h => h) hC (Or.inl ⟨by rfl, ?_⟩) ?_
          rotate_left
          · (intro wq hq; (try dsimp only at hq); go_simp; with_reducible rfl)
          simp only [Act.put, List.setIfInBounds_toArray, List.set_cons_zero, List.set_cons_succ]
          refine anyZ_take 7 (v := ?_) rfl (by kernel_rfl) (by kernel_rfl) (by kernel_rfl) (by kernel_rfl) (fun _ _ _ h => h) hC (Or.inl ⟨by rfl, ?_⟩) ?_
          rotate_left
          · (intro wq hq; (try dsimp only at hq); go_simp; with_reducible rfl)
          simp only [Act.put, List.setIfInBounds_toArray, List.set_cons_zero, List.set_cons_succ]
          refine anyZ_take 8 (v := ?_) rfl (by kernel_rfl) (by kernel_rfl) (by kernel_rfl) (by kernel_rfl) (fun _ _ _ h => h) hC (Or.inl ⟨by rfl, ?_⟩) ?_
          rotate_left
          · (intro wq hq; (try dsimp only at hq); go_simp; with_reducible rfl)
          simp only [Act.put, List.setIfInBounds_toArray, List.set_cons_zero, List.set_cons_succ]
          refine anyZ_take 9 (v := ?_) rfl (by kernel_rfl) (by kernel_rfl) (by kernel_rfl) (by kernel_rfl) (fun _ _ _ h => h) hC (Or.inl ⟨by rfl, ?_⟩) ?_
          rotate_left
          · (intro wq hq; (try dsimp only at hq); go_simp; with_reducible rfl)
          simp only [Act.put, List.setIfInBounds_toArray, List.set_cons_zero, List.set_cons_succ]
          refine anyZ_take 10 (v := ?_) rfl (by kernel_rfl) (by kernel_rfl) (by kernel_rfl) (by kernel_rfl) (fun _ _ _ h => h) hC (Or.inl ⟨by rfl, ?_⟩) ?_
          rotate_left
          · (intro wq hq; (try dsimp only at hq); go_simp; with_reducible rfl)
          simp only [Act.put, List.setIfInBounds_toArray, List.set_cons_zero, List.set_cons_succ]
          refine anyZ_take 11 (v := ?_) rfl (by kernel_rfl) (by kernel_rfl) (by kernel_rfl) (by kernel_rfl) (fun _ _ _ h => h) hC (Or.inl ⟨by rfl, ?_⟩) ?_
          rotate_left
          · (intro wq hq; (try dsimp only at hq); go_simp; with_reducible rfl)
          simp only [Act.put, List.setIfInBounds_toArray, List.set_cons_zero, List.set_cons_succ]
          refine anyZ_take 12 (v := ?_) rfl (by kernel_rfl) (by kernel_rfl) (by kernel_rfl) (by kernel_rfl) (fun _ _ _ h => h) hC (Or.inl ⟨by rfl, ?_⟩) ?_
          rotate_left
          · (intro wq hq; (try dsimp only at hq); go_simp; with_reducible rfl)
          simp only [Act.put, List.setIfInBounds_toArray, List.set_cons_zero, List.set_cons_succ]
          refine anyZ_take 13 (v := ?_) rfl (by kernel_rfl) (by kernel_rfl) (by kernel_rfl) (by kernel_rfl) (fun _ _ _ h => h) hC (Or.inl ⟨by rfl, ?_⟩) ?_
          rotate_left
          · (intro wq hq; (try dsimp only at hq); go_simp; with_reducible rfl)
          simp only [Act.put, List.setIfInBounds_toArray, List.set_cons_zero, List.set_cons_succ]
          refine anyZ_done (by kernel_rfl) ?_ _
          clear hpq hwr hwr2 hC
          go_wp2_with fail
          refine htg.mono ?_
          rintro e w5 ⟨rfl, hx5⟩
          have hS5 := hst.extNo hx5
          obtain ⟨B, hBB⟩ : ∃ B, w5.heap.size = B := ⟨_, rfl⟩
          obtain ⟨V, hV⟩ : ∃ V, w5.alloc (.cells #[.int .i64 p, .int .i64 o, .int .i64 C] 56) = V := ⟨_, rfl⟩
          have hxV : Ext No w5 V := by rw [← hV]; exact (Ext.refl _ _).alloc _
          have hBV : Blk V B [.int .i64 p, .int .i64 o, .int .i64 C] 56 := by rw [← hV]; exact Blk.new' hBB.symm
          have hSV := hS5.extNo hxV
          obtain ⟨v0, v1⟩ := hcell'.out _ hSV.r
          have b0 := hBV.cell' (i := 0) rfl
          have b1 := hBV.cell' (i := 1) rfl
          have hV' := Lib.hid hV; have hBB' := Lib.hid hBB
          have hqp1 : ((p : Int) != p) = false := by simp
          have hqo1 : ((o : Int) != o) = false := by simp
          clear hV hBB hx5 hS5 hxV hst hAd a0 af htg c0 c1
          go_wp2_with fail
          rw [hV'.out, hBB'.out]
          refine anyZ_begin 22 (fun w' => w'.cell? ⟨bo, k * 2, none⟩ = some (.int .i64 p) ∧ w'.cell? ⟨bo, k * 2 + 1, none⟩ = some (.int .i64 o) ∧ w'.cell? ⟨B, 0, none⟩ = some (.int .i64 p) ∧ w'.cell? ⟨B, 1, none⟩ = some (.int .i64 o)) (by kernel_rfl) ?_
          have hC : (fun w' : World => w'.cell? ⟨bo, k * 2, none⟩ = some (.int .i64 p) ∧ w'.cell? ⟨bo, k * 2 + 1, none⟩ = some (.int .i64 o) ∧ w'.cell? ⟨B, 0, none⟩ = some (.int .i64 p) ∧ w'.cell? ⟨B, 1, none⟩ = some (.int .i64 o)) V.drew := ⟨v0, v1, b0, b1⟩
          refine anyZ_take 0 (v := ?_) rfl (by kernel_rfl) (by kernel_rfl) (by kernel_rfl) (by kernel_rfl) (fun _ _ _ h => h) hC (Or.inl ⟨by rfl, ?_⟩) ?_
          rotate_left
          · (intro wq hq; (try dsimp only at hq); go_simp; with_reducible rfl)
          simp only [Act.put, List.setIfInBounds_toArray, List.set_cons_zero, List.set_cons_succ]
          refine anyZ_take 1 (v := ?_) rfl (by kernel_rfl) (by kernel_rfl) (by kernel_rfl) (by kernel_rfl) (fun _ _ _ h => h) hC (Or.inl ⟨by rfl, ?_⟩) ?_
          rotate_left
          · (intro wq hq; (try dsimp only at hq); go_simp; with_reducible rfl)
          simp only [Act.put, List.setIfInBounds_toArray, List.set_cons_zero, List.set_cons_succ]
          refine anyZ_take 2 (v := ?_) rfl (by kernel_rfl) (by kernel_rfl) (by kernel_rfl) (by kernel_rfl) (fun _ _ _ h => h) hC (Or.inl ⟨by rfl, ?_⟩) ?_
          rotate_left
          · (intro wq hq; (try dsimp only at hq); go_simp; with_reducible rfl)
          simp only [Act.put, List.setIfInBounds_toArray, List.set_cons_zero, List.set_cons_succ]
          refine anyZ_take 3 (v := ?_) rfl (by kernel_rfl) (by kernel_rfl) (by kernel_rfl) (by kernel_rfl) (fun _ _ _ h => h) hC (Or.inl ⟨by rfl, ?_⟩) ?_
          rotate_left
          · (intro wq hq; (try dsimp only at hq); go_simp; with_reducible rfl)
          simp only [Act.put, List.setIfInBounds_toArray, List.set_cons_zero, List.set_cons_succ]
          refine anyZ_take 4 (v := ?_) rfl (by kernel_rfl) (by kernel_rfl) (by kernel_rfl) (by kernel_rfl) (fun _ _ _ h => h) hC (Or.inl ⟨by rfl, ?_⟩) ?_
          rotate_left
          · (intro wq hq; (try dsimp only at hq); go_simp; with_reducible rfl)
          simp only [Act.put, List.setIfInBounds_toArray, List.set_cons_zero, List.set_cons_succ]
          refine anyZ_take 5 (v := ?_) rfl (by kernel_rfl) (by kernel_rfl) (by kernel_rfl) (by kernel_rfl) (fun _ _ _ h => h) hC (Or.inl ⟨by rfl, ?_⟩) ?_
          rotate_left
          · (intro wq hq; (try dsimp only at hq); go_simp; with_reducible rfl)
          simp only [Act.put, List.setIfInBounds_toArray, List.set_cons_zero, List.set_cons_succ]
          refine anyZ_take 6 (v := ?_) rfl (by kernel_rfl) (by kernel_rfl) (by kernel_rfl) (by kernel_rfl) (fun _ _ _ h => h) hC (Or.inl ⟨by rfl, ?_⟩) ?_
          rotate_left
          · (intro wq hq; (try dsimp only at hq); go_simp; with_reducible rfl)
          simp only [Act.put, List.setIfInBounds_toArray, List.set_cons_zero, List.set_cons_succ]
          refine anyZ_take 7 (v := ?_) rfl (by kernel_rfl) (by kernel_rfl) (by kernel_rfl) (by kernel_rfl) (fun _ _ _ h => h) hC (Or.inl ⟨by rfl, ?_⟩) ?_
          rotate_left
          · (intro wq hq; (try dsimp only at hq); go_simp; with_reducible rfl)
          simp only [Act.put, List.setIfInBounds_toArray, List.set_cons_zero, List.set_cons_succ]
          refine anyZ_take 8 (v := ?_) rfl (by kernel_rfl) (by kernel_rfl) (by kernel_rfl) (by kernel_rfl) (fun _ _ _ h => h) hC (Or.inl ⟨by rfl, ?_⟩) ?_
          rotate_left
          · (intro wq hq; (try dsimp only at hq); go_simp; with_reducible rfl)
          simp only [Act.put, List.setIfInBounds_toArray, List.set_cons_zero, List.set_cons_succ]
          refine anyZ_take 9 (v := ?_) rfl (by kernel_rfl) (by kernel_rfl) (by kernel_rfl) (by kernel_rfl) (fun _ _ _ h => h) hC (Or.inl ⟨by rfl, ?_⟩) ?_
          rotate_left
          · (intro wq hq; (try dsimp only at hq); go_simp; with_reducible rfl)
          simp only [Act.put, List.setIfInBounds_toArray, List.set_cons_zero, List.set_cons_succ]
          refine anyZ_take 10 (v := ?_) rfl (by kernel_rfl) (by kernel_rfl) (by kernel_rfl) (by kernel_rfl) (fun _ _ _ h => h) hC (Or.inl ⟨by rfl, ?_⟩) ?_
          rotate_left
          · (intro wq hq; (try dsimp only at hq); go_simp; with_reducible rfl)
          simp only [Act.put, List.setIfInBounds_toArray, List.set_cons_zero, List.set_cons_succ]
          refine anyZ_take 11 (v := ?_) rfl (by kernel_rfl) (by kernel_rfl) (by kernel_rfl) (by kernel_rfl) (fun _ _ _ h => h) hC (Or.inl ⟨by rfl, ?_⟩) ?_
          rotate_left
          · (intro wq hq; (try dsimp only at hq); go_simp; with_reducible rfl)
          simp only [Act.put, List.setIfInBounds_toArray, List.set_cons_zero, List.set_cons_succ]
          refine anyZ_take 12 (v := ?_) rfl (by kernel_rfl) (by kernel_rfl) (by kernel_rfl) (by kernel_rfl) (fun _ _ _ h => h) hC (Or.inl ⟨by rfl, ?_⟩) ?_
          rotate_left
          · (intro wq hq; (try dsimp only at hq); go_simp; with_reducible rfl)
          simp only [Act.put, List.setIfInBounds_toArray, List.set_cons_zero, List.set_cons_succ]
          refine anyZ_take 13 (v := ?_) rfl (by kernel_rfl) (by kernel_rfl) (by kernel_rfl) (by kernel_rfl) (fun _ _ _ h => h) hC (Or.inl ⟨by rfl, ?_⟩) ?_
          rotate_left
          · (intro wq hq; (try dsimp only at hq); go_simp; with_reducible rfl)
          simp only [Act.put, List.setIfInBounds_toArray, List.set_cons_zero, List.set_cons_succ]
          refine anyZ_take 14 (v := ?_) rfl (by kernel_rfl) (by kernel_rfl) (by kernel_rfl) (by kernel_rfl) (fun _ _ _ h => h) hC (Or.inl ⟨by rfl, ?_⟩) ?_
          rotate_left
          · (intro wq hq; (try dsimp only at hq); go_simp; with_reducible rfl)
          simp only [Act.put, List.setIfInBounds_toArray, List.set_cons_zero, List.set_cons_succ]
          refine anyZ_take 15 (v := ?_) rfl (by kernel_rfl) (by kernel_rfl) (by kernel_rfl) (by kernel_rfl) (fun _ _ _ h => h) hC (Or.inl ⟨by rfl, ?_⟩) ?_
          rotate_left
          · (intro wq hq; (try dsimp only at hq); go_simp; with_reducible rfl)
          simp only [Act.put, List.setIfInBounds_toArray, List.set_cons_zero, List.set_cons_succ]
          refine anyZ_take 16 (v := ?_) rfl (by kernel_rfl) (by kernel_rfl) (by kernel_rfl) (by kernel_rfl) (fun _ _ _ h => h) hC (Or.inl ⟨by rfl, ?_⟩) ?_
          rotate_left
          · (intro wq hq; (try dsimp only at hq); go_simp; with_reducible rfl)
          simp only [Act.put, List.setIfInBounds_toArray, List.set_cons_zero, List.set_cons_succ]
          refine anyZ_take 17 (v := ?_) rfl (by kernel_rfl) (by kernel_rfl) (by kernel_rfl) (by kernel_rfl) (fun _ _ _ h => h) hC (Or.inl ⟨by rfl, ?_⟩) ?_
          rotate_left
          · (intro wq hq; (try dsimp only at hq); go_simp; with_reducible rfl)
          simp only [Act.put, List.setIfInBounds_toArray, List.set_cons_zero, List.set_cons_succ]
          refine anyZ_take 18 (v := ?_) rfl (by kernel_rfl) (by kernel_rfl) (by kernel_rfl) (by kernel_rfl) (fun _ _ _ h => h) hC (Or.inl ⟨by rfl, ?_⟩) ?_
          rotate_left
          · (intro wq hq; (try dsimp only at hq); go_simp; with_reducible rfl)
          simp only [Act.put, List.setIfInBounds_toArray, List.set_cons_zero, List.set_cons_succ]
          refine anyZ_take 19 (v := ?_) rfl (by kernel_rfl) (by kernel_rfl) (by kernel_rfl) (by kernel_rfl) (fun _ _ _ h => h) hC (Or.inl ⟨by rfl, ?_⟩) ?_
          rotate_left
          · (intro wq hq; (try dsimp only at hq); go_simp; with_reducible rfl)
          simp only [Act.put, List.setIfInBounds_toArray, List.set_cons_zero, List.set_cons_succ]
          refine anyZ_take 20 (v := ?_) rfl (by kernel_rfl) (by kernel_rfl) (by kernel_rfl) (by kernel_rfl) (fun _ _ _ h => h) hC (Or.inl ⟨by rfl, ?_⟩) ?_
          rotate_left
          · (intro wq hq; (try dsimp only at hq); go_simp; with_reducible rfl)
          simp only [Act.put, List.setIfInBounds_toArray, List.set_cons_zero, List.set_cons_succ]
          refine anyZ_take 21 (v := ?_) rfl (by kernel_rfl) (by kernel_rfl) (by kernel_rfl) (by kernel_rfl) (fun _ _ _ h => h) hC (Or.inl ⟨by rfl, ?_⟩) ?_
          rotate_left
          · (intro wq hq; (try dsimp only at hq); go_simp; with_reducible rfl)
          simp only [Act.put, List.setIfInBounds_toArray, List.set_cons_zero, List.set_cons_succ]
          refine anyZ_done (by kernel_rfl) ?_ _
          have hSd := hSV.extNo ((Ext.refl No V).drew)
          clear hC hSV v0 v1 b0 b1
          go_wp2_with fail
          go_roundg (q - (d + 1))
          case measure => have := hg2'.out; omega
          case rel => exact ⟨d + 1, _, by omega, by rw [← Nat.add_assoc, hj'.out]; go_num, hSd, hcov3'.out⟩
        · obtain rfl : d = q := by omega
          have hcov4 : Hid (∀ x : Nat, (x : Int) ∈ S2 ↔ Cov out (k + 1) x) := fun x => by rw [hcov2 x, hcn'.out x]
          rw [hj]
          have hdj : decide ((j : Int) < (p : Int) + d) = false := decide_eq_false (by omega)
          have hdj2 : decide (j < p + d) = false := decide_eq_false (by omega)
          go_wp2_with fail
          have hpq := hpq'.out; have hwr := hwr'.out; have hwr2 := hwr2'.out
          clear hcov2 hA3 hj
          refine anyZ_begin 14 (fun w' => w'.cell? ⟨bo, k * 2, none⟩ = some (.int .i64 p) ∧ w'.cell? ⟨bo, k * 2 + 1, none⟩ = some (.int .i64 o)) (by kernel_rfl) ?_
          have hC : (fun w' : World => w'.cell? ⟨bo, k * 2, none⟩ = some (.int .i64 p) ∧ w'.cell? ⟨bo, k * 2 + 1, none⟩ = some (.int .i64 o)) wx.drew := ⟨c0, c1⟩
          refine anyZ_take 0 (v := ?_) rfl (by kernel_rfl) (by kernel_rfl) (by kernel_rfl) (by kernel_rfl) (fun _ _ _ h => h) hC (Or.inl ⟨by rfl, ?_⟩) ?_
          rotate_left
          · (intro wq hq; (try dsimp only at hq); go_simp; with_reducible rfl)
          simp only [Act.put, List.setIfInBounds_toArray, List.set_cons_zero, List.set_cons_succ]
          refine anyZ_take 1 (v := ?_) rfl (by kernel_rfl) (by kernel_rfl) (by kernel_rfl) (by kernel_rfl) (fun _ _ _ h => h) hC (Or.inl ⟨by rfl, ?_⟩) ?_
          rotate_left
          · (intro wq hq; (try dsimp only at hq); go_simp; with_reducible rfl)
          simp only [Act.put, List.setIfInBounds_toArray, List.set_cons_zero, List.set_cons_succ]
          refine anyZ_take 2 (v := ?_) rfl (by kernel_rfl) (by kernel_rfl) (by kernel_rfl) (by kernel_rfl) (fun _ _ _ h => h) hC (Or.inl ⟨by rfl, ?_⟩) ?_
          rotate_left
          · (intro wq hq; (try dsimp only at hq); go_simp; with_reducible rfl)
          simp only [Act.put, List.setIfInBounds_toArray, List.set_cons_zero, List.set_cons_succ]
          refine anyZ_take 3 (v := ?_) rfl (by kernel_rfl) (by kernel_rfl) (by kernel_rfl) (by kernel_rfl) (fun _ _ _ h => h) hC (Or.inl ⟨by rfl, ?_⟩) ?_
          rotate_left
          · (intro wq hq; (try dsimp only at hq); go_simp; with_reducible rfl)
          simp only [Act.put, List.setIfInBounds_toArray, List.set_cons_zero, List.set_cons_succ]
          refine anyZ_take 4 (v := ?_) rfl (by kernel_rfl) (by kernel_rfl) (by kernel_rfl) (by kernel_rfl) (fun _ _ _ h => h) hC (Or.inl ⟨by rfl, ?_⟩) ?_
          rotate_left
          · (intro wq hq; (try dsimp only at hq); go_simp; with_reducible rfl)
          simp only [Act.put, List.setIfInBounds_toArray, List.set_cons_zero, List.set_cons_succ]
          refine anyZ_take 5 (v := ?_) rfl (by kernel_rfl) (by kernel_rfl) (by kernel_rfl) (by kernel_rfl) (fun _ _ _ h => h) hC (Or.inl ⟨by rfl, ?_⟩) ?_
          rotate_left
          · (intro wq hq; (try dsimp only at hq); go_simp; with_reducible rfl)
          simp only [Act.put, List.setIfInBounds_toArray, List.set_cons_zero, List.set_cons_succ]
          refine anyZ_take 6 (v := ?_) rfl (by kernel_rfl) (by kernel_rfl) (by kernel_rfl) (by kernel_rfl) (fun _ _ _ h => h) hC (Or.inl ⟨by rfl, ?_⟩) ?_
          rotate_left
          · (intro wq hq; (try dsimp only at hq); go_simp; with_reducible rfl)
          simp only [Act.put, List.setIfInBounds_toArray, List.set_cons_zero, List.set_cons_succ]
          refine anyZ_take 7 (v := ?_) rfl (by kernel_rfl) (by kernel_rfl) (by kernel_rfl) (by kernel_rfl) (fun _ _ _ h => h) hC (Or.inl ⟨by rfl, ?_⟩) ?_
          rotate_left
          · (intro wq hq; (try dsimp only at hq); go_simp; with_reducible rfl)
          simp only [Act.put, List.setIfInBounds_toArray, List.set_cons_zero, List.set_cons_succ]
          refine anyZ_take 8 (v := ?_) rfl (by kernel_rfl) (by kernel_rfl) (by kernel_rfl) (by kernel_rfl) (fun _ _ _ h => h) hC (Or.inl ⟨by rfl, ?_⟩) ?_
          rotate_left
          · (intro wq hq; (try dsimp only at hq); go_simp; with_reducible rfl)
          simp only [Act.put, List.setIfInBounds_toArray, List.set_cons_zero, List.set_cons_succ]
          refine anyZ_take 9 (v := ?_) rfl (by kernel_rfl) (by kernel_rfl) (by kernel_rfl) (by kernel_rfl) (fun _ _ _ h => h) hC (Or.inl ⟨by rfl, ?_⟩) ?_
          rotate_left
          · (intro wq hq; (try dsimp only at hq); go_simp; with_reducible rfl)
          simp only [Act.put, List.setIfInBounds_toArray, List.set_cons_zero, List.set_cons_succ]
          refine anyZ_take 10 (v := ?_) rfl (by kernel_rfl) (by kernel_rfl) (by kernel_rfl) (by kernel_rfl) (fun _ _ _ h => h) hC (Or.inl ⟨by rfl, ?_⟩) ?_
          rotate_left
          · (intro wq hq; (try dsimp only at hq); go_simp; with_reducible rfl)
          simp only [Act.put, List.setIfInBounds_toArray, List.set_cons_zero, List.set_cons_succ]
          refine anyZ_take 11 (v := ?_) rfl (by kernel_rfl) (by kernel_rfl) (by kernel_rfl) (by kernel_rfl) (fun _ _ _ h => h) hC (Or.inl ⟨by rfl, ?_⟩) ?_
          rotate_left
          · (intro wq hq; (try dsimp only at hq); go_simp; with_reducible rfl)
          simp only [Act.put, List.setIfInBounds_toArray, List.set_cons_zero, List.set_cons_succ]
          refine anyZ_take 12 (v := ?_) rfl (by kernel_rfl) (by kernel_rfl) (by kernel_rfl) (by kernel_rfl) (fun _ _ _ h => h) hC (Or.inl ⟨by rfl, ?_⟩) ?_
          rotate_left
          · (intro wq hq; (try dsimp only at hq); go_simp; with_reducible rfl)
          simp only [Act.put, List.setIfInBounds_toArray, List.set_cons_zero, List.set_cons_succ]
          refine anyZ_take 13 (v := ?_) rfl (by kernel_rfl) (by kernel_rfl) (by kernel_rfl) (by kernel_rfl) (fun _ _ _ h => h) hC (Or.inl ⟨by rfl, ?_⟩) ?_
          rotate_left
          · (intro wq hq; (try dsimp only at hq); go_simp; with_reducible rfl)
          simp only [Act.put, List.setIfInBounds_toArray, List.set_cons_zero, List.set_cons_succ]
          refine anyZ_done (by kernel_rfl) ?_ _
          clear hpq hwr hwr2 hC c0 c1
          go_wp2_with fail
          go_roundg (out.length - (k + 1))
          case measure => have := hg'.out; omega
          case rel => exact ⟨k + 1, S2, by omega, by rw [hT2'.out], by go_num, hAd, hcov4.out⟩
    · have hd : decide ((k : Int) < out.length) = false := decide_eq_false (by omega)
      obtain rfl : k = out.length := by omega
      rw [List.take_length]
      have htc : ∀ j : Nat, j < al → ((tB l ll j = true) ↔ (j : Int) ∈ S) := fun j hj => by rw [hcov j]; exact zo_tagcov hO (by omega)
      have htc' := Lib.hid htc
      have hT1' := Lib.hid hT1
      rw [show T + So out = (al : Int) from hT1]
      clear htc hT1 hcov htk hson
      go_wp2_with fail
      go_loopg [14] al (fun g s wr => ∃ j : Nat, j + g = al ∧ s = .int .i64 j ∧ SD w wr A z Z l ll D n (.slice av out.length cv) out S)
      case atStart => exact ⟨0, by omega, rfl, hA3⟩
      case round =>
        clear hA3
        obtain ⟨j, hg2, rfl, hA3⟩ := hrel
        obtain ⟨wx, hwx⟩ : ∃ wx, wr = wx := ⟨_, rfl⟩
        rw [hwx] at hA3 ⊢
        clear hwx
        have hg2' := Lib.hid hg2
        have hjn : j ≤ al := by omega
        clear hg2
        by_cases hlt2 : j < al
        · have hd1 : decide ((j : Int) < al) = true := decide_eq_true (by omega)
          have hd2 : decide (j < al) = true := decide_eq_true hlt2
          have hja : (j : Int) < 1024 := by omega
          have htj := htc'.out j hlt2
          obtain ⟨v, hv⟩ : ∃ v : Int, (if (j : Int) ∈ S then (1 : Int) else 0) = v := ⟨_, rfl⟩
          obtain ⟨B, hB⟩ : ∃ B, tB l ll (j : Int) = B := ⟨_, rfl⟩
          rw [hB] at htj
          have hvb : ((v == 1) : Bool) = B := by
            subst hv
            cases B
            · have : (j : Int) ∉ S := fun h => by have := htj.2 h; cases this
              rw [if_neg this]; rfl
            · rw [if_pos (htj.1 rfl)]; rfl
          have hBB : (B != B) = false := by simp
          obtain ⟨H, hH⟩ : ∃ H, tH l ll (j : Int) = H := ⟨_, rfl⟩
          obtain ⟨O, hO1⟩ : ∃ O, tO l ll (j : Int) = O := ⟨_, rfl⟩
          obtain ⟨C, hC⟩ : ∃ C, tC D l ll (j : Int) = C := ⟨_, rfl⟩
          have htg := zt_tag' hA3.b (j : Int) hH hO1 hC hB
          have hv' := Lib.hid hv
          clear htj hv hB hH hO1 hC
          go_wp2_with fail
          refine htg.mono ?_
          rintro e w5 ⟨rfl, hx5⟩
          have hS5 := hA3.extNo (hx5.alloc (.cells #[.int .i64 H, .int .i64 O, .int .i64 C] 56))
          have a0 := zind_cell hS5.a (show j < 1024 by omega) v hv'.out
          clear htg hA3 hx5
          go_wp2_with fail
          go_roundg (al - (j + 1))
          case measure => have := hg2'.out; omega
          case rel => exact ⟨j + 1, by omega, by go_num, hS5⟩
        · have hd1 : decide ((j : Int) < al) = false := decide_eq_false (by omega)
          have hd2 : decide (j < al) = false := decide_eq_false hlt2
          have hq : ((al : Int) == al) = true := beq_self_eq_true _
          go_wp2_with fail
          refine (works43_spec wx).mono ?_
          rintro e w9 ⟨rfl, hx9⟩
          go_wp2_with fail
          go_ret
          exact ⟨rfl, hA3.b.x.transNo hx9⟩

theorem zoneStands_walk (w : World) (pages : Int) (_ : (Lit.int .i64 pages).wf = true) (v : Value) (l : List Cl) (hv : RdC (Iv 0 w.heap.size) w v l) (_ : l.length * 32 ≤ reachBytes ∧ ∀ x ∈ l, Clwf x) :
    Calls Try.prog 22 #[.int .i64 pages, v] w fun e w' => e = .returned (.bool true) ∧ Below w.heap.size w w' :=
  (zoneStands_core w pages v l _ hv).mono fun _ _ ⟨h1, h2⟩ => ⟨h1, h2.belowNo⟩
end Go.Proofs.Ytjkknjohmekeiaa
