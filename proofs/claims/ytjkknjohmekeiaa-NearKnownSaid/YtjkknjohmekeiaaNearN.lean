/- A call of both near pages. No condition. -/
import Derived.Test.YtjkknjohmekeiaaNearM
import Derived.Test.YtjkknjohmekeiaaT3
namespace Go.Proofs.Ytjkknjohmekeiaa
open Go.RowKit

section
variable {w0 w w' : World} {p q : Nat} {F G : Nat → Prop} {ll : List (List Int)} {cap : Int}
theorem NB.right {G' : Nat → Prop} {L : List (List Int)} (h1 : NT w0 w p F L cap) (hd : ∀ x, F x → ¬ G x) (h2 : NT w0 w' q G' L cap 148) (hx : Ext G w w') (hg : Grows w G G') (hf : ∀ x, G x → w0.heap.size ≤ x) : NB w0 w' p q F G' L cap :=
  ⟨h1.ext hx hd hf, h2, fun x hF hG => by
    rcases hg x hG with h | h
    · exact hd x hF h
    · have := h1.s.lt x hF; omega⟩
theorem rt_put (h : NT w0 w q G ll cap 148) (c page : Int) {E : Int} {L : List (List Int)} {A : List Int} (hE : putE ll c page = E) (hL : putL ll cap c page = L) (hA : putA ll cap c page = A) :
    Calls Try.prog 97 #[.pointer (some ⟨q, 0, none⟩), .int .i64 c, .int .i64 page] w fun e w' => ∃ r G', e = .returned (.tuple #[r, .int .i64 E]) ∧
      NT w0 w' q G' L cap 148 ∧ Ans w' r A (OutF w0 G') ∧ Ext G w w' ∧ Grows w G G' := by
  subst hE hL hA
  refine (rs_put w q G ll cap h.s c page).mono ?_
  rintro e w' ⟨r, he, hp⟩
  obtain ⟨F', g1, g2, g3, g4⟩ := h.post hp
  exact ⟨r, F', he, g1, g4.mono (fun b hb => ⟨hb.1, by have := h.x.size; have := hb.2; omega⟩), g2, g3⟩
theorem rt_take (h : NT w0 w q G ll cap 148) (c : Int) {X : Int} {B : Bool} {L : List (List Int)} (hX : takeX ll c = X) (hB : takeB ll c = B) (hL : dropL ll c = L) :
    Calls Try.prog 98 #[.pointer (some ⟨q, 0, none⟩), .int .i64 c] w fun e w' => ∃ G', e = .returned (.tuple #[.int .i64 X, .bool B]) ∧
      NT w0 w' q G' L cap 148 ∧ Ext G w w' ∧ Grows w G G' := by
  subst hX hB hL
  refine (rs_take w q G ll cap h.s c).mono ?_
  rintro e w' ⟨he, hp⟩
  obtain ⟨F', g1, g2, g3, _⟩ := h.post hp
  exact ⟨F', he, g1, g2, g3⟩
theorem rt_drain (h : NT w0 w q G ll cap 148) (c : Int) {A : List Int} {L : List (List Int)} (hA : listIn ll c = A) (hL : drainL ll c = L) :
    Calls Try.prog 99 #[.pointer (some ⟨q, 0, none⟩), .int .i64 c] w fun e w' => ∃ r G', e = .returned r ∧
      NT w0 w' q G' L cap 148 ∧ Ans w' r A (OutF w0 G') ∧ Ext G w w' ∧ Grows w G G' := by
  subst hA hL
  refine (rs_drain w q G ll cap h.s c).mono ?_
  rintro e w' ⟨r, he, hp⟩
  obtain ⟨F', g1, g2, g3, g4⟩ := h.post hp
  exact ⟨r, F', he, g1, g4.mono (fun b hb => ⟨hb.1, h.f b hb.2⟩), g2, g3⟩
theorem rt_list (h : NT w0 w q G ll cap 148) (c : Int) {A : List Int} (hA : listIn ll c = A) :
    Calls Try.prog 49 #[.pointer (some ⟨q, 0, none⟩), .int .i64 c] w fun e w' => ∃ r, e = .returned r ∧ Ans w' r A (fun b => w.heap.size ≤ b) ∧ Ext No w w' := by
  subst hA
  exact rs_list w q G ll cap h.s c
end

/-- Both stand. -/
def StepQ (w0 w : World) (p q : Nat) (cap : Int) : Prop := ∃ F G ll, NB w0 w p q F G ll cap

/-- An answer's cells may all be written: what that leaves of both. -/
theorem blk_len {cs : List Value} {n : Nat} {l : List Int} (h : cs.take n = l.map int) (hn : n = l.length) : n ≤ cs.length := by
  have := congrArg List.length h
  simp only [List.length_take, List.length_map] at this
  omega

set_option maxRecDepth 100000 in
set_option maxHeartbeats 3200000 in
theorem step47_spec (w0 w : World) (p q : Nat) (F G : Nat → Prop) (ll : List (List Int)) (cap : Int) (h : NB w0 w p q F G ll cap) (d : T3) :
    Calls Try.prog 47 #[.pointer (some ⟨p, 0, none⟩), .pointer (some ⟨q, 0, none⟩), .agg #[.int .i64 d.a, .int .i64 d.b, .int .i64 d.c]] w fun e w' => e = .returned (.bool true) ∧ StepQ w0 w' p q cap := by
  have k0 := Int.emod_nonneg d.a (show (4 : Int) ≠ 0 by omega)
  have k1 := Int.emod_lt_of_pos d.a (show (0 : Int) < 4 by omega)
  obtain ⟨kd, hkd⟩ : ∃ kd, d.a % 4 = kd := ⟨_, rfl⟩
  rw [hkd] at k0 k1
  have hkd' := Lib.hid hkd; clear hkd
  have hkk : Hid (kd = 0 ∨ kd = 1 ∨ kd = 2 ∨ kd = 3) := by show _ ∨ _; omega
  go_enter Try.func47, Try.ntmps47
  go_wp2_with fail
  refine (bring_spec _ _ _ (by decide) (by decide)).mono ?_
  rintro e w1 ⟨rfl, rfl⟩
  rw [hkd'.out]
  obtain ⟨W, hW⟩ : ∃ W, w.alloc (.cells #[.int .i64 d.a, .int .i64 d.b, .int .i64 d.c] 70) = W := ⟨_, rfl⟩
  obtain ⟨db, hdb⟩ : ∃ db, w.heap.size = db := ⟨_, rfl⟩
  have hD : Blk W db [.int .i64 d.a, .int .i64 d.b, .int .i64 d.c] 70 := by rw [← hW]; exact Blk.new' hdb.symm
  have hxW : Ext No w W := by rw [← hW]; exact (Ext.refl _ _).alloc _
  have hFd : ¬ F db := fun hf => by have := h.1.s.lt db hf; omega
  have hGd : ¬ G db := fun hf => by have := h.2.1.s.lt db hf; omega
  have hdlt : db < W.heap.size := hD.lt
  have h := h.extNo hxW
  rw [hW, hdb]
  clear hW hdb hxW
  have d1 := hD.cell' (i := 1) rfl
  have d2 := hD.cell' (i := 2) rfl
  obtain ⟨hp, hq, hd⟩ := h
  rcases hkk.out with rfl | rfl | rfl | rfl
  · go_wp2_with fail
    refine (nt_put hp d.b d.c rfl rfl rfl).mono ?_
    rintro e w2 ⟨r2, F2, rfl, h2, a2, x2, g2⟩
    obtain ⟨hq2, hd2⟩ := NB.left ⟨hp, hq, hd⟩ h2 x2 g2
    have d1 := x2.cell d1 hFd
    have d2 := x2.cell d2 hFd
    have a2 : Ans w2 r2 (putA ll cap d.b d.c) (fun b => ¬ F2 b ∧ ¬ G b ∧ w0.heap.size ≤ b) := a2.mono (fun b hb => ⟨hb.1.1, fun hg => by
      rcases hb.2 with h | h
      · exact hd b h hg
      · have := hq.s.lt b hg; omega, hb.1.2⟩)
    go_wp2_with fail
    refine (rt_put hq2 d.b d.c rfl rfl rfl).mono ?_
    rintro e w3 ⟨r3, G3, rfl, h3, a3, x3, g3⟩
    have hB3 := NB.right h2 hd2 h3 x3 g3 hq2.f
    have a2 : Ans w3 r2 (putA ll cap d.b d.c) (fun b => ¬ F2 b ∧ ¬ G3 b ∧ w0.heap.size ≤ b) := by
      rcases a2 with a2 | ⟨b, cs, cp, g0, g1, g2', g3', g4, g5, g6, g7⟩
      · exact .inl a2
      · refine .inr ⟨b, cs, cp, g0, g1, g2', g3'.ext x3 g6, g4, g5, fun hg => ?_, g7⟩
        rcases g3 b hg with h | h
        · exact g6 h
        · have := g3'.lt; omega
    go_wp2_with fail
    refine (eqInts_spec _ _ _ _ _ _ _ a2.rd a3.rd).mono ?_
    rintro e w4 ⟨rfl, n4, rfl⟩
    rw [decide_eq_true (rfl : putA ll cap d.b d.c = putA ll cap d.b d.c)]
    have hB4 := hB3.extNo ((Ext.refl No w3).drewN n4)
    have a2 := a2.keepNo ((Ext.refl No w3).drewN n4)
    obtain ⟨W4, hW4⟩ : ∃ W4, w3.drewN n4 = W4 := ⟨_, rfl⟩
    rw [hW4] at hB4 a2 ⊢
    clear hW4 hB3 a3 x3 g3 hq2 hd2 h2 h3 d1 d2 x2 g2 hp hq hd hD
    rcases a2 with ⟨aa, ca, rfl, hA, _⟩ | ⟨b, cs, cp, rfl, hl1, hl2, hBk, htk, hf1, hf2, hf3⟩
    · go_wp2_with fail
      go_loopg [11] 0 (fun g i wr => i = .int .i64 0 ∧ wr = W4)
      case atStart => exact ⟨rfl, rfl⟩
      case round =>
        obtain ⟨rfl, rfl⟩ := hrel
        go_wp2_with fail
        go_ret
        exact ⟨rfl, _, _, _, hB4⟩
    · obtain ⟨n, hn⟩ : ∃ n, (putA ll cap d.b d.c).length = n := ⟨_, rfl⟩
      rw [hn] at hl1 htk ⊢
      have hcl : n ≤ cs.length := blk_len htk hn.symm
      unfold maxLen at hl2
      clear htk hn
      go_wp2_with fail
      go_loopg [11] n (fun g i wr => ∃ k : Nat, k + g = n ∧ i = .int .i64 k ∧ Ext (One b) W4 wr ∧ ∃ cs' : List Value, Blk wr b cs' 3 ∧ cs'.length = cs.length)
      case atStart => exact ⟨0, by omega, rfl, Ext.refl _ _, cs, hBk, rfl⟩
      case round =>
        obtain ⟨k, hk, rfl, hx, cs', hB', hl'⟩ := hrel
        have hk' := Lib.hid hk
        have hkn : k ≤ n := by omega
        have hl'' := Lib.hid hl'
        clear hk hl'
        by_cases hlt : k < n
        · obtain ⟨u, hu⟩ : ∃ u, cs'[k]? = some u := ⟨_, List.getElem?_eq_getElem (by rw [hl''.out]; omega)⟩
          have ck := hB'.cell' hu
          have fk := hB'.frozen k
          have hBn := Lib.hid (hB'.set k (.int .i64 (-1)))
          have hu' := Lib.hid hu; clear hu
          go_wp2_with fail
          go_roundg (n - (k + 1))
          case measure => have := hk'.out; omega
          case rel => exact ⟨k + 1, by omega, by go_num, hx.trans (Ext.set1 _ _ _ _) (fun _ _ h => h), _, hBn.out, by rw [List.length_set]; exact hl''.out⟩
        · have hBe := hB4.ext hx (fun x (e : x = b) => by subst e; exact ⟨hf1, hf2, hf3⟩)
          go_wp2_with fail
          go_ret
          exact ⟨rfl, _, _, _, hBe⟩
  · go_wp2_with fail
    refine (nt_take hp d.b rfl rfl rfl).mono ?_
    rintro e w2 ⟨F2, rfl, h2, x2, g2⟩
    obtain ⟨hq2, hd2⟩ := NB.left ⟨hp, hq, hd⟩ h2 x2 g2
    have d1 := x2.cell d1 hFd
    go_wp2_with fail
    refine (rt_take hq2 d.b rfl rfl rfl).mono ?_
    rintro e w3 ⟨G3, rfl, h3, x3, g3⟩
    have hB3 := NB.right h2 hd2 h3 x3 g3 hq2.f
    clear hp hq hd h2 h3 hq2 hd2 d1 d2 x2 x3
    go_wp2_with fail
    go_ret
    exact ⟨rfl, _, _, _, hB3⟩
  · go_wp2_with fail
    have hxd : Ext No W W.drew := (Ext.refl No W).drew
    refine anyZ_begin 9 (fun w' => w'.cell? ⟨db, 1, none⟩ = some (.int .i64 d.b)) (by kernel_rfl) ?_
    have hC : (fun w' : World => w'.cell? ⟨db, 1, none⟩ = some (.int .i64 d.b)) W.drew := d1
    refine anyZ_take 0 (v := ?_) rfl (by kernel_rfl) (by kernel_rfl) (by kernel_rfl) (by kernel_rfl) (fun _ _ _ h => h) hC (Or.inl ⟨by rfl, ?_⟩) ?_
    rotate_left
    · (intro wq hq; (try dsimp only at hq); go_simp; with_reducible rfl)
    simp only [Act.put, List.setIfInBounds_toArray, List.set_cons_zero, List.set_cons_succ]
    refine anyZ_take 1 (v := ?_) rfl (by kernel_rfl) (by kernel_rfl) (by kernel_rfl) (by kernel_rfl) (fun _ _ _ h => h) hC (Or.inl ⟨by rfl, ?_⟩) ?_
    rotate_left
    · (intro wq hq; (try dsimp only at hq); go_simp; with_reducible rfl)
    simp only [Act.put, List.setIfInBounds_toArray, List.set_cons_zero, List.set_cons_succ]
    refine anyZ_take 2 (v := ?_) rfl (by kernel_rfl) (by kernel_rfl) (by kernel_rfl) (by kernel_rfl) (fun _ _ _ h => h) hC (Or.inl ⟨by rfl, ?_⟩) ?_
    rotate_left
    · (intro wq hq; (try dsimp only at hq); go_simp; with_reducible rfl)
    simp only [Act.put, List.setIfInBounds_toArray, List.set_cons_zero, List.set_cons_succ]
    refine anyZ_take 4 (v := ?_) rfl (by kernel_rfl) (by kernel_rfl) (by kernel_rfl) (by kernel_rfl) (fun _ _ _ h => h) hC (Or.inl ⟨by rfl, ?_⟩) ?_
    rotate_left
    · (intro wq hq; (try dsimp only at hq); go_simp; with_reducible rfl)
    simp only [Act.put, List.setIfInBounds_toArray, List.set_cons_zero, List.set_cons_succ]
    refine anyZ_take 5 (v := ?_) rfl (by kernel_rfl) (by kernel_rfl) (by kernel_rfl) (by kernel_rfl) (fun _ _ _ h => h) hC (Or.inl ⟨by rfl, ?_⟩) ?_
    rotate_left
    · (intro wq hq; (try dsimp only at hq); go_simp; with_reducible rfl)
    simp only [Act.put, List.setIfInBounds_toArray, List.set_cons_zero, List.set_cons_succ]
    refine anyZ_take 6 (v := ?_) rfl (by kernel_rfl) (by kernel_rfl) (by kernel_rfl) (by kernel_rfl) (fun _ _ _ h => h) hC (Or.inl ⟨by rfl, ?_⟩) ?_
    rotate_left
    · (intro wq hq; (try dsimp only at hq); go_simp; with_reducible rfl)
    simp only [Act.put, List.setIfInBounds_toArray, List.set_cons_zero, List.set_cons_succ]
    refine anyZ_step 3 rfl (by kernel_rfl) (fun K hK => ?_)
    go_simp
    have hp := hp.extNo hxd
    have hq := hq.extNo hxd
    refine (nt_drain hp d.b rfl rfl).mono ?_
    rintro e w2 ⟨r2, F2, rfl, h2, a2, x2, g2⟩
    obtain ⟨hq2, hd2⟩ := NB.left ⟨hp, hq, hd⟩ h2 x2 g2
    have hC2 : (fun w' : World => w'.cell? ⟨db, 1, none⟩ = some (.int .i64 d.b)) w2 := x2.cell d1 hFd
    have a2 : Ans w2 r2 (listIn ll d.b) (fun b => ¬ G b) := a2.mono (fun b hb hg => by
      rcases hb.2 with h | h
      · exact hd b h hg
      · have := hq.s.lt b hg; omega)
    refine hK _ _ hC2 ?_
    clear hK K
    try simp only [Act.put, List.setIfInBounds_toArray, List.set_cons_zero, List.set_cons_succ]
    refine anyZ_step 7 rfl (by kernel_rfl) (fun K hK => ?_)
    go_simp
    refine (rt_drain hq2 d.b rfl rfl).mono ?_
    rintro e w3 ⟨r3, G3, rfl, h3, a3, x3, g3⟩
    have hB3 := NB.right h2 hd2 h3 x3 g3 hq2.f
    have a2 := a2.ext x3 (fun x hx hg => hx hg)
    have hC3 : (fun w' : World => w'.cell? ⟨db, 1, none⟩ = some (.int .i64 d.b)) w3 := x3.cell hC2 hGd
    refine hK _ _ hC3 ?_
    clear hK K
    try simp only [Act.put, List.setIfInBounds_toArray, List.set_cons_zero, List.set_cons_succ]
    refine anyZ_step 8 rfl (by kernel_rfl) (fun K hK => ?_)
    go_simp
    refine (eqInts_spec _ _ _ _ _ _ _ a2.rd a3.rd).mono ?_
    rintro e w4 ⟨rfl, n4, rfl⟩
    rw [decide_eq_true (rfl : listIn ll d.b = listIn ll d.b)]
    have hB4 := hB3.extNo ((Ext.refl No w3).drewN n4)
    have hC4 : (fun w' : World => w'.cell? ⟨db, 1, none⟩ = some (.int .i64 d.b)) (w3.drewN n4) := ((Ext.refl No w3).drewN n4).cell hC3 id
    refine hK _ _ hC4 ?_
    clear hK K
    try simp only [Act.put, List.setIfInBounds_toArray, List.set_cons_zero, List.set_cons_succ]
    clear hB3 a2 a3 h2 h3 hq2 hd2 x2 x3 hp hq hd d1 d2 hC hC2 hC3
    refine anyZ_last rfl (by kernel_rfl) (fun K hK => ?_)
    go_simp
    refine hK _ _ ?_
    clear hK K
    try simp only [Act.put, List.setIfInBounds_toArray, List.set_cons_zero, List.set_cons_succ]
    refine anyZ_done (by kernel_rfl) ?_ _
    go_wp2_with fail
    go_ret
    exact ⟨rfl, _, _, _, hB4⟩
  · go_wp2_with fail
    have hxd : Ext No W W.drew := (Ext.refl No W).drew
    refine anyZ_begin 9 (fun w' => w'.cell? ⟨db, 2, none⟩ = some (.int .i64 d.c)) (by kernel_rfl) ?_
    have hC : (fun w' : World => w'.cell? ⟨db, 2, none⟩ = some (.int .i64 d.c)) W.drew := d2
    refine anyZ_take 0 (v := ?_) rfl (by kernel_rfl) (by kernel_rfl) (by kernel_rfl) (by kernel_rfl) (fun _ _ _ h => h) hC (Or.inl ⟨by rfl, ?_⟩) ?_
    rotate_left
    · (intro wq hq; (try dsimp only at hq); go_simp; with_reducible rfl)
    simp only [Act.put, List.setIfInBounds_toArray, List.set_cons_zero, List.set_cons_succ]
    refine anyZ_take 1 (v := ?_) rfl (by kernel_rfl) (by kernel_rfl) (by kernel_rfl) (by kernel_rfl) (fun _ _ _ h => h) hC (Or.inl ⟨by rfl, ?_⟩) ?_
    rotate_left
    · (intro wq hq; (try dsimp only at hq); go_simp; with_reducible rfl)
    simp only [Act.put, List.setIfInBounds_toArray, List.set_cons_zero, List.set_cons_succ]
    refine anyZ_take 2 (v := ?_) rfl (by kernel_rfl) (by kernel_rfl) (by kernel_rfl) (by kernel_rfl) (fun _ _ _ h => h) hC (Or.inl ⟨by rfl, ?_⟩) ?_
    rotate_left
    · (intro wq hq; (try dsimp only at hq); go_simp; with_reducible rfl)
    simp only [Act.put, List.setIfInBounds_toArray, List.set_cons_zero, List.set_cons_succ]
    refine anyZ_take 4 (v := ?_) rfl (by kernel_rfl) (by kernel_rfl) (by kernel_rfl) (by kernel_rfl) (fun _ _ _ h => h) hC (Or.inl ⟨by rfl, ?_⟩) ?_
    rotate_left
    · (intro wq hq; (try dsimp only at hq); go_simp; with_reducible rfl)
    simp only [Act.put, List.setIfInBounds_toArray, List.set_cons_zero, List.set_cons_succ]
    refine anyZ_take 5 (v := ?_) rfl (by kernel_rfl) (by kernel_rfl) (by kernel_rfl) (by kernel_rfl) (fun _ _ _ h => h) hC (Or.inl ⟨by rfl, ?_⟩) ?_
    rotate_left
    · (intro wq hq; (try dsimp only at hq); go_simp; with_reducible rfl)
    simp only [Act.put, List.setIfInBounds_toArray, List.set_cons_zero, List.set_cons_succ]
    refine anyZ_take 6 (v := ?_) rfl (by kernel_rfl) (by kernel_rfl) (by kernel_rfl) (by kernel_rfl) (fun _ _ _ h => h) hC (Or.inl ⟨by rfl, ?_⟩) ?_
    rotate_left
    · (intro wq hq; (try dsimp only at hq); go_simp; with_reducible rfl)
    simp only [Act.put, List.setIfInBounds_toArray, List.set_cons_zero, List.set_cons_succ]
    refine anyZ_step 3 rfl (by kernel_rfl) (fun K hK => ?_)
    go_simp
    have hB := NB.extNo ⟨hp, hq, hd⟩ hxd
    refine (nt_has hB.1 d.c rfl).mono ?_
    rintro e w2 ⟨rfl, _, x2⟩
    have hC2 : (fun w' : World => w'.cell? ⟨db, 2, none⟩ = some (.int .i64 d.c)) w2 := x2.cell d2 id
    have hB := hB.extNo x2
    refine hK _ _ hC2 ?_
    clear hK K
    try simp only [Act.put, List.setIfInBounds_toArray, List.set_cons_zero, List.set_cons_succ]
    refine anyZ_step 7 rfl (by kernel_rfl) (fun K hK => ?_)
    go_simp
    refine (rs_has _ _ _ _ _ hB.2.1.s d.c).mono ?_
    rintro e w3 ⟨rfl, rfl⟩
    refine hK _ _ hC2 ?_
    clear hK K
    try simp only [Act.put, List.setIfInBounds_toArray, List.set_cons_zero, List.set_cons_succ]
    refine anyZ_take 8 (v := ?_) rfl (by kernel_rfl) (by kernel_rfl) (by kernel_rfl) (by kernel_rfl) (fun _ _ _ h => h) hC2 (Or.inl ⟨by rfl, ?_⟩) ?_
    rotate_left
    · (intro wq hq; (try dsimp only at hq); go_simp; with_reducible rfl)
    simp only [Act.put, List.setIfInBounds_toArray, List.set_cons_zero, List.set_cons_succ]
    clear hp hq hd d1 d2 hC hC2 x2
    refine anyZ_last rfl (by kernel_rfl) (fun K hK => ?_)
    go_simp
    refine hK _ _ ?_
    clear hK K
    try simp only [Act.put, List.setIfInBounds_toArray, List.set_cons_zero, List.set_cons_succ]
    refine anyZ_done (by kernel_rfl) ?_ _
    go_wp2_with fail
    go_ret
    exact ⟨rfl, _, _, _, hB⟩
end Go.Proofs.Ytjkknjohmekeiaa
