/- Buddies in memory: whole. No condition. -/
import Derived.Test.YtjkknjohmekeiaaBuddyC
namespace Go.Proofs.Ytjkknjohmekeiaa
open Go.RowKit

/-- May a block of an order begin here? -/
def okO (n i o : Nat) : Prop := i % pw o = 0 ∧ i + pw o ≤ n
instance (n i o : Nat) : Decidable (okO n i o) := by unfold okO; infer_instance
def gO (n i : Nat) : Nat → Nat
  | 0 => 0
  | o + 1 => if okO n i (o + 1) then o + 1 else gO n i o
/-- The greatest order of a block that may begin here. -/
def gOrd (n i : Nat) : Nat := gO n i 10
theorem gO_ok {n i o : Nat} (h : okO n i o) : gO n i o = o := by
  cases o with
  | zero => rfl
  | succ o => simp only [gO]; rw [if_pos h]
theorem gO_no {n i o : Nat} (h : ¬ okO n i (o + 1)) : gO n i (o + 1) = gO n i o := by
  simp only [gO]; rw [if_neg h]
theorem gO_le (n i : Nat) : ∀ o, gO n i o ≤ o
  | 0 => Nat.le_refl _
  | o + 1 => by simp only [gO]; split; exact Nat.le_refl _; have := gO_le n i o; omega
theorem gO_is {n i : Nat} (hi : i < n) : ∀ o, okO n i (gO n i o)
  | 0 => ⟨by simp [gO, pw, Nat.mod_one], by simp [gO, pw]; omega⟩
  | o + 1 => by simp only [gO]; split; assumption; exact gO_is hi o
theorem gOrd_is {n i : Nat} (hi : i < n) : okO n i (gOrd n i) := gO_is hi 10
theorem gOrd_le (n i : Nat) : gOrd n i ≤ 10 := gO_le n i 10

def wholeK : Nat → List T3 → Nat → List T3
  | 0, l, _ => l
  | f + 1, l, i => if i < l.length then wholeK f (setL l i ⟨0, gOrd l.length i, 0⟩) (i + pw (gOrd l.length i)) else l
/-- All pages from a place on laid as greatest free blocks. -/
def wholeW (l : List T3) (i : Nat) : List T3 := wholeK (l.length - i) l i
theorem wl_len {l : List T3} {i : Nat} (hi : i < l.length) : (setL l i ⟨0, gOrd l.length i, 0⟩).length = l.length := setL_len (by rw [sz_mk]; exact (gOrd_is hi).2)
theorem wholeK_ge : ∀ (f : Nat) (l : List T3) (i : Nat), l.length - i ≤ f → wholeK f l i = wholeK (l.length - i) l i
  | 0, l, i, h => by rw [show l.length - i = 0 by omega]
  | f + 1, l, i, h => by
    by_cases hi : i < l.length
    · obtain ⟨g, hg⟩ : ∃ g, l.length - i = g + 1 := ⟨l.length - i - 1, by omega⟩
      have hp := pw_pos (gOrd l.length i)
      have hl := wl_len hi
      rw [hg]
      simp only [wholeK]
      rw [if_pos hi, if_pos hi, wholeK_ge f _ _ (by rw [hl]; omega), wholeK_ge g _ _ (by rw [hl]; omega)]
    · rw [show l.length - i = 0 by omega]
      simp only [wholeK]
      rw [if_neg hi]
theorem wholeW_out {l : List T3} {i : Nat} (h : l.length ≤ i) : wholeW l i = l := by
  unfold wholeW; rw [show l.length - i = 0 by omega]; rfl
theorem wholeW_step {l : List T3} {i : Nat} (hi : i < l.length) : wholeW l i = wholeW (setL l i ⟨0, gOrd l.length i, 0⟩) (i + pw (gOrd l.length i)) := by
  have hp := pw_pos (gOrd l.length i)
  have hl := wl_len hi
  unfold wholeW
  obtain ⟨g, hg⟩ : ∃ g, l.length - i = g + 1 := ⟨l.length - i - 1, by omega⟩
  rw [hg]
  simp only [wholeK]
  rw [if_pos hi, wholeK_ge g _ _ (by rw [hl]; omega)]
theorem and_pw (i o : Nat) (hi : i < 4611686018427387904) (ho : o ≤ 10) : Go.bits .and .i64 (i : Int) ((pw o : Nat) - 1) = ((i % pw o : Nat) : Int) := by
  have h1 := pw_pos o
  have h2 := pw_le ho
  have e1 : (((pw o : Nat) : Int) - 1) = ((pw o - 1 : Nat) : Int) := by omega
  have e2 : i &&& (pw o - 1) = i % pw o := by unfold pw; exact Nat.and_two_pow_sub_one_eq_mod _ _
  have h3 : i % pw o < pw o := Nat.mod_lt _ (by omega)
  rw [e1, bits_and_i64 i (pw o - 1) hi (by omega) (by rw [e2]; omega), e2]

theorem none112_no (w : World) (bb base : Nat) (v : Value) (l : List T3) (h : BR w bb base v l) (h0 : 0 < l.length) :
    Calls Try.prog 112 #[.pointer (some ⟨bb, 0, none⟩)] w fun e w' => e = .returned (.bool false) ∧ w = w' := by
  obtain ⟨a, cap, rfl, hlc, hcap⟩ := h.val
  have c0 := h.b.cell' (i := 0) rfl
  have hz : ((l.length : Int) == 0) = false := by rw [beq_eq_false_iff_ne]; omega
  go_enter Try.func112, Try.ntmps112
  go_wp2_with fail
  go_ret
  exact ⟨rfl, rfl⟩

set_option maxRecDepth 100000 in
set_option maxHeartbeats 3200000 in
theorem whole113_spec (w : World) (bb base : Nat) (v : Value) (l : List T3) (h : BR w bb base v l) :
    Calls Try.prog 113 #[.pointer (some ⟨bb, 0, none⟩)] w fun e w' => (∃ u, e = .returned u) ∧ BR w' bb base v (wholeW l 0) ∧ Ext (OwnOf v) w w' := by
  obtain ⟨a, cap, rfl, hlc, hcap⟩ := h.val
  have hn := h.n
  have hbl := h.b.lt
  have hvlt : ∀ x, OwnOf (.slice a l.length cap) x → x < w.heap.size := fun x hx => (h.p.lt x hx).2
  obtain ⟨n, hnn⟩ : ∃ n, l.length = n := ⟨_, rfl⟩
  rw [hnn] at hlc hn hvlt h ⊢
  go_enter Try.func113, Try.ntmps113
  go_wp2_with fail
  go_loopg [2] n (fun g i wr => ∃ (k : Nat) (cur : List T3), n - k ≤ g ∧ k ≤ n ∧ i = .int .i64 k ∧ cur.length = n ∧ BR wr bb base (.slice a n cap) cur ∧ Ext (OwnOf (.slice a n cap)) w wr ∧ wholeW cur k = wholeW l 0)
  case atStart => exact ⟨0, l, by omega, by omega, rfl, hnn, h, Ext.refl _ _, rfl⟩
  case round =>
    clear h
    obtain ⟨k, cur, hk, hkn, rfl, hcl, hB, hx, hw⟩ := hrel
    have hk' := Lib.hid hk
    have hcl' := Lib.hid hcl
    have hw' := Lib.hid hw
    clear hk hw
    have b0 := hB.b.cell' (i := 0) rfl
    have hbl2 := hB.b.lt
    by_cases hlt : k < n
    · clear hcl
      go_upto_block 2 with (fail)
      obtain ⟨X, hX⟩ : ∃ X, wr.heap.size = X := ⟨_, rfl⟩
      have hxa : Ext No wr (wr.alloc (.cells #[.int .i64 k, .int .i64 10] 162)) := (Ext.refl _ _).alloc _
      have hXb : Blk (wr.alloc (.cells #[.int .i64 k, .int .i64 10] 162)) X [.int .i64 k, .int .i64 10] 162 := Blk.new' hX.symm
      have hB1 := hB.extNo hxa
      have hx1 := hx.transNo hxa
      have hXw : w.heap.size ≤ X := by have := hx.size; omega
      rw [hX]
      obtain ⟨W, hW⟩ : ∃ W, wr.alloc (.cells #[.int .i64 k, .int .i64 10] 162) = W := ⟨_, rfl⟩
      rw [hW] at hXb hB1 hx1 ⊢
      clear hW hxa hB hx b0 hX
      go_wp2_with fail
      go_loopg [30] 10 (fun g u wz => ∃ o : Nat, o ≤ g ∧ o ≤ 10 ∧ Blk wz X [.int .i64 k, .int .i64 o] 162 ∧ BR wz bb base (.slice a n cap) cur ∧ Ext (OwnOf (.slice a n cap)) w wz ∧ gO n k o = gOrd n k)
      case atStart => exact ⟨10, Nat.le_refl _, by omega, hXb, hB1, hx1, rfl⟩
      case round =>
        clear hXb hB1 hx1
        obtain ⟨o, hog, ho10, hXb, hBz, hxz, hg0⟩ := hrel
        obtain ⟨wz, hwz⟩ : ∃ wz, wr = wz := ⟨_, rfl⟩
        rw [hwz] at hXb hBz hxz ⊢
        clear hwz
        have hog' := Lib.hid hog
        have hg0' := Lib.hid hg0
        clear hog hg0
        have v0 := hBz.b.cell' (i := 0) rfl
        have q0 := hXb.cell' (i := 0) rfl
        have q1 := hXb.cell' (i := 1) rfl
        have z1 := pw_pos o
        have z2 := pw_le ho10
        have hm := and_pw k o (by omega) ho10
        obtain ⟨z, hz⟩ : ∃ z, pw o = z := ⟨_, rfl⟩
        rw [hz] at z1 z2 hm
        have hz' := Lib.hid hz
        clear hz
        have z3 : (1 : Int) ≤ z := by omega
        have z4 : (z : Int) ≤ 1024 := by omega
        have hw1 : IntKind.i64.wrap ((z : Int) - 1) = (z : Int) - 1 := by rw [IntKind.wrap_i64]; omega
        have hw2 : IntKind.i64.wrap ((k : Int) + z) = (k : Int) + z := by rw [IntKind.wrap_i64]; omega
        go_wp2_with fail
        by_cases g1 : k % z = 0
        · have hb1 : ((k : Int) % (z : Int) == 0) = true := by rw [beq_iff_eq]; omega
          have hb3 : ((k : Int) % (z : Int) != 0) = false := by rw [bne, hb1]; rfl
          by_cases g2 : k + z ≤ n
          · have hd : decide ((n : Int) < (k : Int) + z) = false := decide_eq_false (by omega)
            have hok : okO n k o := by unfold okO; rw [hz'.out]; exact ⟨g1, g2⟩
            have hgo : Hid (o = gOrd n k) := by show _ = _; rw [← hg0'.out, gO_ok hok]
            clear g1 hok
            have hxd : Ext No wz wz.drew := (Ext.refl No wz).drew
            refine anyZ_begin 18 (fun w' => w'.cell? ⟨X, 0, none⟩ = some (.int .i64 k) ∧ w'.cell? ⟨X, 1, none⟩ = some (.int .i64 o) ∧ w'.cell? ⟨bb, 0, none⟩ = some (.slice a n cap)) (by kernel_rfl) ?_
            have hC : (fun w' : World => w'.cell? ⟨X, 0, none⟩ = some (.int .i64 k) ∧ w'.cell? ⟨X, 1, none⟩ = some (.int .i64 o) ∧ w'.cell? ⟨bb, 0, none⟩ = some (.slice a n cap)) wz.drew := ⟨q0, q1, v0⟩
            refine anyZ_take 0 (v := ?_) rfl (by kernel_rfl) (by kernel_rfl) (by kernel_rfl) (by kernel_rfl) (fun _ _ _ h => h) hC (Or.inl ⟨by rfl, ?_⟩) ?_
            rotate_left
            · (intro wq hq; (try dsimp only at hq); go_simp; with_reducible rfl)
            simp only [Act.put, List.setIfInBounds_toArray, List.set_cons_zero, List.set_cons_succ]
            refine anyZ_take 1 (v := ?_) rfl (by kernel_rfl) (by kernel_rfl) (by kernel_rfl) (by kernel_rfl) (fun _ _ _ h => h) hC (Or.inl ⟨by rfl, ?_⟩) ?_
            rotate_left
            · (intro wq hq; (try dsimp only at hq); go_simp; with_reducible rfl)
            simp only [Act.put, List.setIfInBounds_toArray, List.set_cons_zero, List.set_cons_succ]
            refine anyZ_step 2 rfl (by kernel_rfl) (fun K hK => ?_)
            go_simp
            refine (size141_spec _ k o (by omega)).mono ?_
            rintro e w2 ⟨rfl, hx2⟩
            rw [hz'.out]
            have hX2 := hxd.transNo hx2
            have hC2 : (fun w' : World => w'.cell? ⟨X, 0, none⟩ = some (.int .i64 k) ∧ w'.cell? ⟨X, 1, none⟩ = some (.int .i64 o) ∧ w'.cell? ⟨bb, 0, none⟩ = some (.slice a n cap)) w2 := ⟨hX2.cell q0 id, hX2.cell q1 id, hX2.cell v0 id⟩
            refine hK _ _ hC2 ?_
            clear hK K
            try simp only [Act.put, List.setIfInBounds_toArray, List.set_cons_zero, List.set_cons_succ]
            refine anyZ_take 3 (v := ?_) rfl (by kernel_rfl) (by kernel_rfl) (by kernel_rfl) (by kernel_rfl) (fun _ _ _ h => h) hC2 (Or.inl ⟨by rfl, ?_⟩) ?_
            rotate_left
            · (intro wq hq; (try dsimp only at hq); go_simp; with_reducible rfl)
            simp only [Act.put, List.setIfInBounds_toArray, List.set_cons_zero, List.set_cons_succ]
            refine anyZ_take 4 (v := ?_) rfl (by kernel_rfl) (by kernel_rfl) (by kernel_rfl) (by kernel_rfl) (fun _ _ _ h => h) hC2 (Or.inl ⟨by rfl, ?_⟩) ?_
            rotate_left
            · (intro wq hq; (try dsimp only at hq); go_simp; with_reducible rfl)
            simp only [Act.put, List.setIfInBounds_toArray, List.set_cons_zero, List.set_cons_succ]
            refine anyZ_take 5 (v := ?_) rfl (by kernel_rfl) (by kernel_rfl) (by kernel_rfl) (by kernel_rfl) (fun _ _ _ h => h) hC2 (Or.inl ⟨by rfl, ?_⟩) ?_
            rotate_left
            · (intro wq hq; (try dsimp only at hq); go_simp; with_reducible rfl)
            simp only [Act.put, List.setIfInBounds_toArray, List.set_cons_zero, List.set_cons_succ]
            refine anyZ_take 6 (v := ?_) rfl (by kernel_rfl) (by kernel_rfl) (by kernel_rfl) (by kernel_rfl) (fun _ _ _ h => h) hC2 (Or.inl ⟨by rfl, ?_⟩) ?_
            rotate_left
            · (intro wq hq; (try dsimp only at hq); go_simp; with_reducible rfl)
            simp only [Act.put, List.setIfInBounds_toArray, List.set_cons_zero, List.set_cons_succ]
            refine anyZ_take 7 (v := ?_) rfl (by kernel_rfl) (by kernel_rfl) (by kernel_rfl) (by kernel_rfl) (fun _ _ _ h => h) hC2 (Or.inl ⟨by rfl, ?_⟩) ?_
            rotate_left
            · (intro wq hq; (try dsimp only at hq); go_simp; with_reducible rfl)
            simp only [Act.put, List.setIfInBounds_toArray, List.set_cons_zero, List.set_cons_succ]
            refine anyZ_take 8 (v := ?_) rfl (by kernel_rfl) (by kernel_rfl) (by kernel_rfl) (by kernel_rfl) (fun _ _ _ h => h) hC2 (Or.inl ⟨by rfl, ?_⟩) ?_
            rotate_left
            · (intro wq hq; (try dsimp only at hq); go_simp; with_reducible rfl)
            simp only [Act.put, List.setIfInBounds_toArray, List.set_cons_zero, List.set_cons_succ]
            refine anyZ_take 11 (v := ?_) rfl (by kernel_rfl) (by kernel_rfl) (by kernel_rfl) (by kernel_rfl) (fun _ _ _ h => h) hC2 (Or.inl ⟨by rfl, ?_⟩) ?_
            rotate_left
            · (intro wq hq; (try dsimp only at hq); go_simp; with_reducible rfl)
            simp only [Act.put, List.setIfInBounds_toArray, List.set_cons_zero, List.set_cons_succ]
            refine anyZ_take 12 (v := ?_) rfl (by kernel_rfl) (by kernel_rfl) (by kernel_rfl) (by kernel_rfl) (fun _ _ _ h => h) hC2 (Or.inl ⟨by rfl, ?_⟩) ?_
            rotate_left
            · (intro wq hq; (try dsimp only at hq); go_simp; with_reducible rfl)
            simp only [Act.put, List.setIfInBounds_toArray, List.set_cons_zero, List.set_cons_succ]
            refine anyZ_take 13 (v := ?_) rfl (by kernel_rfl) (by kernel_rfl) (by kernel_rfl) (by kernel_rfl) (fun _ _ _ h => h) hC2 (Or.inl ⟨by rfl, ?_⟩) ?_
            rotate_left
            · (intro wq hq; (try dsimp only at hq); go_simp; with_reducible rfl)
            simp only [Act.put, List.setIfInBounds_toArray, List.set_cons_zero, List.set_cons_succ]
            refine anyZ_take 14 (v := ?_) rfl (by kernel_rfl) (by kernel_rfl) (by kernel_rfl) (by kernel_rfl) (fun _ _ _ h => h) hC2 (Or.inl ⟨by rfl, ?_⟩) ?_
            rotate_left
            · (intro wq hq; (try dsimp only at hq); go_simp; with_reducible rfl)
            simp only [Act.put, List.setIfInBounds_toArray, List.set_cons_zero, List.set_cons_succ]
            refine anyZ_take 15 (v := ?_) rfl (by kernel_rfl) (by kernel_rfl) (by kernel_rfl) (by kernel_rfl) (fun _ _ _ h => h) hC2 (Or.inl ⟨by rfl, ?_⟩) ?_
            rotate_left
            · (intro wq hq; (try dsimp only at hq); go_simp; with_reducible rfl)
            simp only [Act.put, List.setIfInBounds_toArray, List.set_cons_zero, List.set_cons_succ]
            refine anyZ_step 9 rfl (by kernel_rfl) (fun K hK => ?_)
            go_simp
            refine (size141_spec _ k o (by omega)).mono ?_
            rintro e w3 ⟨rfl, hx3⟩
            rw [hz'.out]
            have hX3 := hX2.transNo hx3
            have hC3 : (fun w' : World => w'.cell? ⟨X, 0, none⟩ = some (.int .i64 k) ∧ w'.cell? ⟨X, 1, none⟩ = some (.int .i64 o) ∧ w'.cell? ⟨bb, 0, none⟩ = some (.slice a n cap)) w3 := ⟨hX3.cell q0 id, hX3.cell q1 id, hX3.cell v0 id⟩
            refine hK _ _ hC3 ?_
            clear hK K
            try simp only [Act.put, List.setIfInBounds_toArray, List.set_cons_zero, List.set_cons_succ]
            refine anyZ_take 10 (v := ?_) rfl (by kernel_rfl) (by kernel_rfl) (by kernel_rfl) (by kernel_rfl) (fun _ _ _ h => h) hC3 (Or.inl ⟨by rfl, ?_⟩) ?_
            rotate_left
            · (intro wq hq; (try dsimp only at hq); go_simp; with_reducible rfl)
            simp only [Act.put, List.setIfInBounds_toArray, List.set_cons_zero, List.set_cons_succ]
            refine anyZ_take 16 (v := ?_) rfl (by kernel_rfl) (by kernel_rfl) (by kernel_rfl) (by kernel_rfl) (fun _ _ _ h => h) hC3 (Or.inl ⟨by rfl, ?_⟩) ?_
            rotate_left
            · (intro wq hq; (try dsimp only at hq); go_simp; with_reducible rfl)
            simp only [Act.put, List.setIfInBounds_toArray, List.set_cons_zero, List.set_cons_succ]
            refine anyZ_take 17 (v := ?_) rfl (by kernel_rfl) (by kernel_rfl) (by kernel_rfl) (by kernel_rfl) (fun _ _ _ h => h) hC3 (Or.inl ⟨by rfl, ?_⟩) ?_
            rotate_left
            · (intro wq hq; (try dsimp only at hq); go_simp; with_reducible rfl)
            simp only [Act.put, List.setIfInBounds_toArray, List.set_cons_zero, List.set_cons_succ]
            refine anyZ_done (by kernel_rfl) ?_ _
            clear hC hC2 hC3 hw1 hw2
            have hX3b := hXb.extNo hX3
            have s0 := hX3b.cell' (i := 0) rfl
            have s1 := hX3b.cell' (i := 1) rfl
            clear q0 q1 v0 hxd
            go_wp2_with fail
            refine (lay117_spec w3 bb base _ cur (hBz.extNo hX3) k o ho10 (by rw [hcl'.out, hz'.out]; exact g2) ⟨0, 0, 0⟩).mono ?_
            rintro e w4 ⟨⟨u4, rfl⟩, hB4, hx4⟩
            have hX4 := hX3b.ext hx4 (fun ho => by have := hvlt X ho; omega)
            clear s0 s1
            have s0 := hX4.cell' (i := 0) rfl
            have s1 := hX4.cell' (i := 1) rfl
            go_wp2_with fail
            refine (size141_spec _ k o ho10).mono ?_
            rintro e w5 ⟨rfl, hx5⟩
            rw [hz'.out]
            have hst : Hid (wholeW (setL cur k ⟨0, o, 0⟩) (k + z) = wholeW l 0) := by
              show _ = _
              rw [← hw'.out, wholeW_step (l := cur) (i := k) (by rw [hcl'.out]; exact hlt), hcl'.out, ← hgo.out, hz'.out]
            have hcs : Hid ((setL cur k ⟨0, o, 0⟩).length = n) := by show _ = _; rw [setL_len (l := cur) (i := k) (p := ⟨0, o, 0⟩) (by rw [sz_mk, hz'.out, hcl'.out]; exact g2)]; exact hcl'.out
            have hB5 := hB4.extNo hx5
            have hx5' := ((hxz.transNo hX3).transSame hx4).transNo hx5
            clear s0 s1 hB4 hx4 hx5
            go_wp2_with fail
            go_roundg (n - (k + z))
            case measure => have := hk'.out; omega
            case rel => exact ⟨k + z, _, by omega, g2, by go_num, hcs.out, hB5, hx5', hst.out⟩
          · have hd : decide ((n : Int) < (k : Int) + z) = true := decide_eq_true (by omega)
            have hno : ¬ okO n k o := by unfold okO; rw [hz'.out]; exact fun h => g2 h.2
            have ho0 : 0 < o := by
              rcases Nat.eq_zero_or_pos o with h0 | h0
              · subst h0
                have : z = 1 := by rw [← hz'.out]; rfl
                omega
              · exact h0
            have hgn : Hid (gO n k (o - 1) = gOrd n k) := by
              show _ = _
              have := hg0'.out
              obtain ⟨m, rfl⟩ : ∃ m, o = m + 1 := ⟨o - 1, by omega⟩
              rw [gO_no hno] at this; exact this
            clear g1 hno
            have hxd : Ext No wz wz.drew := (Ext.refl No wz).drew
            refine anyZ_begin 18 (fun w' => w'.cell? ⟨X, 0, none⟩ = some (.int .i64 k) ∧ w'.cell? ⟨X, 1, none⟩ = some (.int .i64 o) ∧ w'.cell? ⟨bb, 0, none⟩ = some (.slice a n cap)) (by kernel_rfl) ?_
            have hC : (fun w' : World => w'.cell? ⟨X, 0, none⟩ = some (.int .i64 k) ∧ w'.cell? ⟨X, 1, none⟩ = some (.int .i64 o) ∧ w'.cell? ⟨bb, 0, none⟩ = some (.slice a n cap)) wz.drew := ⟨q0, q1, v0⟩
            refine anyZ_take 0 (v := ?_) rfl (by kernel_rfl) (by kernel_rfl) (by kernel_rfl) (by kernel_rfl) (fun _ _ _ h => h) hC (Or.inl ⟨by rfl, ?_⟩) ?_
            rotate_left
            · (intro wq hq; (try dsimp only at hq); go_simp; with_reducible rfl)
            simp only [Act.put, List.setIfInBounds_toArray, List.set_cons_zero, List.set_cons_succ]
            refine anyZ_take 1 (v := ?_) rfl (by kernel_rfl) (by kernel_rfl) (by kernel_rfl) (by kernel_rfl) (fun _ _ _ h => h) hC (Or.inl ⟨by rfl, ?_⟩) ?_
            rotate_left
            · (intro wq hq; (try dsimp only at hq); go_simp; with_reducible rfl)
            simp only [Act.put, List.setIfInBounds_toArray, List.set_cons_zero, List.set_cons_succ]
            refine anyZ_step 2 rfl (by kernel_rfl) (fun K hK => ?_)
            go_simp
            refine (size141_spec _ k o (by omega)).mono ?_
            rintro e w2 ⟨rfl, hx2⟩
            rw [hz'.out]
            have hX2 := hxd.transNo hx2
            have hC2 : (fun w' : World => w'.cell? ⟨X, 0, none⟩ = some (.int .i64 k) ∧ w'.cell? ⟨X, 1, none⟩ = some (.int .i64 o) ∧ w'.cell? ⟨bb, 0, none⟩ = some (.slice a n cap)) w2 := ⟨hX2.cell q0 id, hX2.cell q1 id, hX2.cell v0 id⟩
            refine hK _ _ hC2 ?_
            clear hK K
            try simp only [Act.put, List.setIfInBounds_toArray, List.set_cons_zero, List.set_cons_succ]
            refine anyZ_take 3 (v := ?_) rfl (by kernel_rfl) (by kernel_rfl) (by kernel_rfl) (by kernel_rfl) (fun _ _ _ h => h) hC2 (Or.inl ⟨by rfl, ?_⟩) ?_
            rotate_left
            · (intro wq hq; (try dsimp only at hq); go_simp; with_reducible rfl)
            simp only [Act.put, List.setIfInBounds_toArray, List.set_cons_zero, List.set_cons_succ]
            refine anyZ_take 4 (v := ?_) rfl (by kernel_rfl) (by kernel_rfl) (by kernel_rfl) (by kernel_rfl) (fun _ _ _ h => h) hC2 (Or.inl ⟨by rfl, ?_⟩) ?_
            rotate_left
            · (intro wq hq; (try dsimp only at hq); go_simp; with_reducible rfl)
            simp only [Act.put, List.setIfInBounds_toArray, List.set_cons_zero, List.set_cons_succ]
            refine anyZ_take 5 (v := ?_) rfl (by kernel_rfl) (by kernel_rfl) (by kernel_rfl) (by kernel_rfl) (fun _ _ _ h => h) hC2 (Or.inl ⟨by rfl, ?_⟩) ?_
            rotate_left
            · (intro wq hq; (try dsimp only at hq); go_simp; with_reducible rfl)
            simp only [Act.put, List.setIfInBounds_toArray, List.set_cons_zero, List.set_cons_succ]
            refine anyZ_take 6 (v := ?_) rfl (by kernel_rfl) (by kernel_rfl) (by kernel_rfl) (by kernel_rfl) (fun _ _ _ h => h) hC2 (Or.inl ⟨by rfl, ?_⟩) ?_
            rotate_left
            · (intro wq hq; (try dsimp only at hq); go_simp; with_reducible rfl)
            simp only [Act.put, List.setIfInBounds_toArray, List.set_cons_zero, List.set_cons_succ]
            refine anyZ_take 7 (v := ?_) rfl (by kernel_rfl) (by kernel_rfl) (by kernel_rfl) (by kernel_rfl) (fun _ _ _ h => h) hC2 (Or.inl ⟨by rfl, ?_⟩) ?_
            rotate_left
            · (intro wq hq; (try dsimp only at hq); go_simp; with_reducible rfl)
            simp only [Act.put, List.setIfInBounds_toArray, List.set_cons_zero, List.set_cons_succ]
            refine anyZ_take 8 (v := ?_) rfl (by kernel_rfl) (by kernel_rfl) (by kernel_rfl) (by kernel_rfl) (fun _ _ _ h => h) hC2 (Or.inl ⟨by rfl, ?_⟩) ?_
            rotate_left
            · (intro wq hq; (try dsimp only at hq); go_simp; with_reducible rfl)
            simp only [Act.put, List.setIfInBounds_toArray, List.set_cons_zero, List.set_cons_succ]
            refine anyZ_take 11 (v := ?_) rfl (by kernel_rfl) (by kernel_rfl) (by kernel_rfl) (by kernel_rfl) (fun _ _ _ h => h) hC2 (Or.inl ⟨by rfl, ?_⟩) ?_
            rotate_left
            · (intro wq hq; (try dsimp only at hq); go_simp; with_reducible rfl)
            simp only [Act.put, List.setIfInBounds_toArray, List.set_cons_zero, List.set_cons_succ]
            refine anyZ_take 12 (v := ?_) rfl (by kernel_rfl) (by kernel_rfl) (by kernel_rfl) (by kernel_rfl) (fun _ _ _ h => h) hC2 (Or.inl ⟨by rfl, ?_⟩) ?_
            rotate_left
            · (intro wq hq; (try dsimp only at hq); go_simp; with_reducible rfl)
            simp only [Act.put, List.setIfInBounds_toArray, List.set_cons_zero, List.set_cons_succ]
            refine anyZ_take 13 (v := ?_) rfl (by kernel_rfl) (by kernel_rfl) (by kernel_rfl) (by kernel_rfl) (fun _ _ _ h => h) hC2 (Or.inl ⟨by rfl, ?_⟩) ?_
            rotate_left
            · (intro wq hq; (try dsimp only at hq); go_simp; with_reducible rfl)
            simp only [Act.put, List.setIfInBounds_toArray, List.set_cons_zero, List.set_cons_succ]
            refine anyZ_take 14 (v := ?_) rfl (by kernel_rfl) (by kernel_rfl) (by kernel_rfl) (by kernel_rfl) (fun _ _ _ h => h) hC2 (Or.inl ⟨by rfl, ?_⟩) ?_
            rotate_left
            · (intro wq hq; (try dsimp only at hq); go_simp; with_reducible rfl)
            simp only [Act.put, List.setIfInBounds_toArray, List.set_cons_zero, List.set_cons_succ]
            refine anyZ_take 15 (v := ?_) rfl (by kernel_rfl) (by kernel_rfl) (by kernel_rfl) (by kernel_rfl) (fun _ _ _ h => h) hC2 (Or.inl ⟨by rfl, ?_⟩) ?_
            rotate_left
            · (intro wq hq; (try dsimp only at hq); go_simp; with_reducible rfl)
            simp only [Act.put, List.setIfInBounds_toArray, List.set_cons_zero, List.set_cons_succ]
            refine anyZ_step 9 rfl (by kernel_rfl) (fun K hK => ?_)
            go_simp
            refine (size141_spec _ k o (by omega)).mono ?_
            rintro e w3 ⟨rfl, hx3⟩
            rw [hz'.out]
            have hX3 := hX2.transNo hx3
            have hC3 : (fun w' : World => w'.cell? ⟨X, 0, none⟩ = some (.int .i64 k) ∧ w'.cell? ⟨X, 1, none⟩ = some (.int .i64 o) ∧ w'.cell? ⟨bb, 0, none⟩ = some (.slice a n cap)) w3 := ⟨hX3.cell q0 id, hX3.cell q1 id, hX3.cell v0 id⟩
            refine hK _ _ hC3 ?_
            clear hK K
            try simp only [Act.put, List.setIfInBounds_toArray, List.set_cons_zero, List.set_cons_succ]
            refine anyZ_take 10 (v := ?_) rfl (by kernel_rfl) (by kernel_rfl) (by kernel_rfl) (by kernel_rfl) (fun _ _ _ h => h) hC3 (Or.inl ⟨by rfl, ?_⟩) ?_
            rotate_left
            · (intro wq hq; (try dsimp only at hq); go_simp; with_reducible rfl)
            simp only [Act.put, List.setIfInBounds_toArray, List.set_cons_zero, List.set_cons_succ]
            refine anyZ_take 16 (v := ?_) rfl (by kernel_rfl) (by kernel_rfl) (by kernel_rfl) (by kernel_rfl) (fun _ _ _ h => h) hC3 (Or.inl ⟨by rfl, ?_⟩) ?_
            rotate_left
            · (intro wq hq; (try dsimp only at hq); go_simp; with_reducible rfl)
            simp only [Act.put, List.setIfInBounds_toArray, List.set_cons_zero, List.set_cons_succ]
            refine anyZ_take 17 (v := ?_) rfl (by kernel_rfl) (by kernel_rfl) (by kernel_rfl) (by kernel_rfl) (fun _ _ _ h => h) hC3 (Or.inl ⟨by rfl, ?_⟩) ?_
            rotate_left
            · (intro wq hq; (try dsimp only at hq); go_simp; with_reducible rfl)
            simp only [Act.put, List.setIfInBounds_toArray, List.set_cons_zero, List.set_cons_succ]
            refine anyZ_done (by kernel_rfl) ?_ _
            clear hC hC2 hC3 hw1 hw2
            have hXs := hXb.extNo hX3
            have s1 := hXs.cell' (i := 1) rfl
            have t1 := hXs.frozen 1
            have hXs2 := Lib.hid (hXs.set 1 (.int .i64 ((o - 1 : Nat) : Int)))
            have ho1 : ((o : Int) - 1) = ((o - 1 : Nat) : Int) := by omega
            have hset : Ext (One X) w3 (w3.setCell ⟨X, 1, none⟩ (.int .i64 ((o - 1 : Nat) : Int))) := Ext.set1 _ _ _ _
            have hBs := (hBz.extNo hX3).ext hset (fun e : bb = X => by omega) (fun x hx' (e : x = X) => by have := hvlt x hx'; omega)
            have hxs := (hxz.transNo hX3).trans hset (fun x hx' (e : x = X) => by omega)
            clear q0 q1 v0 hxd hset
            go_wp2_with fail
            go_roundg (o - 1)
            case measure => have := hog'.out; omega
            case rel => exact ⟨o - 1, Nat.le_refl _, by omega, hXs2.out, hBs, hxs, hgn.out⟩
        · have hb1 : ((k : Int) % (z : Int) == 0) = false := by rw [beq_eq_false_iff_ne]; omega
          have hb3 : ((k : Int) % (z : Int) != 0) = true := by rw [bne, hb1]; rfl
          have hno : ¬ okO n k o := by unfold okO; rw [hz'.out]; exact fun h => g1 h.1
          have ho0 : 0 < o := by
            rcases Nat.eq_zero_or_pos o with h0 | h0
            · subst h0
              have : z = 1 := by rw [← hz'.out]; rfl
              subst this
              exact absurd (Nat.mod_one k) g1
            · exact h0
          have hgn : Hid (gO n k (o - 1) = gOrd n k) := by
            show _ = _
            have := hg0'.out
            obtain ⟨m, rfl⟩ : ∃ m, o = m + 1 := ⟨o - 1, by omega⟩
            rw [gO_no hno] at this; exact this
          clear g1 hno
          have hxd : Ext No wz wz.drew := (Ext.refl No wz).drew
          refine anyZ_begin 18 (fun w' => w'.cell? ⟨X, 0, none⟩ = some (.int .i64 k) ∧ w'.cell? ⟨X, 1, none⟩ = some (.int .i64 o) ∧ w'.cell? ⟨bb, 0, none⟩ = some (.slice a n cap)) (by kernel_rfl) ?_
          have hC : (fun w' : World => w'.cell? ⟨X, 0, none⟩ = some (.int .i64 k) ∧ w'.cell? ⟨X, 1, none⟩ = some (.int .i64 o) ∧ w'.cell? ⟨bb, 0, none⟩ = some (.slice a n cap)) wz.drew := ⟨q0, q1, v0⟩
          refine anyZ_take 0 (v := ?_) rfl (by kernel_rfl) (by kernel_rfl) (by kernel_rfl) (by kernel_rfl) (fun _ _ _ h => h) hC (Or.inl ⟨by rfl, ?_⟩) ?_
          rotate_left
          · (intro wq hq; (try dsimp only at hq); go_simp; with_reducible rfl)
          simp only [Act.put, List.setIfInBounds_toArray, List.set_cons_zero, List.set_cons_succ]
          refine anyZ_take 1 (v := ?_) rfl (by kernel_rfl) (by kernel_rfl) (by kernel_rfl) (by kernel_rfl) (fun _ _ _ h => h) hC (Or.inl ⟨by rfl, ?_⟩) ?_
          rotate_left
          · (intro wq hq; (try dsimp only at hq); go_simp; with_reducible rfl)
          simp only [Act.put, List.setIfInBounds_toArray, List.set_cons_zero, List.set_cons_succ]
          refine anyZ_step 2 rfl (by kernel_rfl) (fun K hK => ?_)
          go_simp
          refine (size141_spec _ k o (by omega)).mono ?_
          rintro e w2 ⟨rfl, hx2⟩
          rw [hz'.out]
          have hX2 := hxd.transNo hx2
          have hC2 : (fun w' : World => w'.cell? ⟨X, 0, none⟩ = some (.int .i64 k) ∧ w'.cell? ⟨X, 1, none⟩ = some (.int .i64 o) ∧ w'.cell? ⟨bb, 0, none⟩ = some (.slice a n cap)) w2 := ⟨hX2.cell q0 id, hX2.cell q1 id, hX2.cell v0 id⟩
          refine hK _ _ hC2 ?_
          clear hK K
          try simp only [Act.put, List.setIfInBounds_toArray, List.set_cons_zero, List.set_cons_succ]
          refine anyZ_take 3 (v := ?_) rfl (by kernel_rfl) (by kernel_rfl) (by kernel_rfl) (by kernel_rfl) (fun _ _ _ h => h) hC2 (Or.inl ⟨by rfl, ?_⟩) ?_
          rotate_left
          · (intro wq hq; (try dsimp only at hq); go_simp; with_reducible rfl)
          simp only [Act.put, List.setIfInBounds_toArray, List.set_cons_zero, List.set_cons_succ]
          refine anyZ_take 4 (v := ?_) rfl (by kernel_rfl) (by kernel_rfl) (by kernel_rfl) (by kernel_rfl) (fun _ _ _ h => h) hC2 (Or.inl ⟨by rfl, ?_⟩) ?_
          rotate_left
          · (intro wq hq; (try dsimp only at hq); go_simp; with_reducible rfl)
          simp only [Act.put, List.setIfInBounds_toArray, List.set_cons_zero, List.set_cons_succ]
          refine anyZ_take 5 (v := ?_) rfl (by kernel_rfl) (by kernel_rfl) (by kernel_rfl) (by kernel_rfl) (fun _ _ _ h => h) hC2 (Or.inl ⟨by rfl, ?_⟩) ?_
          rotate_left
          · (intro wq hq; (try dsimp only at hq); go_simp; with_reducible rfl)
          simp only [Act.put, List.setIfInBounds_toArray, List.set_cons_zero, List.set_cons_succ]
          refine anyZ_take 6 (v := ?_) rfl (by kernel_rfl) (by kernel_rfl) (by kernel_rfl) (by kernel_rfl) (fun _ _ _ h => h) hC2 (Or.inl ⟨by rfl, ?_⟩) ?_
          rotate_left
          · (intro wq hq; (try dsimp only at hq); go_simp; with_reducible rfl)
          simp only [Act.put, List.setIfInBounds_toArray, List.set_cons_zero, List.set_cons_succ]
          refine anyZ_take 7 (v := undef) rfl (by kernel_rfl) (by kernel_rfl) (by kernel_rfl) (by kernel_rfl) (fun _ _ _ h => h) hC2 (Or.inr ⟨by rfl, rfl⟩) ?_
          simp only [Act.put, List.setIfInBounds_toArray, List.set_cons_zero, List.set_cons_succ]
          refine anyZ_take 8 (v := undef) rfl (by kernel_rfl) (by kernel_rfl) (by kernel_rfl) (by kernel_rfl) (fun _ _ _ h => h) hC2 (Or.inr ⟨by rfl, rfl⟩) ?_
          simp only [Act.put, List.setIfInBounds_toArray, List.set_cons_zero, List.set_cons_succ]
          refine anyZ_take 9 (v := undef) rfl (by kernel_rfl) (by kernel_rfl) (by kernel_rfl) (by kernel_rfl) (fun _ _ _ h => h) hC2 (Or.inr ⟨by rfl, rfl⟩) ?_
          simp only [Act.put, List.setIfInBounds_toArray, List.set_cons_zero, List.set_cons_succ]
          refine anyZ_take 10 (v := undef) rfl (by kernel_rfl) (by kernel_rfl) (by kernel_rfl) (by kernel_rfl) (fun _ _ _ h => h) hC2 (Or.inr ⟨by rfl, rfl⟩) ?_
          simp only [Act.put, List.setIfInBounds_toArray, List.set_cons_zero, List.set_cons_succ]
          refine anyZ_take 11 (v := undef) rfl (by kernel_rfl) (by kernel_rfl) (by kernel_rfl) (by kernel_rfl) (fun _ _ _ h => h) hC2 (Or.inr ⟨by rfl, rfl⟩) ?_
          simp only [Act.put, List.setIfInBounds_toArray, List.set_cons_zero, List.set_cons_succ]
          refine anyZ_take 12 (v := undef) rfl (by kernel_rfl) (by kernel_rfl) (by kernel_rfl) (by kernel_rfl) (fun _ _ _ h => h) hC2 (Or.inr ⟨by rfl, rfl⟩) ?_
          simp only [Act.put, List.setIfInBounds_toArray, List.set_cons_zero, List.set_cons_succ]
          refine anyZ_take 13 (v := undef) rfl (by kernel_rfl) (by kernel_rfl) (by kernel_rfl) (by kernel_rfl) (fun _ _ _ h => h) hC2 (Or.inr ⟨by rfl, rfl⟩) ?_
          simp only [Act.put, List.setIfInBounds_toArray, List.set_cons_zero, List.set_cons_succ]
          refine anyZ_take 14 (v := undef) rfl (by kernel_rfl) (by kernel_rfl) (by kernel_rfl) (by kernel_rfl) (fun _ _ _ h => h) hC2 (Or.inr ⟨by rfl, rfl⟩) ?_
          simp only [Act.put, List.setIfInBounds_toArray, List.set_cons_zero, List.set_cons_succ]
          refine anyZ_take 15 (v := undef) rfl (by kernel_rfl) (by kernel_rfl) (by kernel_rfl) (by kernel_rfl) (fun _ _ _ h => h) hC2 (Or.inr ⟨by rfl, rfl⟩) ?_
          simp only [Act.put, List.setIfInBounds_toArray, List.set_cons_zero, List.set_cons_succ]
          refine anyZ_take 16 (v := undef) rfl (by kernel_rfl) (by kernel_rfl) (by kernel_rfl) (by kernel_rfl) (fun _ _ _ h => h) hC2 (Or.inr ⟨by rfl, rfl⟩) ?_
          simp only [Act.put, List.setIfInBounds_toArray, List.set_cons_zero, List.set_cons_succ]
          refine anyZ_take 17 (v := ?_) rfl (by kernel_rfl) (by kernel_rfl) (by kernel_rfl) (by kernel_rfl) (fun _ _ _ h => h) hC2 (Or.inl ⟨by rfl, ?_⟩) ?_
          rotate_left
          · (intro wq hq; (try dsimp only at hq); go_simp; with_reducible rfl)
          simp only [Act.put, List.setIfInBounds_toArray, List.set_cons_zero, List.set_cons_succ]
          refine anyZ_done (by kernel_rfl) ?_ _
          clear hC hC2 hw1 hw2
          have hXs := hXb.extNo hX2
          have s1 := hXs.cell' (i := 1) rfl
          have t1 := hXs.frozen 1
          have hXs2 := Lib.hid (hXs.set 1 (.int .i64 ((o - 1 : Nat) : Int)))
          have ho1 : ((o : Int) - 1) = ((o - 1 : Nat) : Int) := by omega
          have hset : Ext (One X) w2 (w2.setCell ⟨X, 1, none⟩ (.int .i64 ((o - 1 : Nat) : Int))) := Ext.set1 _ _ _ _
          have hBs := (hBz.extNo hX2).ext hset (fun e : bb = X => by omega) (fun x hx' (e : x = X) => by have := hvlt x hx'; omega)
          have hxs := (hxz.transNo hX2).trans hset (fun x hx' (e : x = X) => by omega)
          clear q0 q1 v0 hxd hset
          go_wp2_with fail
          go_roundg (o - 1)
          case measure => have := hog'.out; omega
          case rel => exact ⟨o - 1, Nat.le_refl _, by omega, hXs2.out, hBs, hxs, hgn.out⟩
    · have hfin : wholeW l 0 = cur := by rw [← hw'.out]; exact wholeW_out (by omega)
      have hfin' := Lib.hid hfin
      clear hfin hcl
      go_wp2_with fail
      refine bodyPost_end (results_none rfl _ _ _) rfl ⟨⟨_, rfl⟩, by rw [hfin'.out]; exact hB, hx⟩
end Go.Proofs.Ytjkknjohmekeiaa
