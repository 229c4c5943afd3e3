/- The law TapeApart: the walk. No condition but that the scripts lie in memory and the byte is one. -/
import Derived.Test.YtjkknjohmekeiaaTapeP
namespace Go.Proofs.Ytjkknjohmekeiaa
open Go.RowKit

theorem want_of {s : Scr} (h : okB s = true) (m : Nat) : (script (bytesOf s ++ [m])).picks = if s.picks.length < 4096 then s.picks ++ [(m : Int)] else s.picks := by
  rw [script_more h]
  obtain ⟨⟨_, _, _, _, _, c6⟩, _, hp⟩ := okB_facts h
  show ((s.picks.map byteOf ++ [m]).take 4096).map (fun (x : Nat) => (x : Int)) = _
  split
  · rename_i hl
    rw [List.take_of_length_le (by simp; omega), List.map_append, picks_back hp]; rfl
  · rename_i hl
    have e : s.picks.length = 4096 := by omega
    rw [List.take_append_of_le_length (by simp; omega), List.take_of_length_le (by simp; omega), picks_back hp]
theorem bytes_snoc_lt (s : Scr) {m : Nat} (hm : m < 256) : ∀ x ∈ bytesOf s ++ [m], x < 256 := by
  intro x hx
  rcases List.mem_append.1 hx with h | h
  · exact bytesOf_lt s x h
  · have : x = m := by simpa using h
    omega
theorem cpus_more {s : Scr} (h : okB s = true) (m : List Nat) : (script (bytesOf s ++ m)).cpus = s.cpus := by rw [script_more h]

set_option maxRecDepth 100000 in
set_option maxHeartbeats 1600000 in
theorem tapeApart_core (w : World) (va vb : Value) (s t : Scr) (m : Nat) (hm : m < 256) (F : Nat → Prop) (hva : RdS F w va s) (hvb : RdS F w vb t) (hF : ∀ x, F x → x < w.heap.size) :
    Calls Try.prog 7 #[va, vb, .int .u8 (m : Int)] w fun e w' => e = .returned (.bool true) ∧ Ext No w w' := by
  have hvaa := hva
  have hvbb := hvb
  obtain ⟨ac, kc, ap, kp, rfl, _, _⟩ := hva.openR
  obtain ⟨ac2, kc2, ap2, kp2, rfl, _, _⟩ := hvb.openR
  go_enter Try.func7, Try.ntmps7
  go_wp2_with fail
  obtain ⟨W, hW⟩ : ∃ W, (w.alloc (.cells #[.int .i64 s.cpus, .int .i64 s.pages, .slice ac s.calls.length kc, .slice ap s.picks.length kp] 27)).alloc (.cells #[.int .i64 t.cpus, .int .i64 t.pages, .slice ac2 t.calls.length kc2, .slice ap2 t.picks.length kp2] 27) = W := ⟨_, rfl⟩
  have hX : Ext No w W := by rw [← hW]; exact ((Ext.refl _ _).alloc _).alloc _
  have hA : Blk W w.heap.size [.int .i64 s.cpus, .int .i64 s.pages, .slice ac s.calls.length kc, .slice ap s.picks.length kp] 27 := by rw [← hW]; exact (Blk.new _ _ _).alloc _
  have hB : Blk W (w.heap.size + 1) [.int .i64 t.cpus, .int .i64 t.pages, .slice ac2 t.calls.length kc2, .slice ap2 t.picks.length kp2] 27 := by rw [← hW]; exact Blk.new' (by simp)
  have hsz : w.heap.size ≤ W.heap.size := hX.size
  rw [hW]
  clear hW
  refine (bytes_spec _ _ s _ (hvaa.ext hX (fun _ _ => id)) (fun x hx => by have := hF x hx; omega)).mono ?_
  rintro e w1 ⟨⟨vo, rfl, hown⟩, hx1⟩
  have hA := hA.extNo hx1
  have hB := hB.extNo hx1
  have hX1 := hX.transNo hx1
  have b0 := hB.cell' (i := 0) rfl
  have b1 := hB.cell' (i := 1) rfl
  have b2 := hB.cell' (i := 2) rfl
  have b3 := hB.cell' (i := 3) rfl
  go_wp2_with fail
  refine (bytes_spec _ _ t _ (hvbb.ext hX1 (fun _ _ => id)) (fun x hx => by have := hF x hx; have := hX1.size; omega)).mono ?_
  rintro e w2 ⟨⟨vo2, rfl, hown2⟩, hx2⟩
  have hA := hA.extNo hx2
  have hB := hB.extNo hx2
  have hX2 := hX1.transNo hx2
  have hown := ownsRow_ext hown hx2 (fun _ _ => id)
  have hvs := hvaa.ext hX2 (fun _ _ => id)
  have hvt := hvbb.ext hX2 (fun _ _ => id)
  clear b0 b1 b2 b3 hX hX1 hx1 hx2 hva hvb hvaa hvbb
  cases hs : okB s
  · rw [show errOf false = 2 from rfl]
    clear hs
    go_wp2_with fail
    refine (works29_spec _).mono ?_
    rintro e w3 ⟨rfl, hx3⟩
    go_wp2_with fail
    go_ret
    exact ⟨rfl, hX2.transNo hx3⟩
  · cases ht : okB t
    · rw [show errOf true = 0 from rfl, show errOf false = 2 from rfl]
      clear ht hs
      go_wp2_with fail
      refine (works29_spec _).mono ?_
      rintro e w3 ⟨rfl, hx3⟩
      go_wp2_with fail
      go_ret
      exact ⟨rfl, hX2.transNo hx3⟩
    · rw [hs] at hown
      rw [ht] at hown2
      simp only [if_true] at hown hown2
      have hR := rdB_own hown (bytesOf_lt s)
      have hR2 := rdB_own hown2 (bytesOf_lt t)
      rw [show errOf true = 0 from rfl]
      obtain ⟨q, hq⟩ : ∃ q, decide (s = t) = q := ⟨_, rfl⟩
      have hq2 : Hid (decide (bytesOf s = bytesOf t) = q) := (bytes_same hs ht).trans hq
      have hqH := Lib.hid hq
      have hlm := len_most hs
      have hw1 := Lib.hid (want_of hs m)
      have hw2 := Lib.hid (cpus_more hs [m])
      have hpl : s.picks.length ≤ 4096 := (okB_facts hs).1.2.2.2.2.2
      clear hs ht hq hown hown2
      go_wp2_with fail
      have a0 := hA.cell' (i := 0) rfl
      have a1 := hA.cell' (i := 1) rfl
      have a2 := hA.cell' (i := 2) rfl
      have a3 := hA.cell' (i := 3) rfl
      have b0 := hB.cell' (i := 0) rfl
      have b1 := hB.cell' (i := 1) rfl
      have b2 := hB.cell' (i := 2) rfl
      have b3 := hB.cell' (i := 3) rfl
      obtain ⟨sb, hsb⟩ : ∃ b, w.heap.size = b := ⟨_, rfl⟩
      rw [hsb] at hA hB a0 a1 a2 a3 b0 b1 b2 b3 ⊢
      have hCC : ∀ w' : World, Ext No w2 w' → (fun w' : World => w'.cell? ⟨sb, 0, none⟩ = some (.int .i64 s.cpus) ∧ w'.cell? ⟨sb, 1, none⟩ = some (.int .i64 s.pages) ∧ w'.cell? ⟨sb, 2, none⟩ = some (.slice ac s.calls.length kc) ∧ w'.cell? ⟨sb, 3, none⟩ = some (.slice ap s.picks.length kp) ∧ w'.cell? ⟨sb + 1, 0, none⟩ = some (.int .i64 t.cpus) ∧ w'.cell? ⟨sb + 1, 1, none⟩ = some (.int .i64 t.pages) ∧ w'.cell? ⟨sb + 1, 2, none⟩ = some (.slice ac2 t.calls.length kc2) ∧ w'.cell? ⟨sb + 1, 3, none⟩ = some (.slice ap2 t.picks.length kp2)) w' := fun w' hx => ⟨hx.cell a0 id, hx.cell a1 id, hx.cell a2 id, hx.cell a3 id, hx.cell b0 id, hx.cell b1 id, hx.cell b2 id, hx.cell b3 id⟩
      refine anyZ_begin 7 (fun w' => w'.cell? ⟨sb, 0, none⟩ = some (.int .i64 s.cpus) ∧ w'.cell? ⟨sb, 1, none⟩ = some (.int .i64 s.pages) ∧ w'.cell? ⟨sb, 2, none⟩ = some (.slice ac s.calls.length kc) ∧ w'.cell? ⟨sb, 3, none⟩ = some (.slice ap s.picks.length kp) ∧ w'.cell? ⟨sb + 1, 0, none⟩ = some (.int .i64 t.cpus) ∧ w'.cell? ⟨sb + 1, 1, none⟩ = some (.int .i64 t.pages) ∧ w'.cell? ⟨sb + 1, 2, none⟩ = some (.slice ac2 t.calls.length kc2) ∧ w'.cell? ⟨sb + 1, 3, none⟩ = some (.slice ap2 t.picks.length kp2)) (by kernel_rfl) ?_
      have hC := hCC _ ((Ext.refl No w2).drew)
      have hxd : Ext No w2 w2.drew := (Ext.refl No w2).drew
      clear a0 a1 a2 a3 b0 b1 b2 b3
      refine anyZ_take 0 (v := ?_) rfl (by kernel_rfl) (by kernel_rfl) (by kernel_rfl) (by kernel_rfl) (fun _ _ _ h => h) hC (Or.inl ⟨by rfl, ?_⟩) ?_
      rotate_left
      · (intro wq hq; (try dsimp only at hq); go_simp; with_reducible rfl)
      simp only [Act.put, List.setIfInBounds_toArray, List.set_cons_zero, List.set_cons_succ]
      refine anyZ_take 1 (v := ?_) rfl (by kernel_rfl) (by kernel_rfl) (by kernel_rfl) (by kernel_rfl) (fun _ _ _ h => h) hC (Or.inl ⟨by rfl, ?_⟩) ?_
      rotate_left
      · (intro wq hq; (try dsimp only at hq); go_simp; with_reducible rfl)
      simp only [Act.put, List.setIfInBounds_toArray, List.set_cons_zero, List.set_cons_succ]
      refine anyZ_take 3 (v := ?_) rfl (by kernel_rfl) (by kernel_rfl) (by kernel_rfl) (by kernel_rfl) (fun _ _ _ h => h) hC (Or.inl ⟨by rfl, ?_⟩) ?_
      rotate_left
      · (intro wq hq; (try dsimp only at hq); go_simp; with_reducible rfl)
      simp only [Act.put, List.setIfInBounds_toArray, List.set_cons_zero, List.set_cons_succ]
      refine anyZ_take 4 (v := ?_) rfl (by kernel_rfl) (by kernel_rfl) (by kernel_rfl) (by kernel_rfl) (fun _ _ _ h => h) hC (Or.inl ⟨by rfl, ?_⟩) ?_
      rotate_left
      · (intro wq hq; (try dsimp only at hq); go_simp; with_reducible rfl)
      simp only [Act.put, List.setIfInBounds_toArray, List.set_cons_zero, List.set_cons_succ]
      refine anyZ_step 2 rfl (by kernel_rfl) (fun K hK => ?_)
      go_simp
      refine (eqBytes_spec _ _ _ (bytesOf s) (bytesOf t) _ _ (hR.extNo hxd) (hR2.extNo hxd)).mono ?_
      rintro e w4 ⟨rfl, rfl⟩
      rw [hq2.out]
      refine hK _ _ hC ?_
      clear hK K
      try simp only [Act.put, List.setIfInBounds_toArray, List.set_cons_zero, List.set_cons_succ]
      refine anyZ_step 5 rfl (by kernel_rfl) (fun K hK => ?_)
      go_simp
      refine (same35_spec _ _ _ s t _ _ (hvs.ext hxd (fun _ _ => id)) (hvt.ext hxd (fun _ _ => id))).mono ?_
      rintro e w5 ⟨rfl, hx5⟩
      rw [hqH.out]
      have hx5 := hxd.transNo hx5
      have hC5 := hCC _ hx5
      refine hK _ _ hC5 ?_
      clear hK K
      try simp only [Act.put, List.setIfInBounds_toArray, List.set_cons_zero, List.set_cons_succ]
      refine anyZ_take 6 (v := ?_) rfl (by kernel_rfl) (by kernel_rfl) (by kernel_rfl) (by kernel_rfl) (fun _ _ _ h => h) hC5 (Or.inl ⟨by rfl, ?_⟩) ?_
      rotate_left
      · (intro wq hq; (try dsimp only at hq); go_simp; with_reducible rfl)
      simp only [Act.put, List.setIfInBounds_toArray, List.set_cons_zero, List.set_cons_succ]
      refine anyZ_done (by kernel_rfl) ?_ _
      clear hC hC5
      go_wp2_with fail
      refine (copyBytes_spec _ _ (bytesOf s) _ (hR.extNo hx5) (by omega)).mono ?_
      rintro e w6 ⟨r, rfl, ⟨_, hown6⟩, hx6⟩
      have hz6 := hx6.size
      have hx6 := hx5.transNo hx6
      obtain ⟨ar, cr, rfl, hcr⟩ := ownsRow_val hown6
      go_wp2_with (at_builtin; refine stop_here ?_)
      refine Stop.mk ?_
      have hxa : Ext No w6 (w6.alloc (.cells #[.int .u8 (m : Int)] 5)) := (Ext.refl _ _).alloc _
      have hBa : Blk (w6.alloc (.cells #[.int .u8 (m : Int)] 5)) w6.heap.size [.int .u8 (m : Int)] 5 := Blk.new _ _ _
      have howna := ownsRow_ext hown6 hxa (fun _ _ => id)
      have h56 := hx6.size
      refine wpList_app (v := .slice ar (bytesOf s).length cr) (m := 1) ty_byte rfl _ _ rfl rfl howna rfl (Rd.of_blk (n := 1) hBa rfl (by decide)) (by simp [Value.oneCell']) (by omega) (by unfold maxLen; omega) (by simp only [World.size_alloc]; omega) ?_
      intro v' w7 hown7 hx7 _ _
      have hx7 : Ext No w2 w7 := (hx6.transNo hxa).own howna (hx5.size) hx7
      have e7 : (bytesOf s).map byt ++ [.int .u8 (m : Int)] = (bytesOf s ++ [m]).map byt := by simp [byt]
      rw [e7] at hown7
      have hR7 : RdB (OwnOf v') w7 v' (bytesOf s ++ [m]) := rdB_own (by simpa using hown7) (bytes_snoc_lt s hm)
      clear e7 hown7 howna hxa hBa hown6
      go_wp2_with fail
      refine (script_rd _ _ (bytesOf s ++ [m]) hR7.any).mono ?_
      rintro e w8 ⟨r8, rfl, hr8, hx8⟩
      have hx8 := hx7.transNo hx8
      obtain ⟨S8, hS8⟩ : ∃ S8, script (bytesOf s ++ [m]) = S8 := ⟨_, rfl⟩
      rw [hS8] at hr8 hw1 hw2
      clear hS8
      obtain ⟨ac8, kc8, ap8, kp8, rfl, _, hp8⟩ := hr8.openR
      have hA8 := hA.extNo hx8
      have a3 := hA8.cell' (i := 3) rfl
      have hlt8 := hA8.lt
      obtain ⟨_, _, _, _, ep, _, hps⟩ := (hvs.ext hx8 (fun _ _ => id)).openR
      simp only [Value.agg.injEq, Array.mk.injEq, List.cons.injEq, and_true, true_and] at ep
      obtain ⟨_, ep⟩ := ep
      rw [← ep] at hps
      have hL8 : Blk (w8.alloc (.cells #[.int .i64 S8.cpus, .int .i64 S8.pages, .slice ac8 S8.calls.length kc8, .slice ap8 S8.picks.length kp8] 27)) w8.heap.size [.int .i64 S8.cpus, .int .i64 S8.pages, .slice ac8 S8.calls.length kc8, .slice ap8 S8.picks.length kp8] 27 := Blk.new _ _ _
      have hx9 : Ext No w8 (w8.alloc (.cells #[.int .i64 S8.cpus, .int .i64 S8.pages, .slice ac8 S8.calls.length kc8, .slice ap8 S8.picks.length kp8] 27)) := (Ext.refl _ _).alloc _
      by_cases h4096 : s.picks.length < 4096
      · have h4i : (s.picks.length : Int) < 4096 := by omega
        have hw1' : Hid (S8.picks = s.picks ++ [(m : Int)]) := by have := hw1.out; rw [if_pos h4096] at this; exact this
        go_wp2_with fail
        obtain ⟨lb, hlb⟩ : ∃ b, w8.heap.size = b := ⟨_, rfl⟩
        obtain ⟨w9, hw9⟩ : ∃ W, w8.alloc (.cells #[.int .i64 S8.cpus, .int .i64 S8.pages, .slice ac8 S8.calls.length kc8, .slice ap8 S8.picks.length kp8] 27) = W := ⟨_, rfl⟩
        have hp9 := hp8.extNo hx9
        have hq9 := hps.extNo hx9
        have hx29 := hx8.transNo hx9
        rw [hw9] at hL8 hx9 hp9 hq9 hx29 ⊢
        rw [hlb] at hL8 ⊢
        clear hw9 hx9 hlb a3
        have hA9 := hA.extNo hx29

        refine (copyInts_spec _ _ s.picks _ hq9 (by omega)).mono ?_
        rintro e w10 ⟨ri, rfl, ⟨_, hown10⟩, hx10⟩
        obtain ⟨ai, ci, rfl, hci⟩ := ownsRow_val hown10
        go_wp2_with (at_builtin; refine stop_here ?_)
        refine Stop.mk ?_
        have hxa : Ext No w10 (w10.alloc (.cells #[.int .i64 (m : Int)] 3)) := (Ext.refl _ _).alloc _
        have hBa : Blk (w10.alloc (.cells #[.int .i64 (m : Int)] 3)) w10.heap.size [.int .i64 (m : Int)] 3 := Blk.new _ _ _
        have howna := ownsRow_ext hown10 hxa (fun _ _ => id)
        have h910 := hx10.size
        refine wpList_app (v := .slice ai s.picks.length ci) (m := 1) ty_int rfl _ _ rfl rfl howna rfl (Rd.of_blk (n := 1) hBa rfl (by decide)) (by simp [Value.oneCell']) (by omega) (by unfold maxLen; omega) (by simp only [World.size_alloc]; omega) ?_
        intro vi w11 hown11 hx11 _ _
        have hx911 : Ext No w9 w11 := (hx10.transNo hxa).own howna (Nat.le_refl _) hx11
        have e7 : s.picks.map int ++ [.int .i64 (m : Int)] = (s.picks ++ [(m : Int)]).map int := by simp [int]
        rw [e7] at hown11
        have hRi : RdI (OwnOf vi) w11 vi (s.picks ++ [(m : Int)]) := Rd.of_own (by simpa using hown11)
        obtain ⟨avi, cvi, rfl, _⟩ := Rd.val hRi
        rw [show (s.picks ++ [(m : Int)]).length = s.picks.length + 1 by simp] at hRi ⊢
        clear e7 hown11 howna hxa hBa hown10 hx10 hx11
        have hL10 := hL8.extNo hx911
        have l3 := hL10.cell' (i := 3) rfl
        have hp11 := hp9.extNo hx911
        go_wp2_with fail
        refine (eqInts_spec _ _ _ _ _ _ _ hp11 hRi).mono ?_
        rintro e w12 ⟨rfl, n12, rfl⟩
        rw [decide_eq_true hw1'.out]
        have hx911 : Ext No w9 (w11.drewN n12) := hx911.drewN _
        clear l3 hL10
        have hA11 := hA9.extNo hx911
        have hL11 := hL8.extNo hx911
        have a0 := hA11.cell' (i := 0) rfl
        have l0 := hL11.cell' (i := 0) rfl
        rw [hw2.out] at l0
        go_wp2_with fail
        refine (works29_spec _).mono ?_
        rintro e w12 ⟨rfl, hx12⟩
        go_wp2_with fail
        go_ret
        exact ⟨rfl, hX2.transNo ((hx29.transNo hx911).transNo hx12)⟩

      · have h4i : ¬ (s.picks.length : Int) < 4096 := by omega
        have hw1' : Hid (S8.picks = s.picks) := by have := hw1.out; rw [if_neg h4096] at this; exact this
        go_wp2_with fail
        obtain ⟨lb, hlb⟩ : ∃ b, w8.heap.size = b := ⟨_, rfl⟩
        obtain ⟨w9, hw9⟩ : ∃ W, w8.alloc (.cells #[.int .i64 S8.cpus, .int .i64 S8.pages, .slice ac8 S8.calls.length kc8, .slice ap8 S8.picks.length kp8] 27) = W := ⟨_, rfl⟩
        have hp9 := hp8.extNo hx9
        have hq9 := hps.extNo hx9
        have hx29 := hx8.transNo hx9
        rw [hw9] at hL8 hx9 hp9 hq9 hx29 ⊢
        rw [hlb] at hL8 ⊢
        clear hw9 hx9 hlb a3
        have hA9 := hA.extNo hx29

        have l3 := hL8.cell' (i := 3) rfl
        go_wp2_with fail
        refine (eqInts_spec _ _ _ _ _ _ _ hp9 hq9).mono ?_
        rintro e w12 ⟨rfl, n12, rfl⟩
        rw [decide_eq_true hw1'.out]
        have hx911 : Ext No w9 (w9.drewN n12) := (Ext.refl _ _).drewN _
        clear l3
        have hA11 := hA9.extNo hx911
        have hL11 := hL8.extNo hx911
        have a0 := hA11.cell' (i := 0) rfl
        have l0 := hL11.cell' (i := 0) rfl
        rw [hw2.out] at l0
        go_wp2_with fail
        refine (works29_spec _).mono ?_
        rintro e w12 ⟨rfl, hx12⟩
        go_wp2_with fail
        go_ret
        exact ⟨rfl, hX2.transNo ((hx29.transNo hx911).transNo hx12)⟩

end Go.Proofs.Ytjkknjohmekeiaa
