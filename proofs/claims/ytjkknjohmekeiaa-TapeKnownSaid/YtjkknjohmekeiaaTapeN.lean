/- The law's comparison of scripts; the law TapeBytes: the walk. Lengths such that the script fits into memory. -/
import Derived.Test.YtjkknjohmekeiaaTapeE
import Derived.Test.YtjkknjohmekeiaaTapeM
import Derived.Below
namespace Go.Proofs.Ytjkknjohmekeiaa
open Go.RowKit

set_option maxRecDepth 100000 in
set_option maxHeartbeats 1600000 in
theorem same35_spec (w : World) (va vb : Value) (a b : Scr) (F G : Nat → Prop) (ha : RdS F w va a) (hb : RdS G w vb b) :
    Calls Try.prog 35 #[va, vb] w fun e w' => e = .returned (.bool (decide (a = b))) ∧ Ext No w w' := by
  obtain ⟨c1, p1, rfl, hc1, hp1⟩ := ha
  obtain ⟨c2, p2, rfl, hc2, hp2⟩ := hb
  obtain ⟨ac1, kc1, rfl, _, _⟩ := hc1.val
  obtain ⟨ac2, kc2, rfl, _, _⟩ := hc2.val
  obtain ⟨ap1, kp1, rfl, _, _⟩ := Rd.val hp1
  obtain ⟨ap2, kp2, rfl, _, _⟩ := Rd.val hp2
  have hX : Ext No w ((w.alloc (.cells #[.int .i64 a.cpus, .int .i64 a.pages, .slice ac1 a.calls.length kc1, .slice ap1 a.picks.length kp1] 27)).alloc (.cells #[.int .i64 b.cpus, .int .i64 b.pages, .slice ac2 b.calls.length kc2, .slice ap2 b.picks.length kp2] 27)) := ((Ext.refl _ _).alloc _).alloc _
  by_cases h1 : a.cpus = b.cpus
  · by_cases h2 : a.pages = b.pages
    · by_cases h3 : a.calls.length = b.calls.length
      · have g1 : (a.cpus != b.cpus) = false := by simp [h1]
        have g2 : (a.pages != b.pages) = false := by simp [h2]
        have g3 : ((a.calls.length : Int) != (b.calls.length : Int)) = false := by simp [h3]
        have h1' := Lib.hid h1; have h2' := Lib.hid h2; have h3' := Lib.hid h3
        clear h1 h2 h3
        go_enter Try.func35, Try.ntmps35
        go_wp2_with fail
        refine (eqInts_spec _ _ _ _ _ F G (hp1.extNo hX) (hp2.extNo hX)).mono ?_
        rintro e w1 ⟨rfl, m0, hw1⟩
        have hX1 : Ext No w w1 := by rw [hw1]; exact hX.drewN _
        have hA : Blk w1 w.heap.size [.int .i64 a.cpus, .int .i64 a.pages, .slice ac1 a.calls.length kc1, .slice ap1 a.picks.length kp1] 27 := by rw [hw1]; exact ((Blk.new _ _ _).alloc _).drewN _
        have hB : Blk w1 (w.heap.size + 1) [.int .i64 b.cpus, .int .i64 b.pages, .slice ac2 b.calls.length kc2, .slice ap2 b.picks.length kp2] 27 := by rw [hw1]; exact (Blk.new' (by simp)).drewN _
        clear hw1 hX
        by_cases hpk : a.picks = b.picks
        · have g4 : decide (a.picks = b.picks) = true := by simp [hpk]
          rw [g4]
          clear g4
          have hpk' := Lib.hid hpk; clear hpk
          have cA := hA.cell' (i := 2) rfl
          have cB := hB.cell' (i := 2) rfl
          have hc1 := hc1.ext hX1 (fun _ _ => id) (fun _ _ => id)
          have hc2 := hc2.ext hX1 (fun _ _ => id) (fun _ _ => id)
          go_wp2_with fail
          go_loopg [5] a.calls.length (fun g i wr => ∃ k : Nat, k + g = a.calls.length ∧ i = .int .i64 k ∧ (∀ j, j < k → nth a.calls j = nth b.calls j) ∧ ∃ m, wr = w1.drewN m)
          case atStart => exact ⟨0, by omega, rfl, by omega, 0, rfl⟩
          case round =>
            obtain ⟨k, hk, rfl, heq, m, rfl⟩ := hrel
            have hk' := Lib.hid hk
            have hkn : k ≤ a.calls.length := by omega
            have heq' := Lib.hid heq
            clear hk heq
            by_cases hlt : k < a.calls.length
            · have hlt2 : k < b.calls.length := by have := h3'.out; omega
              obtain ⟨b1, o1, ai, ci, rfl, r1, q1, _, _⟩ := hc1.at hlt
              obtain ⟨b2, o2, aj, cj, rfl, r2, q2, _, _⟩ := hc2.at hlt2
              by_cases hle : (nth a.calls k).length = (nth b.calls k).length
              · have g5 : (((nth a.calls k).length : Int) != ((nth b.calls k).length : Int)) = false := by simp [hle]
                have hle' := Lib.hid hle; clear hle
                go_wp2
                go_quiet (fail)
                go_wp2
                clear g5
                go_loopg [6] (nth a.calls k).length (fun g i wr => ∃ t : Nat, t + g = (nth a.calls k).length ∧ i = .int .i64 t ∧ (∀ j, j < t → nth (nth a.calls k) j = nth (nth b.calls k) j) ∧ ∃ m, wr = w1.drewN m)
                case atStart => exact ⟨0, by omega, rfl, by omega, m + nq, by simp⟩
                case round =>
                  obtain ⟨t, ht, rfl, hte, m', rfl⟩ := hrel
                  have ht' := Lib.hid ht
                  have htn : t ≤ (nth a.calls k).length := by omega
                  have hte' := Lib.hid hte
                  clear ht hte
                  by_cases htl : t < (nth a.calls k).length
                  · have htl2 : t < (nth b.calls k).length := by have := hle'.out; omega
                    obtain ⟨b3, o3, rfl, _, _, x0, x1, x2, x3⟩ := q1.at htl
                    obtain ⟨b4, o4, rfl, _, _, y0, y1, y2, y3⟩ := q2.at htl2
                    by_cases hv : nth (nth a.calls k) t = nth (nth b.calls k) t
                    · have hv' := Lib.hid hv
                      rw [hv] at x0 x1 x2 x3
                      clear hv
                      go_wp2
                      go_quiet (fail)
                      go_wp2
                      go_roundg ((nth a.calls k).length - (t + 1))
                      case measure => have := ht'.out; omega
                      case rel =>
                        refine ⟨t + 1, by omega, by go_num, fun j hj => ?_, m' + nq, by simp⟩
                        by_cases hjt : j < t
                        · exact hte'.out j hjt
                        · obtain rfl : j = t := by omega
                          exact hv'.out
                    · have hfin : Hid (decide (a = b) = false) := by show _ = _; simp only [decide_eq_false_iff_not]; intro h; exact hv (by rw [h])
                      rcases Cl.ne_cases hv with e1 | ⟨e1, e2⟩ | ⟨e1, e2, e3⟩ | ⟨e1, e2, e3, e4⟩
                      all_goals
                        clear hv
                        go_wp2
                        go_quiet (fail)
                        go_wp2
                        go_ret
                        exact ⟨by rw [hfin.out]; rfl, (hX1.drewN _).drewN _⟩
                  · go_wp2
                    go_roundg (a.calls.length - (k + 1))
                    case measure => have := hk'.out; omega
                    case rel =>
                      refine ⟨k + 1, by omega, by go_num, fun j hj => ?_, m', rfl⟩
                      by_cases hjk : j < k
                      · exact heq'.out j hjk
                      · obtain rfl : j = k := by omega
                        apply List.ext_getElem hle'.out
                        intro i h1 h2
                        have := hte'.out i (by omega)
                        rwa [nth_eq h1, nth_eq h2] at this
              · have g5 : (((nth a.calls k).length : Int) != ((nth b.calls k).length : Int)) = true := by simp; omega
                have hfin : Hid (decide (a = b) = false) := by show _ = _; simp only [decide_eq_false_iff_not]; intro h; exact hle (by rw [h])
                clear hle
                go_wp2
                go_quiet (fail)
                go_wp2
                go_ret
                exact ⟨by rw [hfin.out]; rfl, (hX1.drewN _).drewN _⟩
            · go_wp2
              go_ret
              have hfin : decide (a = b) = true := by
                simp only [decide_eq_true_eq]
                have hcc : a.calls = b.calls := by
                  apply List.ext_getElem h3'.out
                  intro i h1 h2
                  have := heq'.out i (by omega)
                  rwa [nth_eq h1, nth_eq h2] at this
                have e1 := h1'.out; have e2 := h2'.out; have e3 := hpk'.out
                cases a; cases b
                simp only at e1 e2 e3 hcc
                rw [e1, e2, e3, hcc]
              exact ⟨by rw [hfin]; rfl, hX1.drewN _⟩
        · have g4 : decide (a.picks = b.picks) = false := by simp [hpk]
          have hfin : Hid (decide (a = b) = false) := by show _ = _; simp only [decide_eq_false_iff_not]; intro h; exact hpk (by rw [h])
          rw [g4]
          clear hpk g4
          go_wp2_with fail
          go_ret
          exact ⟨by rw [hfin.out]; rfl, hX1⟩
      · have g1 : (a.cpus != b.cpus) = false := by simp [h1]
        have g2 : (a.pages != b.pages) = false := by simp [h2]
        have g3 : ((a.calls.length : Int) != (b.calls.length : Int)) = true := by simp; omega
        have hfin : Hid (decide (a = b) = false) := by show _ = _; simp only [decide_eq_false_iff_not]; intro h; exact h3 (by rw [h])
        clear h1 h2 h3
        go_enter Try.func35, Try.ntmps35
        go_wp2_with fail
        go_ret
        exact ⟨by rw [hfin.out]; rfl, hX⟩
    · have g1 : (a.cpus != b.cpus) = false := by simp [h1]
      have g2 : (a.pages != b.pages) = true := by simp [h2]
      have hfin : Hid (decide (a = b) = false) := by show _ = _; simp only [decide_eq_false_iff_not]; intro h; exact h2 (by rw [h])
      clear h1 h2
      go_enter Try.func35, Try.ntmps35
      go_wp2_with fail
      go_ret
      exact ⟨by rw [hfin.out]; rfl, hX⟩
  · have g1 : (a.cpus != b.cpus) = true := by simp [h1]
    have hfin : Hid (decide (a = b) = false) := by show _ = _; simp only [decide_eq_false_iff_not]; intro h; exact h1 (by rw [h])
    clear h1
    go_enter Try.func35, Try.ntmps35
    go_wp2_with fail
    go_ret
    exact ⟨by rw [hfin.out]; rfl, hX⟩


theorem bytesOf_lt (s : Scr) : ∀ x ∈ bytesOf s, x < 256 := by
  intro x hx
  simp only [bytesOf, headBytes, List.mem_append, List.mem_flatMap, listBytes, callBytes, List.mem_cons, List.mem_map] at hx
  have hb := byteOf_lt
  rcases hx with (hx | ⟨l, _, hx⟩) | ⟨n, _, rfl⟩
  · rcases hx with rfl | rfl | rfl | h
    · exact hb _
    · exact hb _
    · exact hb _
    · cases h
  · rcases hx with rfl | ⟨c, _, hx⟩
    · exact hb _
    · rcases hx with rfl | rfl | rfl | rfl | rfl | h
      · exact hb _
      · exact hb _
      · exact hb _
      · exact hb _
      · exact hb _
      · cases h
  · exact hb _
theorem rdB_own {w : World} {base : Nat} {v : Value} {l : List Nat} (h : w.ownsRow base 5 1 v l.length (l.map byt)) (hl : ∀ x ∈ l, x < 256) : RdB (OwnOf v) w v l := ⟨Rd.of_own h, hl⟩

set_option maxRecDepth 100000 in
set_option maxHeartbeats 1600000 in
theorem tapeBytes_core (w : World) (v : Value) (s : Scr) (F : Nat → Prop) (hv : RdS F w v s) (hF : ∀ x, F x → x < w.heap.size) (hf : ScrFit s) :
    Calls Try.prog 4 #[v] w fun e w' => e = .returned (.bool true) ∧ Ext No w w' := by
  have hvv := hv
  obtain ⟨ac, kc, ap, kp, rfl, _, _⟩ := hv.openR
  have hX : Ext No w (w.alloc (.cells #[.int .i64 s.cpus, .int .i64 s.pages, .slice ac s.calls.length kc, .slice ap s.picks.length kp] 27)) := (Ext.refl _ _).alloc _
  have hA0 : Blk (w.alloc (.cells #[.int .i64 s.cpus, .int .i64 s.pages, .slice ac s.calls.length kc, .slice ap s.picks.length kp] 27)) w.heap.size [.int .i64 s.cpus, .int .i64 s.pages, .slice ac s.calls.length kc, .slice ap s.picks.length kp] 27 := Blk.new _ _ _
  go_enter Try.func4, Try.ntmps4
  go_wp2_with fail
  refine (copy_spec _ _ s F (hvv.ext hX (fun _ _ => id)) (fun x hx => by have := hF x hx; simp only [World.size_alloc]; omega) hf).mono ?_
  rintro e w1 ⟨r, rfl, hr, hx1⟩
  have hrr := hr
  obtain ⟨ac2, kc2, ap2, kp2, rfl, _, _⟩ := hr.openR
  have hX1 := hX.transNo hx1
  have hA1 := hA0.extNo hx1
  have hx1b : Ext No w1 (w1.alloc (.cells #[.int .i64 s.cpus, .int .i64 s.pages, .slice ac2 s.calls.length kc2, .slice ap2 s.picks.length kp2] 27)) := (Ext.refl _ _).alloc _
  have hB1 : Blk (w1.alloc (.cells #[.int .i64 s.cpus, .int .i64 s.pages, .slice ac2 s.calls.length kc2, .slice ap2 s.picks.length kp2] 27)) w1.heap.size [.int .i64 s.cpus, .int .i64 s.pages, .slice ac2 s.calls.length kc2, .slice ap2 s.picks.length kp2] 27 := Blk.new _ _ _
  go_wp2_with fail
  refine (bytes_spec _ _ s _ (hrr.ext hx1b (fun _ _ => id)) (fun x hx => by simp only [Iv] at hx; simp only [World.size_alloc]; omega)).mono ?_
  rintro e w2 ⟨⟨vo, rfl, hown⟩, hx2⟩
  have hx12 := hx1b.transNo hx2
  have hA2 := hA1.extNo hx12
  have hB2 := hB1.extNo hx2
  have a0 := hA2.cell' (i := 0) rfl
  have a1 := hA2.cell' (i := 1) rfl
  have a2 := hA2.cell' (i := 2) rfl
  have a3 := hA2.cell' (i := 3) rfl
  have hv2 := hvv.ext (hX1.transNo hx12) (fun _ _ => id)
  have hr2 := hrr.ext hx12 (fun _ _ => id)
  go_wp2_with fail
  refine (bytes2_spec _ _ s _ hv2).mono ?_
  rintro e w3 ⟨⟨vo2, rfl, hown2⟩, hx3⟩
  clear a0 a1 a2 a3
  obtain ⟨L, hL⟩ : ∃ L, (if okB s then bytesOf s else []) = L := ⟨_, rfl⟩
  have hL256 : ∀ x ∈ L, x < 256 := by
    rw [← hL]; split
    · exact bytesOf_lt s
    · simp
  rw [hL] at hown hown2
  have hA3 := hA2.extNo hx3
  have hB3 := hB2.extNo hx3
  have hv3 := hv2.ext hx3 (fun _ _ => id)
  have hr3 := hr2.ext hx3 (fun _ _ => id)
  have hR1 := rdB_own (ownsRow_ext hown hx3 (fun _ _ => id)) hL256
  have hR2 := rdB_own hown2 hL256
  have hX3 := (hX1.transNo hx12).transNo hx3
  obtain ⟨er, her⟩ : ∃ er, errOf (okB s) = er := ⟨_, rfl⟩
  obtain ⟨b0, hb0⟩ : ∃ b, w.heap.size = b := ⟨_, rfl⟩
  obtain ⟨b1, hb1⟩ : ∃ b, w1.heap.size = b := ⟨_, rfl⟩
  have herH := Lib.hid her
  rw [her, hb1]
  rw [hb0] at hA3 ⊢
  rw [hb1] at hB3
  clear her hL hA2 hA1 hA0 hB2 hB1 hX hX1 hx1 hx1b hx2 hx12 hx3 hown hown2 hv2 hr2 hvv hrr hv hr hb0 hb1
  have a0 := hA3.cell' (i := 0) rfl
  have a1 := hA3.cell' (i := 1) rfl
  have a2 := hA3.cell' (i := 2) rfl
  have a3 := hA3.cell' (i := 3) rfl
  have c0 := hB3.cell' (i := 0) rfl
  have c1 := hB3.cell' (i := 1) rfl
  have c2 := hB3.cell' (i := 2) rfl
  have c3 := hB3.cell' (i := 3) rfl
  go_wp2_with fail
  have hCC : ∀ w' : World, Ext No w3 w' → (fun w' : World => w'.cell? ⟨b0, 0, none⟩ = some (.int .i64 s.cpus) ∧ w'.cell? ⟨b0, 1, none⟩ = some (.int .i64 s.pages) ∧ w'.cell? ⟨b0, 2, none⟩ = some (.slice ac s.calls.length kc) ∧ w'.cell? ⟨b0, 3, none⟩ = some (.slice ap s.picks.length kp) ∧ w'.cell? ⟨b1, 0, none⟩ = some (.int .i64 s.cpus) ∧ w'.cell? ⟨b1, 1, none⟩ = some (.int .i64 s.pages) ∧ w'.cell? ⟨b1, 2, none⟩ = some (.slice ac2 s.calls.length kc2) ∧ w'.cell? ⟨b1, 3, none⟩ = some (.slice ap2 s.picks.length kp2)) w' := fun w' hx => ⟨hx.cell a0 id, hx.cell a1 id, hx.cell a2 id, hx.cell a3 id, hx.cell c0 id, hx.cell c1 id, hx.cell c2 id, hx.cell c3 id⟩
  refine anyZ_begin 23 (fun w' => w'.cell? ⟨b0, 0, none⟩ = some (.int .i64 s.cpus) ∧ w'.cell? ⟨b0, 1, none⟩ = some (.int .i64 s.pages) ∧ w'.cell? ⟨b0, 2, none⟩ = some (.slice ac s.calls.length kc) ∧ w'.cell? ⟨b0, 3, none⟩ = some (.slice ap s.picks.length kp) ∧ w'.cell? ⟨b1, 0, none⟩ = some (.int .i64 s.cpus) ∧ w'.cell? ⟨b1, 1, none⟩ = some (.int .i64 s.pages) ∧ w'.cell? ⟨b1, 2, none⟩ = some (.slice ac2 s.calls.length kc2) ∧ w'.cell? ⟨b1, 3, none⟩ = some (.slice ap2 s.picks.length kp2)) (by kernel_rfl) ?_
  have hC := hCC _ ((Ext.refl No w3).drew)
  have hxd : Ext No w3 w3.drew := (Ext.refl No w3).drew
  clear a0 a1 a2 a3 c0 c1 c2 c3
  refine anyZ_take 0 (v := ?_) rfl (by kernel_rfl) (by kernel_rfl) (by kernel_rfl) (by kernel_rfl) (fun _ _ _ h => h) hC (Or.inl ⟨by rfl, ?_⟩) ?_
  rotate_left
  · (intro wq hq; (try dsimp only at hq); go_simp; with_reducible rfl)
  simp only [Act.put, List.setIfInBounds_toArray, List.set_cons_zero, List.set_cons_succ]
  refine anyZ_take 2 (v := ?_) rfl (by kernel_rfl) (by kernel_rfl) (by kernel_rfl) (by kernel_rfl) (fun _ _ _ h => h) hC (Or.inl ⟨by rfl, ?_⟩) ?_
  rotate_left
  · (intro wq hq; (try dsimp only at hq); go_simp; with_reducible rfl)
  simp only [Act.put, List.setIfInBounds_toArray, List.set_cons_zero, List.set_cons_succ]
  refine anyZ_step 1 rfl (by kernel_rfl) (fun K hK => ?_)
  go_simp
  refine (check_spec _ _ s _ (hr3.ext hxd (fun _ _ => id))).mono ?_
  rintro e w4 ⟨rfl, hx4⟩
  rw [herH.out]
  have hx4 := hxd.transNo hx4
  have hC4 := hCC _ hx4
  refine hK _ _ hC4 ?_
  clear hK K
  try simp only [Act.put, List.setIfInBounds_toArray, List.set_cons_zero, List.set_cons_succ]
  refine anyZ_step 3 rfl (by kernel_rfl) (fun K hK => ?_)
  go_simp
  refine (check34_spec _ _ s _ (hv3.ext hx4 (fun _ _ => id))).mono ?_
  rintro e w5 ⟨rfl, hx5⟩
  rw [herH.out]
  have hx5 := hx4.transNo hx5
  have hC5 := hCC _ hx5
  refine hK _ _ hC5 ?_
  clear hK K
  try simp only [Act.put, List.setIfInBounds_toArray, List.set_cons_zero, List.set_cons_succ]
  refine anyZ_take 4 (v := ?_) rfl (by kernel_rfl) (by kernel_rfl) (by kernel_rfl) (by kernel_rfl) (fun _ _ _ h => h) hC5 (Or.inl ⟨by rfl, ?_⟩) ?_
  rotate_left
  · (intro wq hq; (try dsimp only at hq); go_simp; with_reducible rfl)
  simp only [Act.put, List.setIfInBounds_toArray, List.set_cons_zero, List.set_cons_succ]
  refine anyZ_take 5 (v := ?_) rfl (by kernel_rfl) (by kernel_rfl) (by kernel_rfl) (by kernel_rfl) (fun _ _ _ h => h) hC5 (Or.inl ⟨by rfl, ?_⟩) ?_
  rotate_left
  · (intro wq hq; (try dsimp only at hq); go_simp; with_reducible rfl)
  simp only [Act.put, List.setIfInBounds_toArray, List.set_cons_zero, List.set_cons_succ]
  refine anyZ_take 6 (v := ?_) rfl (by kernel_rfl) (by kernel_rfl) (by kernel_rfl) (by kernel_rfl) (fun _ _ _ h => h) hC5 (Or.inl ⟨by rfl, ?_⟩) ?_
  rotate_left
  · (intro wq hq; (try dsimp only at hq); go_simp; with_reducible rfl)
  simp only [Act.put, List.setIfInBounds_toArray, List.set_cons_zero, List.set_cons_succ]
  refine anyZ_take 7 (v := ?_) rfl (by kernel_rfl) (by kernel_rfl) (by kernel_rfl) (by kernel_rfl) (fun _ _ _ h => h) hC5 (Or.inl ⟨by rfl, ?_⟩) ?_
  rotate_left
  · (intro wq hq; (try dsimp only at hq); go_simp; with_reducible rfl)
  simp only [Act.put, List.setIfInBounds_toArray, List.set_cons_zero, List.set_cons_succ]
  refine anyZ_step 8 rfl (by kernel_rfl) (fun K hK => ?_)
  go_simp
  refine (eqBytes_spec _ _ _ L L _ _ (hR1.extNo hx5) (hR2.extNo hx5)).mono ?_
  rintro e w6 ⟨rfl, rfl⟩
  rw [decide_eq_true (rfl : L = L)]
  refine hK _ _ hC5 ?_
  clear hK K
  try simp only [Act.put, List.setIfInBounds_toArray, List.set_cons_zero, List.set_cons_succ]
  refine anyZ_take 9 (v := ?_) rfl (by kernel_rfl) (by kernel_rfl) (by kernel_rfl) (by kernel_rfl) (fun _ _ _ h => h) hC5 (Or.inl ⟨by rfl, ?_⟩) ?_
  rotate_left
  · (intro wq hq; (try dsimp only at hq); go_simp; with_reducible rfl)
  simp only [Act.put, List.setIfInBounds_toArray, List.set_cons_zero, List.set_cons_succ]
  refine anyZ_take 10 (v := ?_) rfl (by kernel_rfl) (by kernel_rfl) (by kernel_rfl) (by kernel_rfl) (fun _ _ _ h => h) hC5 (Or.inl ⟨by rfl, ?_⟩) ?_
  rotate_left
  · (intro wq hq; (try dsimp only at hq); go_simp; with_reducible rfl)
  simp only [Act.put, List.setIfInBounds_toArray, List.set_cons_zero, List.set_cons_succ]
  refine anyZ_take 11 (v := ?_) rfl (by kernel_rfl) (by kernel_rfl) (by kernel_rfl) (by kernel_rfl) (fun _ _ _ h => h) hC5 (Or.inl ⟨by rfl, ?_⟩) ?_
  rotate_left
  · (intro wq hq; (try dsimp only at hq); go_simp; with_reducible rfl)
  simp only [Act.put, List.setIfInBounds_toArray, List.set_cons_zero, List.set_cons_succ]
  refine anyZ_take 12 (v := ?_) rfl (by kernel_rfl) (by kernel_rfl) (by kernel_rfl) (by kernel_rfl) (fun _ _ _ h => h) hC5 (Or.inl ⟨by rfl, ?_⟩) ?_
  rotate_left
  · (intro wq hq; (try dsimp only at hq); go_simp; with_reducible rfl)
  simp only [Act.put, List.setIfInBounds_toArray, List.set_cons_zero, List.set_cons_succ]
  refine anyZ_take 13 (v := ?_) rfl (by kernel_rfl) (by kernel_rfl) (by kernel_rfl) (by kernel_rfl) (fun _ _ _ h => h) hC5 (Or.inl ⟨by rfl, ?_⟩) ?_
  rotate_left
  · (intro wq hq; (try dsimp only at hq); go_simp; with_reducible rfl)
  simp only [Act.put, List.setIfInBounds_toArray, List.set_cons_zero, List.set_cons_succ]
  refine anyZ_take 14 (v := ?_) rfl (by kernel_rfl) (by kernel_rfl) (by kernel_rfl) (by kernel_rfl) (fun _ _ _ h => h) hC5 (Or.inl ⟨by rfl, ?_⟩) ?_
  rotate_left
  · (intro wq hq; (try dsimp only at hq); go_simp; with_reducible rfl)
  simp only [Act.put, List.setIfInBounds_toArray, List.set_cons_zero, List.set_cons_succ]
  refine anyZ_take 15 (v := ?_) rfl (by kernel_rfl) (by kernel_rfl) (by kernel_rfl) (by kernel_rfl) (fun _ _ _ h => h) hC5 (Or.inl ⟨by rfl, ?_⟩) ?_
  rotate_left
  · (intro wq hq; (try dsimp only at hq); go_simp; with_reducible rfl)
  simp only [Act.put, List.setIfInBounds_toArray, List.set_cons_zero, List.set_cons_succ]
  refine anyZ_take 16 (v := ?_) rfl (by kernel_rfl) (by kernel_rfl) (by kernel_rfl) (by kernel_rfl) (fun _ _ _ h => h) hC5 (Or.inl ⟨by rfl, ?_⟩) ?_
  rotate_left
  · (intro wq hq; (try dsimp only at hq); go_simp; with_reducible rfl)
  simp only [Act.put, List.setIfInBounds_toArray, List.set_cons_zero, List.set_cons_succ]
  refine anyZ_take 17 (v := ?_) rfl (by kernel_rfl) (by kernel_rfl) (by kernel_rfl) (by kernel_rfl) (fun _ _ _ h => h) hC5 (Or.inl ⟨by rfl, ?_⟩) ?_
  rotate_left
  · (intro wq hq; (try dsimp only at hq); go_simp; with_reducible rfl)
  simp only [Act.put, List.setIfInBounds_toArray, List.set_cons_zero, List.set_cons_succ]
  refine anyZ_step 18 rfl (by kernel_rfl) (fun K hK => ?_)
  go_simp
  refine (same26_spec _ _ _ s s _ _ (hr3.ext hx5 (fun _ _ => id)) (hv3.ext hx5 (fun _ _ => id))).mono ?_
  rintro e w7 ⟨rfl, hx7⟩
  rw [decide_eq_true (rfl : s = s)]
  have hx7 := hx5.transNo hx7
  have hC7 := hCC _ hx7
  refine hK _ _ hC7 ?_
  clear hK K
  try simp only [Act.put, List.setIfInBounds_toArray, List.set_cons_zero, List.set_cons_succ]
  refine anyZ_take 19 (v := ?_) rfl (by kernel_rfl) (by kernel_rfl) (by kernel_rfl) (by kernel_rfl) (fun _ _ _ h => h) hC7 (Or.inl ⟨by rfl, ?_⟩) ?_
  rotate_left
  · (intro wq hq; (try dsimp only at hq); go_simp; with_reducible rfl)
  simp only [Act.put, List.setIfInBounds_toArray, List.set_cons_zero, List.set_cons_succ]
  refine anyZ_take 20 (v := ?_) rfl (by kernel_rfl) (by kernel_rfl) (by kernel_rfl) (by kernel_rfl) (fun _ _ _ h => h) hC7 (Or.inl ⟨by rfl, ?_⟩) ?_
  rotate_left
  · (intro wq hq; (try dsimp only at hq); go_simp; with_reducible rfl)
  simp only [Act.put, List.setIfInBounds_toArray, List.set_cons_zero, List.set_cons_succ]
  refine anyZ_step 21 rfl (by kernel_rfl) (fun K hK => ?_)
  go_simp
  refine (works29_spec _).mono ?_
  rintro e w8 ⟨rfl, hx8⟩
  have hx8 := hx7.transNo hx8
  have hC8 := hCC _ hx8
  refine hK _ _ hC8 ?_
  clear hK K
  try simp only [Act.put, List.setIfInBounds_toArray, List.set_cons_zero, List.set_cons_succ]
  refine anyZ_take 22 (v := ?_) rfl (by kernel_rfl) (by kernel_rfl) (by kernel_rfl) (by kernel_rfl) (fun _ _ _ h => h) hC8 (Or.inl ⟨by rfl, ?_⟩) ?_
  rotate_left
  · (intro wq hq; (try dsimp only at hq); go_simp; with_reducible rfl)
  simp only [Act.put, List.setIfInBounds_toArray, List.set_cons_zero, List.set_cons_succ]
  refine anyZ_last rfl (by kernel_rfl) (fun K hK => ?_)
  go_simp
  refine hK _ _ ?_
  clear hK K
  try simp only [Act.put, List.setIfInBounds_toArray, List.set_cons_zero, List.set_cons_succ]
  refine anyZ_done (by kernel_rfl) ?_ _
  go_wp2_with fail
  go_ret
  exact ⟨rfl, hX3.transNo hx8⟩
end Go.Proofs.Ytjkknjohmekeiaa
