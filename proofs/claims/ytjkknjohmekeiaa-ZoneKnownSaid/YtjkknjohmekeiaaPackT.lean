/- Texts of ours, one behind the other (ZonePC): each says in its own first lines what it proves. No condition. -/
import Derived.Test.YtjkknjohmekeiaaPackS
/- The law ZoneKnown, walked. No condition. -/
namespace Go.Proofs.Ytjkknjohmekeiaa
open Go.RowKit

theorem zn_alloc (w : World) (v : Value) (h : NoZone w v) (c o k : Int) : Calls Try.prog 41 #[v, .int .i64 c, .int .i64 o, .int .i64 k] w fun e w' => e = .returned (.tuple #[.int .i64 0, .int .i64 1]) ∧ w = w' := by
  go_enter Try.func41, Try.ntmps41
  go_wp2_with fail
  refine (asked95_none w v h c).mono ?_
  rintro e w1 ⟨rfl, rfl⟩
  go_wp2_with fail
  go_ret2
  exact ⟨rfl, rfl⟩
theorem zn_free (w : World) (v : Value) (h : NoZone w v) (c p : Int) : Calls Try.prog 55 #[v, .int .i64 c, .int .i64 p] w fun e w' => e = .returned (.int .i64 1) ∧ w = w' := by
  go_enter Try.func55, Try.ntmps55
  go_wp2_with fail
  refine (asked95_none w v h c).mono ?_
  rintro e w1 ⟨rfl, rfl⟩
  go_wp2_with fail
  go_ret
  exact ⟨rfl, rfl⟩
theorem zn_drain (w : World) (v : Value) (h : NoZone w v) (c : Int) : Calls Try.prog 56 #[v, .int .i64 c] w fun e w' => e = .returned (.int .i64 1) ∧ w = w' := by
  go_enter Try.func56, Try.ntmps56
  go_wp2_with fail
  refine (asked95_none w v h c).mono ?_
  rintro e w1 ⟨rfl, rfl⟩
  go_wp2_with fail
  go_ret
  exact ⟨rfl, rfl⟩
theorem zn_left (w : World) (v : Value) (h : NoZone w v) : Calls Try.prog 40 #[v] w fun e w' => e = .returned (.int .i64 0) ∧ w = w' := by
  go_enter Try.func40, Try.ntmps40
  go_wp2_with fail
  refine (asked95_none w v h 0).mono ?_
  rintro e w1 ⟨rfl, rfl⟩
  go_wp2_with fail
  go_ret
  exact ⟨rfl, rfl⟩
theorem zn_near (w : World) (v : Value) (h : NoZone w v) (c : Int) : Calls Try.prog 44 #[v, .int .i64 c] w fun e w' => e = .returned (.int .i64 0) ∧ w = w' := by
  go_enter Try.func44, Try.ntmps44
  go_wp2_with fail
  refine (asked95_none w v h c).mono ?_
  rintro e w1 ⟨rfl, rfl⟩
  go_wp2_with fail
  go_ret
  exact ⟨rfl, rfl⟩
theorem zn_whole (w : World) (v : Value) (h : NoZone w v) : Calls Try.prog 57 #[v] w fun e w' => e = .returned (.bool false) ∧ w = w' := by
  go_enter Try.func57, Try.ntmps57
  go_wp2_with fail
  refine (asked95_none w v h 0).mono ?_
  rintro e w1 ⟨rfl, rfl⟩
  go_wp2_with fail
  go_ret
  exact ⟨rfl, rfl⟩
set_option maxRecDepth 100000 in
theorem zn_tag (w : World) (v : Value) (h : NoZone w v) (page : Int) : Calls Try.prog 42 #[v, .int .i64 page] w fun e w' => e = .returned (.tuple #[.agg #[.int .i64 0, .int .i64 0, .int .i64 0], .bool false]) ∧ Ext No w w' := by
  obtain ⟨A, hA⟩ : ∃ A, w.heap.size = A := ⟨_, rfl⟩
  obtain ⟨W, hW⟩ : ∃ W, w.alloc (.cells #[.int .i64 0, .int .i64 0, .int .i64 0] 56) = W := ⟨_, rfl⟩
  have hX : Ext No w W := by rw [← hW]; exact (Ext.refl _ _).alloc _
  have hB : Blk W A [.int .i64 0, .int .i64 0, .int .i64 0] 56 := by rw [← hW]; exact Blk.new' hA.symm
  have hW' := Lib.hid hW
  have hA' := Lib.hid hA
  clear hW hA
  have ha := asked95_none W v (h.extNo hX) 0
  have b0 := hB.cell' (i := 0) rfl
  have b1 := hB.cell' (i := 1) rfl
  have b2 := hB.cell' (i := 2) rfl
  have f0 := hB.frozen 0
  have f1 := hB.frozen 1
  have f2 := hB.frozen 2
  have hB2 := ((hB.set 0 (.int .i64 0)).set 1 (.int .i64 0)).set 2 (.int .i64 0)
  have r0 := hB2.cell' (i := 0) rfl
  have r1 := hB2.cell' (i := 1) rfl
  have r2 := hB2.cell' (i := 2) rfl
  have hX2 : Ext No w (((W.setCell ⟨A, 0, none⟩ (.int .i64 0)).setCell ⟨A, 1, none⟩ (.int .i64 0)).setCell ⟨A, 2, none⟩ (.int .i64 0)) := ((hX.setCell _ _ (.inl (by rw [hA'.out]; exact Nat.le_refl _))).setCell _ _ (.inl (by rw [hA'.out]; exact Nat.le_refl _))).setCell _ _ (.inl (by rw [hA'.out]; exact Nat.le_refl _))
  clear h hB hB2
  go_enter Try.func42, Try.ntmps42
  go_wp2_with fail
  rw [hW'.out, hA'.out]
  refine ha.mono ?_
  rintro e w1 ⟨rfl, rfl⟩
  go_wp2_with fail
  refine bodyPost_ret (v := .tuple #[.agg #[.int .i64 0, .int .i64 0, .int .i64 0], .bool false]) (by simp [results, Try.results42, go_sem, r0, r1, r2]) rfl ⟨rfl, hX2⟩

theorem ty_do4 : SlTy 46 90 4 32 := .mk' (z := .agg #[.int .i64 0, .int .i64 0, .int .i64 0, .int .i64 0]) (by kernel_rfl) Try.underlying46 rfl (by decide)
def zA1 (i : Nat) : Cl := ⟨0, (i : Int) % 2, 0, (i : Int) % 9⟩
def zA2 (i : Nat) : Cl := ⟨2, 1, i, 0⟩
def zL1 (k : Nat) : List Cl := (List.range k).map zA1
def zL2 (k : Nat) : List Cl := zL1 10 ++ (List.range k).map zA2
def zL3 : List Cl := [⟨0, 9, 0, 0⟩, ⟨0, 0, 11, 0⟩, ⟨0, 0, -1, 0⟩, ⟨0, 0, 0, 9⟩, ⟨0, 0, 0, -1⟩, ⟨1, 9, 0, 0⟩, ⟨1, 0, -1, 0⟩, ⟨1, 0, 2000, 0⟩, ⟨3, -1, 0, 0⟩, ⟨0, 0, 3, 0⟩, ⟨1, 0, 1, 0⟩, ⟨0, 0, 5, 0⟩, ⟨3, 1, 0, 0⟩, ⟨0, 0, 2, 0⟩, ⟨2, 0, 0, 0⟩, ⟨0, 0, 0, 0⟩]
theorem zL1_succ (k : Nat) : zL1 (k + 1) = zL1 k ++ [zA1 k] := by simp [zL1, List.range_succ]
theorem zL2_succ (k : Nat) : zL2 (k + 1) = zL2 k ++ [zA2 k] := by simp [zL2, List.range_succ]
theorem zL1_len (k : Nat) : (zL1 k).length = k := by simp [zL1]
theorem zL2_len (k : Nat) : (zL2 k).length = 10 + k := by simp [zL2, zL1]
theorem cls_append (l m : List Cl) : clsCells (l ++ m) = clsCells l ++ clsCells m := by simp [clsCells]

set_option maxRecDepth 100000 in
set_option maxHeartbeats 6400000 in
theorem zoneKnown_core (w : World) :
    Calls Try.prog 12 #[] w fun e w' => e = .returned (.bool true) ∧ Ext No w w' := by
  go_enter Try.func12, Try.ntmps12
  go_wp2_with fail
  go_loopg [1, 2] 2 (fun g v i wr => ∃ k : Nat, k + g = 2 ∧ i = .int .i64 k ∧ NoZone wr v ∧ Ext No w wr)
  case atStart => exact ⟨0, by omega, rfl, .inl rfl, Ext.refl _ _⟩
  case round =>
    obtain ⟨k, hk, rfl, hv, X⟩ := hrel
    have hk' := Lib.hid hk
    have hkn : k ≤ 2 := by omega
    clear hk
    by_cases hlt : k < 2
    · go_wp2_with fail
      refine (zn_alloc _ _ hv _ _ _).mono ?_
      rintro e w1 ⟨rfl, rfl⟩
      go_wp2_with fail
      refine (zn_tag _ _ hv _).mono ?_
      rintro e w1 ⟨rfl, x1⟩
      go_upto_region 7 with (fail)
      have x2 := x1.alloc (.cells #[.int .i64 0, .int .i64 0, .int .i64 0] 56)
      obtain ⟨A, hA⟩ : ∃ A, w1.heap.size = A := ⟨_, rfl⟩
      obtain ⟨W, hW⟩ : ∃ W, w1.alloc (.cells #[.int .i64 0, .int .i64 0, .int .i64 0] 56) = W := ⟨_, rfl⟩
      have hB : Blk W A [.int .i64 0, .int .i64 0, .int .i64 0] 56 := by rw [← hW]; exact Blk.new' hA.symm
      rw [hW] at x2
      rw [hW, hA]
      have hv2 := hv.extNo x2
      have X2 := X.transNo x2
      have b0 := hB.cell' (i := 0) rfl
      have b1 := hB.cell' (i := 1) rfl
      have b2 := hB.cell' (i := 2) rfl
      clear hv x1 x2 X hB hW hA
      go_wp2_with fail
      refine (zn_free _ _ hv2 _ _).mono ?_
      rintro e w1 ⟨rfl, rfl⟩
      go_wp2_with fail
      refine (zn_drain _ _ hv2 _).mono ?_
      rintro e w1 ⟨rfl, rfl⟩
      go_wp2_with fail
      refine (zn_left _ _ hv2).mono ?_
      rintro e w1 ⟨rfl, rfl⟩
      go_wp2_with fail
      refine (zn_near _ _ hv2 _).mono ?_
      rintro e w1 ⟨rfl, rfl⟩
      go_wp2_with fail
      refine (zn_whole _ _ hv2).mono ?_
      rintro e w1 ⟨rfl, rfl⟩
      go_wp2_with fail
      have hv3 : NoZone (W.alloc (.cells #[.pointer none, .pointer none, .int .i64 0, .int .i64 0, .map none] 86)) (.pointer (some ⟨W.heap.size, 0, none⟩)) := .inr ⟨_, _, _, _, _, rfl, Blk.new' rfl⟩
      go_roundg (2 - (k + 1))
      case measure => have := hk'.out; omega
      case rel => exact ⟨k + 1, by omega, by go_num, hv3, X2.alloc _⟩
    · clear hv
      obtain ⟨W, hW⟩ : ∃ W, wr = W := ⟨_, rfl⟩
      rw [hW] at X ⊢
      clear hW
      go_wp2_with fail
      refine (znew_bad W 0 5 (by omega)).mono ?_
      rintro e w1 ⟨rfl, x1⟩
      go_wp2_with fail
      refine (znew_bad w1 9 5 (by omega)).mono ?_
      rintro e w2 ⟨rfl, x2⟩
      go_wp2_with fail
      refine (znew_bad w2 1 0 (by omega)).mono ?_
      rintro e w3 ⟨rfl, x3⟩
      go_wp2_with fail
      refine (znew_bad w3 8 1025 (by omega)).mono ?_
      rintro e w4 ⟨rfl, x4⟩
      have X4 : Ext No w w4 := (((X.transNo x1).transNo x2).transNo x3).transNo x4
      clear X x1 x2 x3 x4
      go_wp2_with fail
      refine (zt_new w w4 X4 8 1024 (by decide) (by decide) (by decide) (by decide)).mono ?_
      rintro e w5 ⟨z, Z, rfl, h5, _, x5⟩
      have hwh : decide (full 1024 = full (full 1024).length) = true := decide_eq_true (by rw [full_len])
      have hlf : frS (full 1024) + (((List.replicate 8 ([] : List Int)).flatten.length : Nat) : Int) = 1024 := by rw [full_fr, flat_rep]; rfl
      have s1 := zt_whole' h5 hwh
      have s2 : ∀ w', ZT w w' z Z (full 1024) (List.replicate 8 []) (.map []) 0 → _ := fun w' hh => zt_left' hh hlf
      clear hwh hlf
      go_wp2_with fail
      refine s1.mono ?_
      rintro e w6 ⟨rfl, x6⟩
      have h6 := h5.extNo x6
      go_wp2_with fail
      refine (s2 w6 h6).mono ?_
      rintro e w7 ⟨rfl, x7⟩
      have X7 := (h6.extNo x7).x
      clear s1 s2 h5 h6 x5 x6 x7 X4
      go_wp2_with fail
      go_loopg [17, 18] 10 (fun g v i wr => ∃ k : Nat, k + g = 10 ∧ i = .int .i64 k ∧ wr.ownsRow w7.heap.size 90 4 v k (clsCells (zL1 k)) ∧ Ext No w7 wr)
      case atStart => exact ⟨0, by omega, rfl, World.ownsRow_nil _ _ _ _, Ext.refl _ _⟩
      case round =>
        obtain ⟨m, hm, rfl, ho, hx⟩ := hrel
        have hm' := Lib.hid hm
        have hmn : m ≤ 10 := by omega
        clear hm
        obtain ⟨av, cv, rfl, hcv⟩ := ownsRow_val ho
        have hmd : (m : Int).tmod 9 = (m : Int) % 9 := Int.tmod_eq_emod_of_nonneg (by omega)
        have hmd2 : (m : Int).tmod 2 = (m : Int) % 2 := Int.tmod_eq_emod_of_nonneg (by omega)
        by_cases hlt2 : m < 10
        · go_wp2_with (at_builtin; refine stop_here ?_)
          refine Stop.mk ?_
          have hxa : Ext No wr (wr.alloc (.cells #[.int .i64 0, .int .i64 ((m : Int) % 2), .int .i64 0, .int .i64 ((m : Int) % 9)] 90)) := (Ext.refl _ _).alloc _
          refine wpList_app (v := .slice av m cv) (m := 1) ty_do4 rfl _ _ rfl rfl (ownsRow_ext ho hxa (fun _ _ => id)) rfl (Rd.of_blk (n := 1) (Blk.new' rfl) rfl (by decide)) (by simp [Value.oneCell']) (by omega) (by unfold maxLen; omega) (by have := hx.size; simp only [World.size_alloc]; omega) ?_
          intro v' w8 hown3 hx3 _ hfr3
          have hX : Ext No w7 w8 := (hx.transNo hxa).trans hx3 (fun x hx2 h => by have := (ho.lt x h).1; omega)
          have hown3' : Hid (w8.ownsRow w7.heap.size 90 4 v' (m + 1) (clsCells (zL1 (m + 1)))) := by rw [zL1_succ, cls_append]; exact hown3
          clear hown3 hx3 hfr3 ho
          go_wp2_with fail
          go_roundg (10 - (m + 1))
          case measure => have := hm'.out; omega
          case rel => exact ⟨m + 1, by omega, by go_num, hown3'.out, hX⟩
        · obtain rfl : m = 10 := by omega
          clear hmd hmd2 hlt2
          have ho2 : wr.ownsRow w7.heap.size 90 4 (.slice av 10 cv) (10 + 0) (clsCells (zL2 0)) := by
            have e : zL2 0 = zL1 10 := by simp [zL2]
            rw [e]; exact ho
          clear ho
          go_wp2_with fail
          go_loopg [17, 19] 10 (fun g v i wr => ∃ k : Nat, k + g = 10 ∧ i = .int .i64 k ∧ wr.ownsRow w7.heap.size 90 4 v (10 + k) (clsCells (zL2 k)) ∧ Ext No w7 wr)
          case atStart => exact ⟨0, by omega, rfl, ho2, hx⟩
          case round =>
            clear ho2 hx
            obtain ⟨m, hm, rfl, ho, hx⟩ := hrel
            have hm2' := Lib.hid hm
            have hmn : m ≤ 10 := by omega
            clear hm
            obtain ⟨av, cv, rfl, hcv⟩ := ownsRow_val ho
            by_cases hlt2 : m < 10
            · go_wp2_with (at_builtin; refine stop_here ?_)
              refine Stop.mk ?_
              have hxa : Ext No wr (wr.alloc (.cells #[.int .i64 2, .int .i64 1, .int .i64 m, .int .i64 0] 90)) := (Ext.refl _ _).alloc _
              refine wpList_app (v := .slice av (10 + m) cv) (m := 1) ty_do4 rfl _ _ rfl rfl (ownsRow_ext ho hxa (fun _ _ => id)) rfl (Rd.of_blk (n := 1) (Blk.new' rfl) rfl (by decide)) (by simp [Value.oneCell']) (by omega) (by unfold maxLen; omega) (by have := hx.size; simp only [World.size_alloc]; omega) ?_
              intro v' w8 hown3 hx3 _ hfr3
              have hX : Ext No w7 w8 := (hx.transNo hxa).trans hx3 (fun x hx2 h => by have := (ho.lt x h).1; omega)
              have hown3' : Hid (w8.ownsRow w7.heap.size 90 4 v' (10 + (m + 1)) (clsCells (zL2 (m + 1)))) := by rw [zL2_succ, cls_append]; exact hown3
              clear hown3 hx3 hfr3 ho
              go_wp2_with fail
              go_roundg (10 - (m + 1))
              case measure => have := hm2'.out; omega
              case rel => exact ⟨m + 1, by omega, by go_num, hown3'.out, hX⟩
            · obtain rfl : m = 10 := by omega
              clear hlt2
              obtain ⟨WW, hWW⟩ : ∃ WW, wr = WW := ⟨_, rfl⟩
              rw [hWW] at ho hx ⊢
              clear hWW
              go_wp2_with (at_builtin; refine stop_here ?_)
              refine Stop.mk ?_
              have hxa : Ext No WW (WW.alloc (.cells #[.int .i64 0, .int .i64 9, .int .i64 0, .int .i64 0, .int .i64 0, .int .i64 0, .int .i64 11, .int .i64 0, .int .i64 0, .int .i64 0, .int .i64 (-1), .int .i64 0, .int .i64 0, .int .i64 0, .int .i64 0, .int .i64 9, .int .i64 0, .int .i64 0, .int .i64 0, .int .i64 (-1), .int .i64 1, .int .i64 9, .int .i64 0, .int .i64 0, .int .i64 1, .int .i64 0, .int .i64 (-1), .int .i64 0, .int .i64 1, .int .i64 0, .int .i64 2000, .int .i64 0, .int .i64 3, .int .i64 (-1), .int .i64 0, .int .i64 0, .int .i64 0, .int .i64 0, .int .i64 3, .int .i64 0, .int .i64 1, .int .i64 0, .int .i64 1, .int .i64 0, .int .i64 0, .int .i64 0, .int .i64 5, .int .i64 0, .int .i64 3, .int .i64 1, .int .i64 0, .int .i64 0, .int .i64 0, .int .i64 0, .int .i64 2, .int .i64 0, .int .i64 2, .int .i64 0, .int .i64 0, .int .i64 0, .int .i64 0, .int .i64 0, .int .i64 0, .int .i64 0] 90)) := (Ext.refl _ _).alloc _
              refine wpList_app (v := .slice av (10 + 10) cv) (m := 16) ty_do4 rfl _ _ rfl rfl (ownsRow_ext ho hxa (fun _ _ => id)) rfl (Rd.of_blk (n := 16) (cs := clsCells zL3) (Blk.new' rfl) rfl (by decide)) (by simp [Value.oneCell', zL3, clsCells, clCells]) (by omega) (by unfold maxLen; omega) (by have := hx.size; simp only [World.size_alloc]; omega) ?_
              intro v' w8 hown3 hx3 _ hfr3
              have hX : Ext No w7 w8 := (hx.transNo hxa).trans hx3 (fun x hx2 h => by have := (ho.lt x h).1; omega)
              have hR : ∃ (L : List Cl) (G : Nat → Prop), RdC G w8 v' L := by
                refine ⟨zL2 10 ++ zL3, OwnOf v', ?_⟩
                unfold RdC
                rw [cls_append, List.length_append, zL2_len]
                exact Rd.of_own hown3
              obtain ⟨L, G, hR⟩ := hR
              have X8 := X7.transNo hX
              clear hown3 hx3 hfr3 ho hxa hx hX X7
              obtain ⟨al, cl, rfl, _, _⟩ := Rd.val hR
              go_wp2_with fail
              go_loopg [20] 20 (fun g i wr => ∃ c : Int, 1 ≤ c ∧ c ≤ 42 ∧ (42 - c).toNat / 3 ≤ g ∧ i = .int .i64 c ∧ Ext No w8 wr)
              case atStart => exact ⟨1, by omega, by omega, by omega, rfl, Ext.refl _ _⟩
              case round =>
                obtain ⟨c, hc0, hc1, hcg, rfl, hx⟩ := hrel
                have hcg' := Lib.hid hcg
                clear hcg
                by_cases hc : c < 40
                · go_wp2_with fail
                  refine (zonePlays_core _ 2 c _ L G (Rd.extNo hR hx)).mono ?_
                  rintro e w9 ⟨rfl, x9⟩
                  have hx9 := hx.transNo x9
                  go_wp2_with fail
                  refine (zonePlays_core _ 8 c _ L G (Rd.extNo hR hx9)).mono ?_
                  rintro e w10 ⟨rfl, x10⟩
                  have hx10 := hx9.transNo x10
                  go_wp2_with fail
                  refine (zoneFull_core _ c _ L 0 G (Rd.extNo hR hx10)).mono ?_
                  rintro e w11 ⟨rfl, x11⟩
                  have hx11 := hx10.transNo x11
                  clear x9 x10 x11 hx hx9 hx10
                  go_wp2_with fail
                  go_roundg ((42 - (c + 3)).toNat / 3)
                  case measure => have := hcg'.out; omega
                  case rel => exact ⟨c + 3, by omega, by omega, by omega, by go_num, hx11⟩
                · go_wp2_with fail
                  refine (works43_spec _).mono ?_
                  rintro e w9 ⟨rfl, x9⟩
                  have hx9 := hx.transNo x9
                  go_wp2_with fail
                  refine (zonePlays_core _ 9 5 _ L G (Rd.extNo hR hx9)).mono ?_
                  rintro e w10 ⟨rfl, x10⟩
                  have hx10 := hx9.transNo x10
                  go_wp2_with fail
                  refine (zonePlays_core _ 1 (-3) _ L G (Rd.extNo hR hx10)).mono ?_
                  rintro e w11 ⟨rfl, x11⟩
                  have hx11 := hx10.transNo x11
                  go_wp2_with fail
                  go_ret
                  exact ⟨rfl, X8.transNo hx11⟩

theorem zoneKnown_walk (w : World) :
    Calls Try.prog 12 #[] w fun e w' => e = .returned (.bool true) ∧ Below w.heap.size w w' :=
  (zoneKnown_core w).mono fun _ _ ⟨h1, h2⟩ => ⟨h1, h2.belowNo⟩
end Go.Proofs.Ytjkknjohmekeiaa
