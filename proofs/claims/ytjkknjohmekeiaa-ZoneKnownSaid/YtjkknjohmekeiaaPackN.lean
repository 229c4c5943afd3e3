/- Texts of ours, one behind the other (RefF): each says in its own first lines what it proves. No condition. -/
import Derived.Test.YtjkknjohmekeiaaPackM
/- The law BuddyKnown, walked. No condition. -/
namespace Go.Proofs.Ytjkknjohmekeiaa
open Go.RowKit

/-- No buddies: nil, or such as nobody has made. -/
def NoBud (w : World) (v : Value) : Prop := v = .pointer none ∨ ∃ b, v = .pointer (some ⟨b, 0, none⟩) ∧ Blk w b [.slice none 0 0] 126
theorem NoBud.extNo {w w' : World} {v : Value} (h : NoBud w v) (hx : Ext No w w') : NoBud w' v := by
  rcases h with rfl | ⟨b, rfl, h2⟩
  · exact .inl rfl
  · exact .inr ⟨b, rfl, h2.extNo hx⟩
theorem nob112 (w : World) (v : Value) (h : NoBud w v) : Calls Try.prog 112 #[v] w fun e w' => e = .returned (.bool true) ∧ w = w' := by
  rcases h with rfl | ⟨b, rfl, h2⟩
  · go_enter Try.func112, Try.ntmps112
    go_wp2_with fail
    go_ret
    exact ⟨rfl, rfl⟩
  · have c0 := h2.cell' (i := 0) rfl
    go_enter Try.func112, Try.ntmps112
    go_wp2_with fail
    go_ret
    exact ⟨rfl, rfl⟩
theorem nob_alloc (w : World) (v : Value) (h : NoBud w v) (o c : Int) : Calls Try.prog 72 #[v, .int .i64 o, .int .i64 c] w fun e w' => e = .returned (.tuple #[.int .i64 0, .int .i64 1]) ∧ w = w' := by
  go_enter Try.func72, Try.ntmps72
  go_wp2_with fail
  refine (nob112 w v h).mono ?_
  rintro e w1 ⟨rfl, rfl⟩
  go_wp2_with fail
  go_ret2
  exact ⟨rfl, rfl⟩
theorem nob_free (w : World) (v : Value) (h : NoBud w v) (i : Int) : Calls Try.prog 69 #[v, .int .i64 i] w fun e w' => e = .returned (.int .i64 1) ∧ w = w' := by
  go_enter Try.func69, Try.ntmps69
  go_wp2_with fail
  refine (nob112 w v h).mono ?_
  rintro e w1 ⟨rfl, rfl⟩
  go_wp2_with fail
  go_ret
  exact ⟨rfl, rfl⟩
theorem nob_frees (w : World) (v : Value) (h : NoBud w v) (i : Int) : Calls Try.prog 70 #[v, .int .i64 i] w fun e w' => e = .returned (.slice none 0 0) ∧ w = w' := by
  go_enter Try.func70, Try.ntmps70
  go_wp2_with fail
  refine (nob112 w v h).mono ?_
  rintro e w1 ⟨rfl, rfl⟩
  go_wp2_with fail
  go_ret
  exact ⟨rfl, rfl⟩
theorem nob_left (w : World) (v : Value) (h : NoBud w v) : Calls Try.prog 67 #[v] w fun e w' => e = .returned (.int .i64 0) ∧ w = w' := by
  go_enter Try.func67, Try.ntmps67
  go_wp2_with fail
  refine (nob112 w v h).mono ?_
  rintro e w1 ⟨rfl, rfl⟩
  go_wp2_with fail
  go_ret
  exact ⟨rfl, rfl⟩
theorem nob_whole (w : World) (v : Value) (h : NoBud w v) : Calls Try.prog 68 #[v] w fun e w' => e = .returned (.bool false) ∧ w = w' := by
  go_enter Try.func68, Try.ntmps68
  go_wp2_with fail
  refine (nob112 w v h).mono ?_
  rintro e w1 ⟨rfl, rfl⟩
  go_wp2_with fail
  go_ret
  exact ⟨rfl, rfl⟩
theorem nob_pages (w : World) (v : Value) (h : NoBud w v) : Calls Try.prog 71 #[v] w fun e w' => e = .returned (.slice none 0 0) ∧ w = w' := by
  go_enter Try.func71, Try.ntmps71
  go_wp2_with fail
  refine (nob112 w v h).mono ?_
  rintro e w1 ⟨rfl, rfl⟩
  go_wp2_with fail
  go_ret
  exact ⟨rfl, rfl⟩

theorem ty_do3b : SlTy 107 119 3 24 := .mk' (z := .agg #[.int .i64 0, .int .i64 0, .int .i64 0]) (by kernel_rfl) Try.underlying107 rfl (by decide)
def doB (i : Nat) : T3 := ⟨0, 0, (i : Int) % 9⟩
def dosB (k : Nat) : List T3 := (List.range k).map doB
theorem dosB_succ (k : Nat) : dosB (k + 1) = dosB k ++ [doB k] := by simp [dosB, List.range_succ]
theorem dosB_len (k : Nat) : (dosB k).length = k := by simp [dosB]
def sizes : List Int := [-1, 0, 1, 2, 3, 5, 8, 63, 64, 1023, 1024, 1025]
def scriptB (x : Int) : List T3 := [⟨0, 10, 8⟩, ⟨0, 11, 0⟩, ⟨0, -1, 0⟩, ⟨0, 0, 9⟩, ⟨0, 0, -1⟩, ⟨0, 3, 0⟩, ⟨0, 0, 0⟩, ⟨0, 0, 1⟩, ⟨1, -1, 0⟩, ⟨1, x, 0⟩, ⟨1, 1, 0⟩, ⟨2, 0, 0⟩, ⟨0, 2, 0⟩, ⟨2, 1, 0⟩, ⟨0, 10, 0⟩, ⟨2, 0, 0⟩, ⟨2, 0, 0⟩, ⟨2, 0, 0⟩, ⟨0, 10, 0⟩]

set_option maxRecDepth 100000 in
set_option maxHeartbeats 6400000 in
theorem buddyKnown_core (w : World) :
    Calls Try.prog 20 #[] w fun e w' => e = .returned (.bool true) ∧ Ext No w w' := by
  go_enter Try.func20, Try.ntmps20
  go_wp2_with fail
  go_loopg [1, 2] 2 (fun g v i wr => ∃ k : Nat, k + g = 2 ∧ i = .int .i64 k ∧ NoBud wr v ∧ Ext No w wr)
  case atStart => exact ⟨0, by omega, rfl, .inl rfl, Ext.refl _ _⟩
  case round =>
    obtain ⟨k, hk, rfl, hv, X⟩ := hrel
    have hk' := Lib.hid hk
    have hkn : k ≤ 2 := by omega
    clear hk
    by_cases hlt : k < 2
    · go_wp2_with fail
      refine (nob_alloc _ _ hv _ _).mono ?_
      rintro e w1 ⟨rfl, rfl⟩
      go_wp2_with fail
      refine (nob_free _ _ hv _).mono ?_
      rintro e w1 ⟨rfl, rfl⟩
      go_wp2_with fail
      refine (nob_frees _ _ hv _).mono ?_
      rintro e w1 ⟨rfl, rfl⟩
      go_wp2_with fail
      refine (nob_left _ _ hv).mono ?_
      rintro e w1 ⟨rfl, rfl⟩
      go_wp2_with fail
      refine (nob_whole _ _ hv).mono ?_
      rintro e w1 ⟨rfl, rfl⟩
      go_wp2_with fail
      refine (nob_pages _ _ hv).mono ?_
      rintro e w1 ⟨rfl, rfl⟩
      go_wp2_with fail
      have hv2 : NoBud (wr.alloc (.cells #[.slice none 0 0] 126)) (.pointer (some ⟨wr.heap.size, 0, none⟩)) := .inr ⟨_, rfl, Blk.new' rfl⟩
      go_roundg (2 - (k + 1))
      case measure => have := hk'.out; omega
      case rel => exact ⟨k + 1, by omega, by go_num, hv2, X.alloc _⟩
    · clear hv
      obtain ⟨W, hW⟩ : ∃ W, wr = W := ⟨_, rfl⟩
      rw [hW] at X ⊢
      clear hW
      go_upto_region 10 with (fail)
      obtain ⟨S, hS⟩ : ∃ S, W.heap.size = S := ⟨_, rfl⟩
      obtain ⟨W1, hW1⟩ : ∃ W1, W.alloc (.cells #[.int .i64 (-1), .int .i64 0, .int .i64 1, .int .i64 2, .int .i64 3, .int .i64 5, .int .i64 8, .int .i64 63, .int .i64 64, .int .i64 1023, .int .i64 1024, .int .i64 1025] 3) = W1 := ⟨_, rfl⟩
      have hS1 : Blk W1 S (sizes.map int) 3 := by rw [← hW1]; exact Blk.new' hS.symm
      have X1 : Ext No w W1 := by rw [← hW1]; exact X.alloc _
      rw [hW1, hS]
      clear hW1 hS X
      go_wp2_with fail
      go_loopg [6] 12 (fun g i wr => ∃ k : Nat, 12 - k ≤ g ∧ k ≤ 12 ∧ i = .int .i64 k ∧ Ext No W1 wr)
      case atStart => exact ⟨0, by omega, by omega, rfl, Ext.refl _ _⟩
      case round =>
        obtain ⟨i, hi, hi2, rfl, hx⟩ := hrel
        have hi' := Lib.hid hi
        clear hi
        obtain ⟨wz, hwz⟩ : ∃ wz, wr = wz := ⟨_, rfl⟩
        rw [hwz] at hx ⊢
        clear hwz
        by_cases hlt2 : i < 12
        · obtain ⟨x, hx0⟩ : ∃ x, nth sizes i = x := ⟨_, rfl⟩
          have hSz := hS1.extNo hx
          have hcx : (sizes.map int)[i]? = some (.int .i64 x) := by rw [List.getElem?_map, nth_some (show i < sizes.length from hlt2), hx0]; rfl
          have c0 := hSz.cell' hcx
          have hd : decide ((i : Int) < 12) = true := decide_eq_true (by omega)
          have hxa : Ext No W1 (wz.alloc (.cells #[.int .i64 0, .int .i64 10, .int .i64 8, .int .i64 0, .int .i64 11, .int .i64 0, .int .i64 0, .int .i64 (-1), .int .i64 0, .int .i64 0, .int .i64 0, .int .i64 9, .int .i64 0, .int .i64 0, .int .i64 (-1), .int .i64 0, .int .i64 3, .int .i64 0, .int .i64 0, .int .i64 0, .int .i64 0, .int .i64 0, .int .i64 0, .int .i64 1, .int .i64 1, .int .i64 (-1), .int .i64 0, .int .i64 1, .int .i64 x, .int .i64 0, .int .i64 1, .int .i64 1, .int .i64 0, .int .i64 2, .int .i64 0, .int .i64 0, .int .i64 0, .int .i64 2, .int .i64 0, .int .i64 2, .int .i64 1, .int .i64 0, .int .i64 0, .int .i64 10, .int .i64 0, .int .i64 2, .int .i64 0, .int .i64 0, .int .i64 2, .int .i64 0, .int .i64 0, .int .i64 2, .int .i64 0, .int .i64 0, .int .i64 0, .int .i64 10, .int .i64 0] 119)) := hx.alloc _
          have hcb := (hS1.extNo hxa).cell' hcx
          clear hcx hx0
          go_upto_region 14 with (fail)
          obtain ⟨W2, hW2⟩ : ∃ W2, wz.alloc (.cells #[.int .i64 0, .int .i64 10, .int .i64 8, .int .i64 0, .int .i64 11, .int .i64 0, .int .i64 0, .int .i64 (-1), .int .i64 0, .int .i64 0, .int .i64 0, .int .i64 9, .int .i64 0, .int .i64 0, .int .i64 (-1), .int .i64 0, .int .i64 3, .int .i64 0, .int .i64 0, .int .i64 0, .int .i64 0, .int .i64 0, .int .i64 0, .int .i64 1, .int .i64 1, .int .i64 (-1), .int .i64 0, .int .i64 1, .int .i64 x, .int .i64 0, .int .i64 1, .int .i64 1, .int .i64 0, .int .i64 2, .int .i64 0, .int .i64 0, .int .i64 0, .int .i64 2, .int .i64 0, .int .i64 2, .int .i64 1, .int .i64 0, .int .i64 0, .int .i64 10, .int .i64 0, .int .i64 2, .int .i64 0, .int .i64 0, .int .i64 2, .int .i64 0, .int .i64 0, .int .i64 2, .int .i64 0, .int .i64 0, .int .i64 0, .int .i64 10, .int .i64 0] 119) = W2 := ⟨_, rfl⟩
          have hR : RdT (fun b => b = wz.heap.size) W2 (.slice (some ⟨wz.heap.size, 0, none⟩) 19 19) (scriptB x) := by
            rw [← hW2]
            exact Rd.of_blk (n := 19) (cs := t3sCells (scriptB x)) (Blk.new' rfl) rfl (by decide)
          rw [hW2] at hxa hcb ⊢
          clear hW2
          go_wp2_with fail
          refine (buddyPlays_core W2 x _ (scriptB x) _ hR).mono ?_
          rintro e w4 ⟨rfl, hx4⟩
          have hx5 := hxa.transNo hx4
          have c5 := hx4.cell hcb id
          clear hR hxa hcb hx4 c0 hx hSz
          go_wp2_with fail
          refine (buddyPlays_core w4 x _ [] No (Rd.nil _ _ _)).mono ?_
          rintro e w6 ⟨rfl, hx6⟩
          have hx7 := hx5.transNo hx6
          clear hx5 hx6 c5
          go_wp2_with fail
          go_roundg (12 - (i + 1))
          case measure => have := hi'.out; omega
          case rel => exact ⟨i + 1, by omega, by omega, by go_num, hx7⟩
        · have hd : decide ((i : Int) < 12) = false := decide_eq_false (by omega)
          have X2 := X1.transNo hx
          clear hx X1 hS1
          go_wp2_with fail
          go_loopg [8, 9] 40 (fun g v i wr => ∃ k : Nat, k + g = 40 ∧ i = .int .i64 k ∧ wr.ownsRow wz.heap.size 119 3 v k (t3sCells (dosB k)) ∧ Ext No wz wr)
          case atStart => exact ⟨0, by omega, rfl, World.ownsRow_nil _ _ _ _, Ext.refl _ _⟩
          case round =>
            obtain ⟨m, hm, rfl, ho, hx⟩ := hrel
            have hm' := Lib.hid hm
            have hmn : m ≤ 40 := by omega
            clear hm
            obtain ⟨av, cv, rfl, hcv⟩ := ownsRow_val ho
            have hmd : (m : Int).tmod 9 = (m : Int) % 9 := Int.tmod_eq_emod_of_nonneg (by omega)
            by_cases hlt3 : m < 40
            · go_wp2_with (at_builtin; refine stop_here ?_)
              refine Stop.mk ?_
              have hxa : Ext No wr (wr.alloc (.cells #[.int .i64 0, .int .i64 0, .int .i64 ((m : Int) % 9)] 119)) := (Ext.refl _ _).alloc _
              refine wpList_app (v := .slice av m cv) (m := 1) ty_do3b rfl _ _ rfl rfl (ownsRow_ext ho hxa (fun _ _ => id)) rfl (Rd.of_blk (n := 1) (Blk.new' rfl) rfl (by decide)) (by simp [Value.oneCell']) (by omega) (by unfold maxLen; omega) (by have := hx.size; simp only [World.size_alloc]; omega) ?_
              intro v' w3 hown3 hx3 _ hfr3
              have hX : Ext No wz w3 := (hx.transNo hxa).trans hx3 (fun x hx2 h => by have := (ho.lt x h).1; omega)
              have hown3' : Hid (w3.ownsRow wz.heap.size 119 3 v' (m + 1) (t3sCells (dosB (m + 1)))) := by rw [dosB_succ, t3s_append]; exact hown3
              clear hown3 hx3 hfr3 ho
              go_wp2_with fail
              go_roundg (40 - (m + 1))
              case measure => have := hm'.out; omega
              case rel => exact ⟨m + 1, by omega, by go_num, hown3'.out, hX⟩
            · obtain rfl : m = 40 := by omega
              clear hmd hlt3
              obtain ⟨WW, hWW⟩ : ∃ WW, wr = WW := ⟨_, rfl⟩
              rw [hWW] at ho hx ⊢
              clear hWW
              have hR : RdT (OwnOf (.slice av 40 cv)) WW (.slice av 40 cv) (dosB 40) := own_rdT (by rw [dosB_len]; exact ho)
              have X3 := X2.transNo hx
              clear ho hx X2
              go_wp2_with fail
              refine (works65_spec _).mono ?_
              rintro e w4 ⟨rfl, x4⟩
              go_wp2_with fail
              refine (buddyPlays_core _ 32 _ (dosB 40) _ (hR.extNo x4)).mono ?_
              rintro e w5 ⟨rfl, x5⟩
              have hx5 := x4.transNo x5
              go_wp2_with fail
              refine (buddyBack_core _ 31 _ (dosB 40) 7 _ (hR.extNo hx5)).mono ?_
              rintro e w6 ⟨rfl, x6⟩
              have hx6 := hx5.transNo x6
              go_wp2_with fail
              refine (buddyFull_core _ 39 _ (dosB 40) 0 _ (hR.extNo hx6)).mono ?_
              rintro e w7 ⟨rfl, x7⟩
              have hx7 := hx6.transNo x7
              go_wp2_with fail
              go_ret
              exact ⟨rfl, X3.transNo hx7⟩

theorem buddyKnown_walk (w : World) :
    Calls Try.prog 20 #[] w fun e w' => e = .returned (.bool true) ∧ Below w.heap.size w w' :=
  (buddyKnown_core w).mono fun _ _ ⟨h1, h2⟩ => ⟨h1, h2.belowNo⟩
end Go.Proofs.Ytjkknjohmekeiaa
