/- The law NearLast, walked. No condition. -/
import Derived.Test.YtjkknjohmekeiaaNearH
import Derived.Test.YtjkknjohmekeiaaOpen
namespace Go.Proofs.Ytjkknjohmekeiaa
open Go.RowKit

theorem listIn_set {ll : List (List Int)} {c : Int} (h : inR ll c = true) (l : List Int) : listIn (ll.set c.toNat l) c = l ∧ inR (ll.set c.toNat l) c = true := by
  obtain ⟨_, h2, _⟩ := listIn_in h
  have h3 : inR (ll.set c.toNat l) c = true := by simpa [inR] using h
  exact ⟨by rw [(listIn_in h3).1]; exact nth_set_eq _ h2, h3⟩
theorem put_quiet {ll : List (List Int)} {cap c page : Int} (h0 : putE ll c page = 0) (hA : putA ll cap c page = []) :
    takeX (putL ll cap c page) c = page ∧ takeB (putL ll cap c page) c = true ∧ dropL (putL ll cap c page) c = ll := by
  obtain ⟨h1, _⟩ := putE_zero.1 h0
  obtain ⟨e1, h2, h3⟩ := listIn_in h1
  have hk : putK (listIn ll c).length cap = 0 := by
    unfold putA at hA
    rw [if_pos h0, List.take_eq_nil_iff] at hA
    rcases hA with hA | hA
    · exact hA
    · simp at hA
  have hL : putL ll cap c page = ll.set c.toNat (listIn ll c ++ [page]) := by
    unfold putL
    rw [if_pos h0, hk]; rfl
  obtain ⟨g1, g2⟩ := listIn_set h1 (listIn ll c ++ [page])
  unfold takeX takeB dropL
  rw [hL, g1, g2]
  refine ⟨by simp, by simp, ?_⟩
  simp only [if_true, List.dropLast_concat, List.set_set]
  rw [e1, nth_eq h2]; exact List.set_getElem_self h2

def OneNT (w wr : World) (p : Nat) (cap : Int) : Prop := ∃ F ll, NT w wr p F ll cap

set_option maxRecDepth 100000 in
set_option maxHeartbeats 3200000 in
theorem nearLast_core (w : World) (limit : Int) (v : Value) (l : List Int) (G : Nat → Prop) (hv : RdI G w v l) :
    Calls Try.prog 13 #[.int .i64 limit, v] w fun e w' => e = .returned (.bool true) ∧ Ext No w w' := by
  obtain ⟨a, cp, rfl, _, _⟩ := Rd.val hv
  have m0 := Int.emod_nonneg limit (show (65 : Int) ≠ 0 by decide)
  have m1 := Int.emod_lt_of_pos limit (show (0 : Int) < 65 by decide)
  obtain ⟨cap, hcap⟩ : ∃ cap, limit % 65 = cap := ⟨_, rfl⟩
  rw [hcap] at m0 m1
  have hcap' := Lib.hid hcap; clear hcap
  go_enter Try.func13, Try.ntmps13
  go_wp2_with fail
  refine (bring_spec _ _ _ (by decide) (by decide)).mono ?_
  rintro e w1 ⟨rfl, rfl⟩
  rw [hcap'.out]
  go_wp2_with fail
  refine (nt_new w _ (Ext.refl _ _) 1 cap (by decide) (by decide) (by omega) (by omega) [[]] rfl).mono ?_
  rintro e w1 ⟨p, F0, rfl, h0, _, _, _⟩
  have hN : OneNT w w1 p cap := ⟨_, _, h0⟩
  clear h0
  go_wp2_with fail
  go_loopg [7] l.length (fun g i wr => ∃ k : Nat, k + g = l.length ∧ i = .int .i64 k ∧ OneNT w wr p cap)
  case atStart => exact ⟨0, by omega, rfl, hN⟩
  case round =>
    obtain ⟨k, hk, rfl, F, ll, hN⟩ := hrel
    have hk' := Lib.hid hk
    have hkn : k ≤ l.length := by omega
    clear hk
    by_cases hlt : k < l.length
    · by_cases h100 : k < 100
      · obtain ⟨b, off, rfl, _, _, x0⟩ := Rd.at1 (hv.extNo hN.x) hlt
        rw [List.getElem?_map, nth_some hlt] at x0
        simp only [Option.map_some, int] at x0
        go_wp2_with fail
        refine (bring_spec _ _ _ (by decide) (by decide)).mono ?_
        rintro e w2 ⟨rfl, rfl⟩
        obtain ⟨page, hpage⟩ : ∃ page, nth l k % 1024 = page := ⟨_, rfl⟩
        rw [hpage]
        clear hpage
        go_wp2_with fail
        by_cases hE : putE ll 0 page = 0
        · cases hA : putA ll cap 0 page with
          | nil =>
            obtain ⟨q1, q2, q3⟩ := put_quiet hE hA
            have hhas := (putE_zero.1 hE).2.2.2
            have hE' := Lib.hid hE; clear hE
            have hA' := Lib.hid hA; clear hA
            have q1' := Lib.hid q1; clear q1
            have q2' := Lib.hid q2; clear q2
            have q3' := Lib.hid q3; clear q3
            have hhas' := Lib.hid hhas; clear hhas
            refine (nt_put hN 0 page hE'.out rfl hA'.out).mono ?_
            rintro e w3 ⟨r3, F3, rfl, h3, a3, _, _⟩
            obtain ⟨aa, ca, rfl, _, _⟩ := a3.val
            go_wp2_with fail
            refine (nt_take h3 0 q1'.out q2'.out q3'.out).mono ?_
            rintro e w4 ⟨F4, rfl, h4, _, _⟩
            go_wp2_with fail
            refine (nt_has h4 page hhas'.out).mono ?_
            rintro e w5 ⟨rfl, h5, _⟩
            go_wp2_with fail
            refine (nt_put h5 0 page hE'.out rfl hA'.out).mono ?_
            rintro e w6 ⟨r6, F6, rfl, h6, a6, _, _⟩
            have hN6 : OneNT w w6 p cap := ⟨_, _, h6⟩
            clear h6 h5 h4 h3 hN
            go_wp2_with fail
            go_roundg (l.length - (k + 1))
            case measure => have := hk'.out; omega
            case rel => exact ⟨k + 1, by omega, by go_num, hN6⟩
          | cons y ys =>
            have hE' := Lib.hid hE; clear hE
            have hA' := Lib.hid hA; clear hA
            refine (nt_put hN 0 page hE'.out rfl hA'.out).mono ?_
            rintro e w3 ⟨r3, F3, rfl, h3, a3, _, _⟩
            obtain ⟨aa, ca, rfl, _, _⟩ := a3.val
            have hN6 : OneNT w w3 p cap := ⟨_, _, h3⟩
            clear h3 hN
            go_wp2_with fail
            go_roundg (l.length - (k + 1))
            case measure => have := hk'.out; omega
            case rel => exact ⟨k + 1, by omega, by go_num, hN6⟩
        · have hE2 : (putE ll 0 page == 0) = false := by rw [beq_eq_false_iff_ne]; exact hE
          refine (nt_put hN 0 page rfl rfl rfl).mono ?_
          rintro e w3 ⟨r3, F3, rfl, h3, a3, _, _⟩
          have hN6 : OneNT w w3 p cap := ⟨_, _, h3⟩
          clear h3 hN a3
          go_wp2_with fail
          go_roundg (l.length - (k + 1))
          case measure => have := hk'.out; omega
          case rel => exact ⟨k + 1, by omega, by go_num, hN6⟩
      · have X := hN.x
        go_wp2_with fail
        refine (works50_spec _).mono ?_
        rintro e w2 ⟨rfl, x2⟩
        go_wp2_with fail
        go_ret
        exact ⟨rfl, X.transNo x2⟩
    · have X := hN.x
      go_wp2_with fail
      refine (works50_spec _).mono ?_
      rintro e w2 ⟨rfl, x2⟩
      go_wp2_with fail
      go_ret
      exact ⟨rfl, X.transNo x2⟩

theorem nearLast_walk (w : World) (limit : Int) (_ : (Lit.int .i64 limit).wf = true) (v : Value) (l : List Int) (hv : RdI (Iv 0 w.heap.size) w v l) (_ : l.length * 8 ≤ reachBytes ∧ ∀ x ∈ l, (Lit.int .i64 x).wf = true) :
    Calls Try.prog 13 #[.int .i64 limit, v] w fun e w' => e = .returned (.bool true) ∧ Below w.heap.size w w' :=
  (nearLast_core w limit v l _ hv).mono fun _ _ ⟨h1, h2⟩ => ⟨h1, h2.belowNo⟩
end Go.Proofs.Ytjkknjohmekeiaa
