/- The law NearPlays, walked. No condition. -/
import Derived.Test.YtjkknjohmekeiaaNearN
namespace Go.Proofs.Ytjkknjohmekeiaa
open Go.RowKit

theorem rt_new (w0 w : World) (hx : Ext No w0 w) (cpus cap : Int) (h1 : 1 ≤ cpus) (h2 : cpus ≤ 8) (h3 : 0 ≤ cap) (h4 : cap ≤ 64) (L : List (List Int)) (hL : List.replicate cpus.toNat [] = L) :
    Calls Try.prog 46 #[.int .i64 cpus, .int .i64 cap] w fun e w' => ∃ p F, e = .returned (.tuple #[.pointer (some ⟨p, 0, none⟩), .int .i64 0]) ∧ NT w0 w' p F L cap 148 ∧ (∀ x, F x → w.heap.size ≤ x) ∧ Ext No w w' := by
  refine (rs_new w cpus cap).mono ?_
  intro e w' h
  rw [if_pos ⟨⟨h1, h2⟩, h3, h4⟩, hL] at h
  obtain ⟨p, F, e1, e2, e3, e4, e5⟩ := h
  exact ⟨p, F, e1, ⟨hx.transNo e5, e2, fun x h => by have := e3 x h; have := hx.size; omega⟩, e3, e5⟩
theorem n_new_bad (w : World) (cpus cap : Int) (h : ¬ ((1 ≤ cpus ∧ cpus ≤ 8) ∧ 0 ≤ cap ∧ cap ≤ 64)) :
    Calls Try.prog 45 #[.int .i64 cpus, .int .i64 cap] w fun e w' => e = .returned (.tuple #[.pointer none, .int .i64 2]) ∧ w = w' := by
  refine (ns_new w cpus cap).mono ?_
  intro e w' h1
  rw [if_neg h] at h1; exact h1
theorem r_new_bad (w : World) (cpus cap : Int) (h : ¬ ((1 ≤ cpus ∧ cpus ≤ 8) ∧ 0 ≤ cap ∧ cap ≤ 64)) :
    Calls Try.prog 46 #[.int .i64 cpus, .int .i64 cap] w fun e w' => e = .returned (.tuple #[.pointer none, .int .i64 2]) ∧ w = w' := by
  refine (rs_new w cpus cap).mono ?_
  intro e w' h1
  rw [if_neg h] at h1; exact h1

set_option maxRecDepth 100000 in
set_option maxHeartbeats 3200000 in
theorem nearPlays_core (w : World) (cpus limit : Int) (v : Value) (l : List T3) (G0 : Nat → Prop) (hv : RdT G0 w v l) :
    Calls Try.prog 10 #[.int .i64 cpus, .int .i64 limit, v] w fun e w' => e = .returned (.bool true) ∧ Ext No w w' := by
  obtain ⟨a, cpa, rfl, _, _⟩ := hv.val
  by_cases hok : (1 ≤ cpus ∧ cpus ≤ 8) ∧ 0 ≤ limit ∧ limit ≤ 64
  · obtain ⟨⟨o1, o2⟩, o3, o4⟩ := hok
    go_enter Try.func10, Try.ntmps10
    go_wp2_with fail
    refine (nt_new w w (Ext.refl _ _) cpus limit o1 o2 o3 o4 _ rfl).mono ?_
    rintro e w1 ⟨p, F, rfl, h1, hF1, hp, x1⟩
    go_wp2_with fail
    refine (rt_new w w1 x1 cpus limit o1 o2 o3 o4 _ rfl).mono ?_
    rintro e w2 ⟨q, G, rfl, h2, hG2, x2⟩
    have hB : StepQ w w2 p q limit := ⟨F, G, _, h1.extNo x2, h2, fun x hF hG => by have := h1.s.lt x hF; have := hG2 x hG; omega⟩
    clear h1 h2 hF1 hG2 x1 x2 hp
    go_wp2_with fail
    go_loopg [11] l.length (fun g i wr => ∃ k : Nat, k + g = l.length ∧ i = .int .i64 k ∧ StepQ w wr p q limit)
    case atStart => exact ⟨0, by omega, rfl, hB⟩
    case round =>
      clear hB
      obtain ⟨k, hk, rfl, F, G, ll, hB⟩ := hrel
      have hk' := Lib.hid hk
      have hkn : k ≤ l.length := by omega
      clear hk
      have X := hB.1.x
      by_cases hlt : k < l.length
      · by_cases h150 : k < 150
        · obtain ⟨b, off, rfl, _, _, x0, x1, x2⟩ := (hv.extNo X).at hlt
          clear X
          go_wp2_with fail
          refine (step47_spec w wr p q F G ll limit hB (nth l k)).mono ?_
          rintro e w3 ⟨rfl, hB3⟩
          clear hB x0 x1 x2
          go_wp2_with fail
          go_loopg [12] 10 (fun g i wr => ∃ c : Int, -1 ≤ c ∧ c + (g : Int) = 9 ∧ i = .int .i64 c ∧ StepQ w wr p q limit)
          case atStart => exact ⟨-1, by omega, by omega, rfl, hB3⟩
          case round =>
            clear hB3
            obtain ⟨c, hc0, hcg, rfl, F, G, ll, hB⟩ := hrel
            have hcg' := Lib.hid hcg
            have hc9 : c ≤ 9 := by omega
            clear hcg
            by_cases hc : c < 9
            · go_wp2_with fail
              refine (nt_list hB.1 c rfl).mono ?_
              rintro e w4 ⟨r4, rfl, _, a4, x4⟩
              have hB4 := hB.extNo x4
              have a4 : Ans w4 r4 (listIn ll c) (fun b => ¬ F b ∧ ¬ G b ∧ w.heap.size ≤ b) := a4.mono (fun b hb => ⟨hb.1.1, fun hg => by have := hB.2.1.s.lt b hg; have := hb.2; omega, hb.1.2⟩)
              go_wp2_with fail
              refine (rt_list hB4.2.1 c rfl).mono ?_
              rintro e w5 ⟨r5, rfl, a5, x5⟩
              have hB5 := hB4.extNo x5
              have a4 := a4.keepNo x5
              go_wp2_with fail
              refine (eqInts_spec _ _ _ _ _ _ _ a4.rd a5.rd).mono ?_
              rintro e w6 ⟨rfl, n6, rfl⟩
              rw [decide_eq_true (rfl : listIn ll c = listIn ll c)]
              have hB6 := hB5.extNo ((Ext.refl No w5).drewN n6)
              have a4 := a4.keepNo ((Ext.refl No w5).drewN n6)
              obtain ⟨W4, hW4⟩ : ∃ W4, w5.drewN n6 = W4 := ⟨_, rfl⟩
              rw [hW4] at hB6 a4 ⊢
              clear hW4 hB5 hB4 hB x4 x5 a5
              rcases a4 with ⟨aa, ca, rfl, hA, _⟩ | ⟨b4, cs, cp, rfl, hl1, hl2, hBk, htk, hf1, hf2, hf3⟩
              · go_wp2_with fail
                go_loopg [14] 0 (fun g i wr => i = .int .i64 0 ∧ wr = W4)
                case atStart => exact ⟨rfl, rfl⟩
                case round =>
                  obtain ⟨rfl, rfl⟩ := hrel
                  go_wp2_with fail
                  go_roundg ((9 - (c + 1)).toNat)
                  case measure => have := hcg'.out; omega
                  case rel => exact ⟨c + 1, by omega, by omega, by go_num, F, G, ll, hB6⟩
              · obtain ⟨n, hn⟩ : ∃ n, (listIn ll c).length = n := ⟨_, rfl⟩
                rw [hn] at hl1 htk ⊢
                have hcl : n ≤ cs.length := blk_len htk hn.symm
                unfold maxLen at hl2
                clear htk hn
                go_wp2_with fail
                go_loopg [14] n (fun g i wr => ∃ k : Nat, k + g = n ∧ i = .int .i64 k ∧ Ext (One b4) W4 wr ∧ ∃ cs' : List Value, Blk wr b4 cs' 3 ∧ cs'.length = cs.length)
                case atStart => exact ⟨0, by omega, rfl, Ext.refl _ _, cs, hBk, rfl⟩
                case round =>
                  obtain ⟨m, hm, rfl, hx, cs', hB', hl'⟩ := hrel
                  have hm' := Lib.hid hm
                  have hmn : m ≤ n := by omega
                  have hl'' := Lib.hid hl'
                  clear hm hl'
                  by_cases hlt : m < n
                  · obtain ⟨u, hu⟩ : ∃ u, cs'[m]? = some u := ⟨_, List.getElem?_eq_getElem (by rw [hl''.out]; omega)⟩
                    have ck := hB'.cell' hu
                    have fk := hB'.frozen m
                    have hBn := Lib.hid (hB'.set m (.int .i64 (-1)))
                    have hu' := Lib.hid hu; clear hu
                    go_wp2_with fail
                    go_roundg (n - (m + 1))
                    case measure => have := hm'.out; omega
                    case rel => exact ⟨m + 1, by omega, by go_num, hx.trans (Ext.set1 _ _ _ _) (fun _ _ h => h), _, hBn.out, by rw [List.length_set]; exact hl''.out⟩
                  · have hBe := hB6.ext hx (fun x (e : x = b4) => by subst e; exact ⟨hf1, hf2, hf3⟩)
                    go_wp2_with fail
                    go_roundg ((9 - (c + 1)).toNat)
                    case measure => have := hcg'.out; omega
                    case rel => exact ⟨c + 1, by omega, by omega, by go_num, F, G, ll, hBe⟩
            · have hBq : StepQ w wr p q limit := ⟨F, G, ll, hB⟩
              clear hB
              go_wp2_with fail
              go_roundg (l.length - (k + 1))
              case measure => have := hk'.out; omega
              case rel => exact ⟨k + 1, by omega, by go_num, hBq⟩
        · clear hB
          go_wp2_with fail
          refine (works50_spec _).mono ?_
          rintro e w2 ⟨rfl, x2⟩
          go_wp2_with fail
          go_ret
          exact ⟨rfl, X.transNo x2⟩
      · clear hB
        go_wp2_with fail
        refine (works50_spec _).mono ?_
        rintro e w2 ⟨rfl, x2⟩
        go_wp2_with fail
        go_ret
        exact ⟨rfl, X.transNo x2⟩
  · have hok' := Lib.hid hok
    clear hok
    go_enter Try.func10, Try.ntmps10
    go_wp2_with fail
    refine (n_new_bad w cpus limit hok'.out).mono ?_
    rintro e w1 ⟨rfl, rfl⟩
    go_wp2_with fail
    refine (r_new_bad w cpus limit hok'.out).mono ?_
    rintro e w1 ⟨rfl, rfl⟩
    go_wp2_with fail
    go_loopg [11] 0 (fun g i wr => i = .int .i64 0 ∧ wr = w)
    case atStart => exact ⟨rfl, rfl⟩
    case round =>
      obtain ⟨rfl, rfl⟩ := hrel
      by_cases hl : 0 < l.length
      · go_wp2_with fail
        refine (works50_spec _).mono ?_
        rintro e w2 ⟨rfl, x2⟩
        go_wp2_with fail
        go_ret
        exact ⟨rfl, x2⟩
      · go_wp2_with fail
        refine (works50_spec _).mono ?_
        rintro e w2 ⟨rfl, x2⟩
        go_wp2_with fail
        go_ret
        exact ⟨rfl, x2⟩

theorem nearPlays_walk (w : World) (cpus : Int) (_ : (Lit.int .i64 cpus).wf = true) (limit : Int) (_ : (Lit.int .i64 limit).wf = true) (v : Value) (l : List T3) (hv : RdT (Iv 0 w.heap.size) w v l) (_ : l.length * 24 ≤ reachBytes ∧ ∀ x ∈ l, T3wf x) :
    Calls Try.prog 10 #[.int .i64 cpus, .int .i64 limit, v] w fun e w' => e = .returned (.bool true) ∧ Below w.heap.size w w' :=
  (nearPlays_core w cpus limit v l _ hv).mono fun _ _ ⟨h1, h2⟩ => ⟨h1, h2.belowNo⟩
end Go.Proofs.Ytjkknjohmekeiaa
