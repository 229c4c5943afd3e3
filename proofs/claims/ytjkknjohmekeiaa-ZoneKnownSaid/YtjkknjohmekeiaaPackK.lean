/- Texts of ours, one behind the other (RefE, BuddyQ, BuddyR, NearK): each says in its own first lines what it proves. No condition. -/
import Derived.Test.YtjkknjohmekeiaaPackJ
/- The law BuddyPlays, walked. No condition. -/
namespace Go.Proofs.Ytjkknjohmekeiaa
open Go.RowKit

set_option maxRecDepth 100000 in
set_option maxHeartbeats 6400000 in
theorem buddyPlays_core (w : World) (pages : Int) (vd : Value) (ds : List T3) (G : Nat → Prop) (hv : RdT G w vd ds) :
    Calls Try.prog 19 #[.int .i64 pages, vd] w fun e w' => e = .returned (.bool true) ∧ Ext No w w' := by
  obtain ⟨ad, cd, rfl, hcd, hcd2⟩ := hv.val
  by_cases hok : 1 ≤ pages ∧ pages ≤ 1024
  · obtain ⟨n, rfl⟩ : ∃ n : Nat, pages = n := ⟨pages.toNat, by omega⟩
    go_enter Try.func19, Try.ntmps19
    go_wp2_with fail
    refine (bt_new w w (Ext.refl _ _) n (by omega) (by omega) rfl).mono ?_
    rintro e w1 ⟨p, v, rfl, hB, hv1, hp1, hx1⟩
    go_wp2_with fail
    refine (new74_spec w1 n (by omega) (by omega)).mono ?_
    rintro e w2 ⟨q, u, base, rfl, hR, hq, hu, hx2⟩
    have hlt := hB.lt
    have hs1 := hx1.size
    have hP : PB w w2 p q v u (full n) := ⟨hB.extNo hx2, ⟨hB.x.transNo hx2, ⟨base, hR⟩, hB.i, by omega, fun x hx => by have := hu x hx; omega⟩, fun h => by have := hlt.2 q h; omega, fun h => by have := hu p h; omega, fun x h1 h2 => by have := hlt.2 x h1; have := hu x h2; omega⟩
    clear hB hR hq hu hx2 hlt hs1 hv1 hp1 hx1 hok
    go_wp2_with fail
    go_loopg [9] 40 (fun g s wr => ∃ (k : Nat) (l : List T3), 40 - k ≤ g ∧ s = .int .i64 k ∧ k ≤ ds.length ∧ k ≤ 40 ∧ PB w wr p q v u l)
    case atStart => exact ⟨0, _, by omega, rfl, by omega, by omega, hP⟩
    case round =>
      clear hP
      obtain ⟨k, l, hg, rfl, hk1, hk2, hP⟩ := hrel
      obtain ⟨wz, hwz⟩ : ∃ wz, wr = wz := ⟨_, rfl⟩
      rw [hwz] at hP ⊢
      clear hwz
      have hg' := Lib.hid hg
      clear hg
      by_cases hlt : k < ds.length ∧ k < 40
      · obtain ⟨hlt1, hlt2⟩ := hlt
        have hd1 : decide ((k : Int) < ds.length) = true := decide_eq_true (by omega)
        have hd2 : decide ((k : Int) < 40) = true := decide_eq_true (by omega)
        obtain ⟨b, off, rfl, hbl, _, x0, x1, x2⟩ := (hv.extNo hP.b.x).at hlt1
        go_upto_region 9 with (fail)
        obtain ⟨A, hA⟩ : ∃ A, wz.heap.size = A := ⟨_, rfl⟩
        obtain ⟨W, hW⟩ : ∃ W, wz.alloc (.cells #[.int .i64 (nth ds k).a, .int .i64 (nth ds k).b, .int .i64 (nth ds k).c] 119) = W := ⟨_, rfl⟩
        have hX : Ext No wz W := by rw [← hW]; exact (Ext.refl _ _).alloc _
        have hA1 : Blk W A [.int .i64 (nth ds k).a, .int .i64 (nth ds k).b, .int .i64 (nth ds k).c] 119 := by rw [← hW]; exact Blk.new' hA.symm
        rw [hW, hA]
        clear hW x0 x1 x2
        have hP1 := hP.extNo hX
        have hnv : ¬ OwnOf v A := fun h => by have := hP.b.lt.2 A h; omega
        have hnu : ¬ OwnOf u A := fun h => by have := hP.m.lt.2 A h; omega
        clear hP hX
        obtain ⟨d, hdd⟩ : ∃ d, nth ds k = d := ⟨_, rfl⟩
        rw [hdd] at hA1
        clear hdd
        have y0 := hA1.cell' (i := 0) rfl
        have y1 := hA1.cell' (i := 1) rfl
        have y2 := hA1.cell' (i := 2) rfl
        obtain ⟨kd, hkd, hkd2⟩ := modn d.a 3 (by decide)
        go_wp2_with fail
        refine (bring_spec W d.a 3 (by decide) (by decide)).mono ?_
        rintro e w3 ⟨rfl, rfl⟩
        rw [hkd]
        by_cases h0 : kd = 0
        · have hq0 : ((kd : Int) == 0) = true := by rw [beq_iff_eq]; omega
          go_wp2_with fail
          refine (bt_allocA hP1.b d.b d.c).mono ?_
          rintro e w4 ⟨rfl, hB4, hx4⟩
          have hA4 := hA1.ext hx4 hnv
          have hm4 := hP1.mid hx4
          have z1 := hA4.cell' (i := 1) rfl
          have z2 := hA4.cell' (i := 2) rfl
          clear y0 y1 y2 hA1
          go_wp2_with fail
          refine (rt_allocA hm4 d.b d.c).mono ?_
          rintro e w5 ⟨rfl, hB5, hx5⟩
          have hP5 := hP1.two hB4 hB5 hx5
          clear hB4 hx4 hm4 hB5 hx5 z1 z2 hA4
          obtain ⟨X, hX⟩ : ∃ X, aX l d.b d.c = X := ⟨_, rfl⟩
          obtain ⟨E5, hE⟩ : ∃ E5, aE l d.b d.c = E5 := ⟨_, rfl⟩
          obtain ⟨L5, hL⟩ : ∃ L5, aL l d.b d.c = L5 := ⟨_, rfl⟩
          rw [hX, hE]
          rw [hL] at hP5
          clear hX hE hL
          go_wp2_with fail
          go_roundg (40 - (k + 1))
          case measure => have := hg'.out; omega
          case rel => exact ⟨k + 1, L5, by omega, by go_num, by omega, by omega, hP5⟩
        · have hq0 : ((kd : Int) == 0) = false := by rw [beq_eq_false_iff_ne]; omega
          obtain ⟨ub, hr⟩ := hP1.m.r
          obtain ⟨au, cu, rfl, hcu, hcu2⟩ := hr.val
          have v0 := hr.b.cell' (i := 0) rfl
          go_wp2_with fail
          refine (outs76_spec W _ l _ hr.rd hP1.b.i.le).mono ?_
          rintro e w4 ⟨ro, rfl, hown, hx4⟩
          have hP4 := hP1.extNo hx4
          have hA4 := hA1.extNo hx4
          have z0 := hA4.cell' (i := 0) rfl
          have z1 := hA4.cell' (i := 1) rfl
          clear y0 y1 y2 hA1 hr v0 hx4 hP1
          obtain ⟨out, hout⟩ : ∃ out, outL l l.length = out := ⟨_, rfl⟩
          have hol := outL_len l l.length
          have hle := hP4.b.i.le
          rw [hout] at hown hol
          clear hout
          obtain ⟨ao, co, rfl, hco⟩ := ownsRow_val hown
          go_wp2_with fail
          refine (bring_spec w4 d.a 3 (by decide) (by decide)).mono ?_
          rintro e w5 ⟨rfl, rfl⟩
          rw [hkd]
          by_cases h2 : kd = 2
          · have hq2 : ((kd : Int) == 2) = true := by rw [beq_iff_eq]; omega
            by_cases hl0 : 0 < out.length
            · have hd3 : decide ((0 : Int) < out.length) = true := decide_eq_true (by omega)
              obtain ⟨j, hj, hj2⟩ := modn d.b out.length (by omega)
              obtain ⟨bo, co', e, _, _, hob, hbol, cj, _, _⟩ := own_at hown (k := j) (by omega)
              cases e
              rw [toI_nth (by omega)] at cj
              go_wp2_with fail
              refine (bring_spec w4 d.b out.length (by omega) (by omega)).mono ?_
              rintro e w6 ⟨rfl, rfl⟩
              rw [hj]
              go_wp2_with fail
              refine (bt_freeA hP4.b (nth out j : Nat)).mono ?_
              rintro e w8 ⟨rfl, hB8, hx8⟩
              have hm8 := hP4.mid hx8
              go_wp2_with fail
              refine (rt_freeA hm8 (nth out j : Nat)).mono ?_
              rintro e w9 ⟨rfl, hB9, hx9⟩
              have hP9 := hP4.two hB8 hB9 hx9
              clear hB8 hx8 hm8 hB9 hx9
              obtain ⟨L9, hL9⟩ : ∃ L9, fstep l (nth out j : Nat) = L9 := ⟨_, rfl⟩
              rw [hL9] at hP9
              clear hL9
              go_wp2_with fail
              go_roundg (40 - (k + 1))
              case measure => have := hg'.out; omega
              case rel => exact ⟨k + 1, L9, by omega, by go_num, by omega, by omega, hP9⟩

            · have hd3 : decide ((0 : Int) < out.length) = false := decide_eq_false (by omega)
              go_wp2_with fail
              refine (bt_freeA hP4.b d.b).mono ?_
              rintro e w8 ⟨rfl, hB8, hx8⟩
              have hm8 := hP4.mid hx8
              go_wp2_with fail
              refine (rt_freeA hm8 d.b).mono ?_
              rintro e w9 ⟨rfl, hB9, hx9⟩
              have hP9 := hP4.two hB8 hB9 hx9
              clear hB8 hx8 hm8 hB9 hx9
              obtain ⟨L9, hL9⟩ : ∃ L9, fstep l d.b = L9 := ⟨_, rfl⟩
              rw [hL9] at hP9
              clear hL9
              go_wp2_with fail
              go_roundg (40 - (k + 1))
              case measure => have := hg'.out; omega
              case rel => exact ⟨k + 1, L9, by omega, by go_num, by omega, by omega, hP9⟩

          · have hq2 : ((kd : Int) == 2) = false := by rw [beq_eq_false_iff_ne]; omega
            go_wp2_with fail
            refine (bt_freeA hP4.b d.b).mono ?_
            rintro e w8 ⟨rfl, hB8, hx8⟩
            have hm8 := hP4.mid hx8
            go_wp2_with fail
            refine (rt_freeA hm8 d.b).mono ?_
            rintro e w9 ⟨rfl, hB9, hx9⟩
            have hP9 := hP4.two hB8 hB9 hx9
            clear hB8 hx8 hm8 hB9 hx9
            obtain ⟨L9, hL9⟩ : ∃ L9, fstep l d.b = L9 := ⟨_, rfl⟩
            rw [hL9] at hP9
            clear hL9
            go_wp2_with fail
            go_roundg (40 - (k + 1))
            case measure => have := hg'.out; omega
            case rel => exact ⟨k + 1, L9, by omega, by go_num, by omega, by omega, hP9⟩

      · have hX := hP.b.x
        obtain ⟨ba1, hr1⟩ := hP.b.r
        obtain ⟨ba2, hr2⟩ := hP.m.r
        have hI := hP.b.i
        clear hP
        have hex : ¬ k < ds.length ∨ (k < ds.length ∧ ¬ k < 40) := by omega
        rcases hex with h1 | ⟨h1, h2⟩
        · have hd1 : decide ((k : Int) < ds.length) = false := decide_eq_false (by omega)
          go_wp2_with fail
          refine (same78_spec wz p q ba1 ba2 v u l hr1 hr2 hI).mono ?_
          rintro e w2 ⟨rfl, x2⟩
          go_wp2_with fail
          refine (works65_spec _).mono ?_
          rintro e w3 ⟨rfl, x3⟩
          go_wp2_with fail
          go_ret
          exact ⟨rfl, (hX.transNo x2).transNo x3⟩

        · have hd1 : decide ((k : Int) < ds.length) = true := decide_eq_true (by omega)
          have hd2 : decide ((k : Int) < 40) = false := decide_eq_false (by omega)
          go_wp2_with fail
          refine (same78_spec wz p q ba1 ba2 v u l hr1 hr2 hI).mono ?_
          rintro e w2 ⟨rfl, x2⟩
          go_wp2_with fail
          refine (works65_spec _).mono ?_
          rintro e w3 ⟨rfl, x3⟩
          go_wp2_with fail
          go_ret
          exact ⟨rfl, (hX.transNo x2).transNo x3⟩

  · have hbad : pages < 1 ∨ 1024 < pages := by omega
    go_enter Try.func19, Try.ntmps19
    go_wp2_with fail
    refine (new73_out w pages hbad).mono ?_
    rintro e w1 ⟨rfl, rfl⟩
    go_wp2_with fail
    refine (new74_out w pages hbad).mono ?_
    rintro e w1 ⟨rfl, rfl⟩
    go_wp2_with fail
    go_loopg [9] 0 (fun g i wr => i = .int .i64 0 ∧ wr = w)
    case atStart => exact ⟨rfl, rfl⟩
    case round =>
      obtain ⟨rfl, rfl⟩ := hrel
      by_cases hl : 0 < ds.length
      all_goals
        go_wp2_with fail
        refine (works65_spec _).mono ?_
        rintro e w2 ⟨rfl, x2⟩
        go_wp2_with fail
        go_ret
        exact ⟨rfl, x2⟩

theorem buddyPlays_walk (w : World) (pages : Int) (_ : (Lit.int .i64 pages).wf = true) (v : Value) (l : List T3) (hv : RdT (Iv 0 w.heap.size) w v l) (_ : l.length * 24 ≤ reachBytes ∧ ∀ x ∈ l, T3wf x) :
    Calls Try.prog 19 #[.int .i64 pages, v] w fun e w' => e = .returned (.bool true) ∧ Below w.heap.size w w' :=
  (buddyPlays_core w pages v l _ hv).mono fun _ _ ⟨h1, h2⟩ => ⟨h1, h2.belowNo⟩
end Go.Proofs.Ytjkknjohmekeiaa
/- BuddyBack. No condition. -/
namespace Go.Proofs.Ytjkknjohmekeiaa
open Go.RowKit

theorem full_not {l : List T3} {out : List Nat} (hm : ∀ x, x ∈ out ↔ x < l.length ∧ (nth l x).a = 2) (h : 0 < out.length) : decide (l = full l.length) = false := by
  apply decide_eq_false
  intro e
  obtain ⟨h1, h2⟩ := (hm _).1 (nth_mem h)
  rw [e] at h2
  exact full_out h1 h2
theorem full_yes {l : List T3} (h : BI l) {out : List Nat} (hm : ∀ x, x ∈ out ↔ x < l.length ∧ (nth l x).a = 2) (h0 : out.length = 0) : l = full l.length := by
  refine none_out h.va h.np (fun x hx h2 => ?_)
  have := (hm x).2 ⟨hx, h2⟩
  rw [List.eq_nil_of_length_eq_zero h0] at this; cases this

set_option maxRecDepth 100000 in
set_option maxHeartbeats 6400000 in
theorem buddyBack_core (w : World) (pages : Int) (vd : Value) (ds : List T3) (turn : Int) (G : Nat → Prop) (hv : RdT G w vd ds) :
    Calls Try.prog 17 #[.int .i64 pages, vd, .int .i64 turn] w fun e w' => e = .returned (.bool true) ∧ Ext No w w' := by
  obtain ⟨m, hm, hm2⟩ := modn pages 300 (by decide)
  have hw1 : IntKind.i64.wrap (1 + (m : Int)) = ((1 + m : Nat) : Int) := by rw [IntKind.wrap_i64]; omega
  go_enter Try.func17, Try.ntmps17
  go_wp2_with fail
  refine (works65_spec w).mono ?_
  rintro e w1 ⟨rfl, hx1⟩
  have hv1 := hv.extNo hx1
  go_wp2_with fail
  refine (played66_spec w1 pages vd ds G hv1).mono ?_
  rintro e w2 ⟨p, v, l, vo, out, rfl, hP, hll⟩
  rw [hm] at hll
  have hll : l.length = 1 + m := by omega
  clear hv hv1
  go_wp2_with fail
  obtain ⟨N, hN⟩ : ∃ N, frS l = N := ⟨_, rfl⟩
  refine (bt_left hP.b hN).mono ?_
  rintro e w3 ⟨rfl, _, hx3⟩
  have hP3 := hP.extNo hx3
  have hol := hP3.len
  clear hP hx3
  go_wp2_with fail
  go_loopg [2, 8, 9] 60 (fun g s2 vo s9 wr => ∃ (t : Int) (l : List T3) (out : List Nat) (N : Int), out.length ≤ g ∧ s2 = .int .i64 t ∧ s9 = .int .i64 N ∧ frS l = N ∧ PS w1 wr p v l vo out ∧ l.length = 1 + m)
  case atStart => exact ⟨turn, l, out, N, hol, rfl, rfl, hN, hP3, hll⟩
  case round =>
    clear hP3 hol hN hll
    obtain ⟨t, l, out, N, hg, rfl, rfl, hN, hP, hll⟩ := hrel
    obtain ⟨wz, hwz⟩ : ∃ wz, wr = wz := ⟨_, rfl⟩
    rw [hwz] at hP ⊢
    clear hwz
    have hg' := Lib.hid hg
    clear hg
    obtain ⟨ao, co, rfl, hco⟩ := hP.val
    by_cases h0 : out.length = 0
    · have hfull := full_yes hP.b.i hP.mem h0
      have hNn : N = ((1 + m : Nat) : Int) := by rw [← hN, hfull, full_fr, hll]
      have hd : decide ((0 : Int) < out.length) = false := decide_eq_false (by omega)
      have hwh := bt_whole hP.b (decide_eq_true hfull)
      have heq : ((N : Int) == ((1 + m : Nat) : Int)) = true := by rw [hNn, beq_self_eq_true]
      rw [hNn]
      clear hfull
      go_wp2_with fail
      refine hwh.mono ?_
      rintro e w4 ⟨rfl, hB4, hx4⟩
      go_wp2_with fail
      refine (bring_spec w4 pages 300 (by decide) (by decide)).mono ?_
      rintro e w5 ⟨rfl, rfl⟩
      rw [hm]
      go_wp2_with fail
      go_ret
      exact ⟨rfl, hx1.transNo hB4.x⟩
    · have hd : decide ((0 : Int) < out.length) = true := decide_eq_true (by omega)
      have h60 := hP.len
      obtain ⟨j, hj, hj2⟩ := modn t out.length (by omega)
      have hjl : j < out.length := by omega
      obtain ⟨base, hb1, hb2, hown⟩ := hP.o
      have hdis := hP.d
      have hmemj := (hP.mem _).1 (nth_mem hjl)
      obtain ⟨q1, q2, q3, q4⟩ := out_free hP.b.i hjl hP.mem hP.nd
      rw [hN] at q4
      have hwh := bt_whole hP.b (full_not hP.mem (by omega))
      obtain ⟨bo, co', e, _, _, hob, hbol, cj, _, _⟩ := own_at hown hjl
      cases e
      rw [toI_nth hjl] at cj
      clear hP
      go_wp2_with fail
      refine (bring_spec wz t out.length (by omega) (by omega)).mono ?_
      rintro e w4 ⟨rfl, rfl⟩
      rw [hj]
      go_wp2_with fail
      refine hwh.mono ?_
      rintro e w4 ⟨rfl, hB4, hx4⟩
      have cj4 := hx4.cell cj id
      have hown4 := ownsRow_ext hown hx4 (fun _ _ => id)
      clear hwh cj hown
      go_wp2_with fail
      refine (bt_free hB4 (nth out j) hmemj.1 hmemj.2 rfl).mono ?_
      rintro e w5 ⟨rfl, hB5, hx5⟩
      have hown5 := ownsRow_ext hown4 hx5 (fun x hx => (hdis x hx).2)
      obtain ⟨N2, hN2⟩ : ∃ N2, frS (freeT l (nth out j)) = N2 := ⟨_, rfl⟩
      rw [hN2] at q4
      have hle : decide (N2 ≤ N) = false := decide_eq_false (by omega)
      clear hB4 cj4 hown4 hN
      go_wp2_with fail
      refine (bt_left hB5 hN2).mono ?_
      rintro e w6 ⟨rfl, hB6, hx6⟩
      have hown6 := ownsRow_ext hown5 hx6 (fun _ _ => id)
      clear hB5 hown5
      go_wp2_with fail
      refine (bt_left hB6 hN2).mono ?_
      rintro e w3 ⟨rfl, hB3, hx7⟩
      have hown3 := ownsRow_ext hown6 hx7 (fun _ _ => id)
      have hb3 : base ≤ w3.heap.size := by have := hx4.size; have := hx5.size; have := hx6.size; have := hx7.size; omega
      clear hB6 hown6 hx7 hx6 hx5 hx4
      obtain ⟨bo2, co2, e, _, _, _, hbol3, cj, fj, hst⟩ := own_at hown3 hjl
      cases e
      obtain ⟨bo3, co3, e, _, _, _, _, cl, _, _⟩ := own_at (k := out.length - 1) hown3 (by omega)
      cases e
      rw [toI_nth hjl] at cj
      rw [toI_nth (by omega)] at cl
      have hset := hst (.int .i64 ((nth out (out.length - 1) : Nat) : Int))
      rw [toI_set] at hset
      have hstx : Ext (One bo) w3 (w3.setCell ⟨bo, j, none⟩ (.int .i64 ((nth out (out.length - 1) : Nat) : Int))) := Ext.set1 _ _ _ _
      have hB4 := hB3.ext hstx (fun e : p = bo => (hdis bo hob).1 e.symm) (fun x hx (e : x = bo) => (hdis bo hob).2 (e ▸ hx)) (fun x (e : x = bo) => by have := (hown3.lt bo hob).1; omega)
      have htk := own_take hset (m := out.length - 1) (by omega) (by omega)
      rw [toI_take] at htk
      have hP4 : PS w1 (w3.setCell ⟨bo, j, none⟩ (.int .i64 ((nth out (out.length - 1) : Nat) : Int))) p v (freeT l (nth out j)) (.slice (some ⟨bo, 0, none⟩) (out.length - 1) co) (rmv out j) :=
        ⟨hB4, ⟨base, hb1, by simpa using hb3, by rw [rmv_len hjl]; exact htk⟩, fun x hx => hdis x hx, q1, q2, by rw [rmv_len hjl]; omega⟩
      have hl1 : IntKind.i64.wrap ((out.length : Int) - 1) = ((out.length - 1 : Nat) : Int) := by rw [IntKind.wrap_i64]; omega
      have hrl := rmv_len hjl
      clear hst hset hstx hB4 htk hB3 hown3
      go_wp2_with fail
      go_roundg (out.length - 1)
      case measure => have := hg'.out; omega
      case rel => exact ⟨_, _, rmv out j, N2, by omega, rfl, rfl, hN2, hP4, by rw [q3]; exact hll⟩
theorem buddyBack_walk (w : World) (pages : Int) (_ : (Lit.int .i64 pages).wf = true) (v : Value) (l : List T3) (hv : RdT (Iv 0 w.heap.size) w v l) (_ : l.length * 24 ≤ reachBytes ∧ ∀ x ∈ l, T3wf x) (turn : Int) (_ : (Lit.int .i64 turn).wf = true) :
    Calls Try.prog 17 #[.int .i64 pages, v, .int .i64 turn] w fun e w' => e = .returned (.bool true) ∧ Below w.heap.size w w' :=
  (buddyBack_core w pages v l turn _ hv).mono fun _ _ ⟨h1, h2⟩ => ⟨h1, h2.belowNo⟩
end Go.Proofs.Ytjkknjohmekeiaa
/- BuddyFull. No condition. -/
namespace Go.Proofs.Ytjkknjohmekeiaa
open Go.RowKit

theorem smB_nn (c : T3 → Int) (hc : ∀ p, 0 ≤ c p) : ∀ l, 0 ≤ smB c l
  | [] => Int.le_refl _
  | p :: r => by have := hc p; have := smB_nn c hc r; simp only [smB]; omega
theorem frS_nn (l : List T3) : 0 ≤ frS l := smB_nn _ (fun p => by unfold cFree; split <;> omega) l
/-- Is a free block there, of an order between two? -/
def someL (l : List T3) (o : Nat) : Nat → Bool
  | 0 => false
  | d + 1 => someL l o d || decide (0 < (freesL l (o + d) 0).length)
theorem someL_iff (l : List T3) (o : Nat) : ∀ d, someL l o d = true ↔ ∃ k, o ≤ k ∧ k < o + d ∧ freesL l k 0 ≠ []
  | 0 => by simp [someL]; omega
  | d + 1 => by
    simp only [someL, Bool.or_eq_true, decide_eq_true_eq, someL_iff l o d]
    constructor
    · rintro (⟨k, h1, h2, h3⟩ | h)
      · exact ⟨k, h1, by omega, h3⟩
      · exact ⟨o + d, by omega, by omega, fun e => by rw [e] at h; simp at h⟩
    · rintro ⟨k, h1, h2, h3⟩
      by_cases e : k = o + d
      · subst e; exact .inr (List.length_pos_iff.2 h3)
      · exact .inl ⟨k, h1, by omega, h3⟩
theorem someL_least (l : List T3) {o : Nat} (ho : o ≤ 10) : someL l o (11 - o) = (leastL l o).isSome := by
  cases hl : leastL l o with
  | none =>
    have := (least_none (11 - o) o (Nat.le_refl _)).1 hl
    cases hs : someL l o (11 - o)
    · rfl
    · obtain ⟨k, h1, h2, h3⟩ := (someL_iff l o _).1 hs
      exact absurd (this k h1 (by omega)) h3
  | some b =>
    cases hs : someL l o (11 - o)
    · exfalso
      have hn : leastL l o = none := (least_none (11 - o) o (Nat.le_refl _)).2 (fun k h1 h2 => by
        cases hf : freesL l k 0 with
        | nil => rfl
        | cons x r =>
          have := (someL_iff l o (11 - o)).2 ⟨k, h1, by omega, by rw [hf]; exact List.cons_ne_nil _ _⟩
          rw [hs] at this; cases this)
      rw [hl] at hn; cases hn
    · rfl

theorem head_in {l : List T3} (ht : tabOk l = true) {i q z d : Nat} (hr : Rch l i) (he : nth l i = ⟨0, q, 0⟩) (hz : z ≤ pw q) (hd : d < z) (hf : i + z ≤ l.length) : headR l ((i + d : Nat) : Int) = i := by
  unfold headR
  rw [if_pos ht]
  have : inT l ((i + d : Nat) : Int) = true := by
    unfold inT; rw [decide_eq_true (Int.natCast_nonneg _), decide_eq_true (show ((i + d : Nat) : Int) < l.length by omega)]; rfl
  rw [if_pos this]
  exact headF_eq (tab_iff.1 ht).2.2 (by omega) ⟨hr, by omega, by rw [he, sz_mk]; omega⟩

set_option maxRecDepth 100000 in
set_option maxHeartbeats 6400000 in
theorem buddyFull_core (w : World) (pages : Int) (vd : Value) (ds : List T3) (order : Int) (G : Nat → Prop) (hv : RdT G w vd ds) :
    Calls Try.prog 18 #[.int .i64 pages, vd, .int .i64 order] w fun e w' => e = .returned (.bool true) ∧ Ext No w w' := by
  obtain ⟨o, ho, ho2⟩ := modn order 11 (by decide)
  have ho10 : o ≤ 10 := by omega
  have hsh := shl_pw ho10
  have hwr := wrap_pw ho10
  have hpp := pw_le ho10
  have hwr2 : IntKind.i64.wrap (2 ^ o) = ((pw o : Nat) : Int) := by
    have e : (2 ^ o : Int) = ((pw o : Nat) : Int) := by unfold pw; norm_cast
    rw [e, IntKind.wrap_i64]; omega
  have hp1 := pw_pos o
  go_enter Try.func18, Try.ntmps18
  go_wp2_with fail
  refine (played66_spec w pages vd ds G hv).mono ?_
  rintro e w2 ⟨p, v, l, vo, out, rfl, hP, hll⟩
  have hB := hP.b
  clear hP hll hv
  go_wp2_with fail
  refine (bring_spec w2 order 11 (by decide) (by decide)).mono ?_
  rintro e w3 ⟨rfl, rfl⟩
  rw [ho]
  go_wp2_with fail
  go_loopg [9, 10] 11 (fun g s k wr => ∃ d : Nat, 11 - (o + d) ≤ g ∧ o + d ≤ 11 ∧ s = .bool (someL l o d) ∧ k = .int .i64 (o + d : Nat) ∧ BT w wr p v l)
  case atStart => exact ⟨0, by omega, by omega, rfl, rfl, hB⟩
  case round =>
    clear hB
    obtain ⟨d, hg, hod, rfl, rfl, hB⟩ := hrel
    obtain ⟨wz, hwz⟩ : ∃ wz, wr = wz := ⟨_, rfl⟩
    rw [hwz] at hB ⊢
    clear hwz
    have hg' := Lib.hid hg
    clear hg
    obtain ⟨k, hk⟩ : ∃ k, o + d = k := ⟨_, rfl⟩
    rw [hk]
    obtain ⟨s, hs⟩ : ∃ s, someL l o d = s := ⟨_, rfl⟩
    rw [hs]
    by_cases hlt : k ≤ 10
    · have hd10 : decide ((k : Int) ≤ 10) = true := decide_eq_true (by omega)
      obtain ⟨L, hL⟩ : ∃ L, freesL l k 0 = L := ⟨_, rfl⟩
      have hs2 : Hid (someL l o (d + 1) = (s || decide (0 < L.length))) := by show _ = _; simp only [someL]; rw [hs, hk, hL]
      cases s with
      | true =>
        clear hs hL
        go_wp2_with fail
        go_roundg (11 - (o + (d + 1)))
        case measure => have := hg'.out; omega
        case rel => exact ⟨d + 1, by omega, by omega, by rw [hs2.out]; rfl, by rw [← hk]; go_num, hB⟩
      | false =>
        have hfr := bt_frees hB k hlt hL
        clear hs hL
        go_wp2_with fail
        refine hfr.mono ?_
        rintro e w4 ⟨aa, ca, rfl, ha, hB4, hx4⟩
        clear ha hfr hB
        by_cases h0 : 0 < L.length
        · have hd0 : decide ((0 : Int) < L.length) = true := decide_eq_true (by omega)
          have hs3 : Hid (someL l o (d + 1) = true) := by show _ = _; rw [hs2.out, decide_eq_true h0]; rfl
          go_wp2_with fail
          go_roundg (11 - (o + (d + 1)))
          case measure => have := hg'.out; omega
          case rel => exact ⟨d + 1, by omega, by omega, by rw [hs3.out], by rw [← hk]; go_num, hB4⟩
        · have hd0 : decide ((0 : Int) < L.length) = false := decide_eq_false (by omega)
          have hs3 : Hid (someL l o (d + 1) = false) := by show _ = _; rw [hs2.out, decide_eq_false h0]; rfl
          go_wp2_with fail
          go_roundg (11 - (o + (d + 1)))
          case measure => have := hg'.out; omega
          case rel => exact ⟨d + 1, by omega, by omega, by rw [hs3.out], by rw [← hk]; go_num, hB4⟩
    · have hd10 : decide ((k : Int) ≤ 10) = false := decide_eq_false (by omega)
      have hsl := someL_least l ho10
      rw [show 11 - o = d by omega, hs] at hsl
      clear hs
      subst hsl
      obtain ⟨N, hN⟩ : ∃ N, frS l = N := ⟨_, rfl⟩
      have hpg := bt_pages hB
      go_wp2_with fail
      refine hpg.mono ?_
      rintro e w4 ⟨r, rfl, hr, hB4, hx4⟩
      obtain ⟨ar, cr, rfl, hcr⟩ := ownsRow_val hr
      have hrn : ∀ x, OwnOf (.slice ar l.length cr) x → ¬ OwnOf v x := fun x hx ho => by have := (hr.lt x hx).1; have := hB.lt.2 x ho; omega
      have hR4 := own_rdT hr
      clear hpg hB hr
      go_wp2_with fail
      refine (bt_left hB4 hN).mono ?_
      rintro e w5 ⟨rfl, hB5, hx5⟩
      have hR5 := hR4.extNo hx5
      clear hB4 hR4
      cases hl : leastL l o with
      | none =>
        have hX : allocX l o = 0 := by unfold allocX; rw [hl]
        have hE : allocE l o = 7 := by unfold allocE; rw [hl]
        have hA : allocL l o 2 = l := BI.none 2 hl
        clear hl
        go_wp2_with fail
        refine (bt_alloc hB5 o 2 ho10 (by decide) hX hE hA).mono ?_
        rintro e w6 ⟨rfl, hB6, hx6⟩
        clear hX hE hA
        go_wp2_with fail
        refine (bt_left hB6 hN).mono ?_
        rintro e w7 ⟨rfl, hB7, hx7⟩
        go_wp2_with fail
        refine (works65_spec w7).mono ?_
        rintro e w8 ⟨rfl, hx8⟩
        go_wp2_with fail
        go_ret
        exact ⟨rfl, hB7.x.transNo hx8⟩
      | some b =>
        obtain ⟨h1, h2, h3, h4, h5⟩ := least_some (11 - o) o (Nat.le_refl _) b hl
        obtain ⟨hp, hbi⟩ := hB5.i.alloc (c := 2) (by decide) hl
        obtain ⟨hrb, _, _, hfb⟩ := free_ok hB5.i.va h5
        have hX : allocX l o = b.i := by unfold allocX; rw [hl]
        have hE : allocE l o = 0 := by unfold allocE; rw [hl]
        obtain ⟨i, q⟩ := b
        dsimp only at *
        have hoq := Nat.le_of_dvd (pw_pos q) (pw_dvd h1)
        have hnn := frS_nn (allocL l o 2)
        have hfr := hp.fr
        rw [hN] at hfr
        rw [hfr] at hnn
        have hat := hp.at0
        have hlen := hp.len
        have hpages := hB5.i.le
        have hN1024 : N ≤ 1024 * 1024 := by
          have hc := cBd cFree (by decide) cFree_bd hB5.i.va l.length (Nat.le_refl _)
          rw [sumTo_take _ _ _ (Nat.le_refl _), List.take_length] at hc
          have : frS l ≤ 1024 * l.length := hc.2
          omega
        have hdl : decide (N < (pw o : Nat)) = false := decide_eq_false (by omega)
        have hnth := (free_is.1 h5).2
        clear hl h5 hp hbi
        obtain ⟨L2, hL2⟩ : ∃ L2, allocL l o 2 = L2 := ⟨_, rfl⟩
        rw [hL2] at hfr hat hlen
        have hlr := hB5.lt
        have hva := hB5.i.va
        have htab := hB5.i.tab
        go_wp2_with fail
        refine (bt_alloc hB5 o 2 ho10 (by decide) hX hE hL2).mono ?_
        rintro e w6 ⟨rfl, hB6, hx6⟩
        have hR6 := hR5.ext hx6 hrn
        clear hB5 hR5 hX hE hL2
        go_wp2_with fail
        refine (bt_pages hB6).mono ?_
        rintro e w7 ⟨r7, rfl, hr7, hB7, hx7⟩
        have hR7 := hR6.extNo hx7
        obtain ⟨a7, c7, rfl, hc7⟩ := ownsRow_val hr7
        have hN7 := own_rdT hr7
        rw [hlen] at hN7 hc7
        clear hB6 hR6 hr7
        obtain ⟨b7, off7, rfl, hbl7, _, x0, x1, x2⟩ := hN7.at (k := i) (by omega)
        rw [hat] at x0 x1 x2
        have hR8 := hR7
        obtain ⟨b8, off8, rfl, hbl8, _, _, _, _⟩ := hR8.at (k := i) (by omega)
        clear hR8
        have hw1 : IntKind.i64.wrap ((i : Int) + (pw o : Nat)) = (i : Int) + (pw o : Nat) := by rw [IntKind.wrap_i64]; omega
        have hd1 : decide ((l.length : Int) < (i : Int) + (pw o : Nat)) = false := decide_eq_false (by omega)
        have hw2 : IntKind.i64.wrap (N - (pw o : Nat)) = N - (pw o : Nat) := by rw [IntKind.wrap_i64]; omega
        have hd1' : decide (l.length < i + pw o) = false := decide_eq_false (by omega)
        have hd2 : decide ((i : Int) < 0) = false := decide_eq_false (by omega)
        have hd3 : decide ((l.length : Int) ≤ (i : Int)) = false := decide_eq_false (by omega)
        have hee : ((o : Int) == (o : Int)) = true := beq_self_eq_true _
        have hne : (N - (pw o : Nat) != N - (pw o : Nat)) = false := by rw [bne, beq_self_eq_true]; rfl
        have hil : i < l.length := h4
        have hbg0 : Hid ((l.length : Int) ≤ 1024 ∧ i + pw o ≤ l.length) := by show _ ∧ _; omega
        have hmod : Hid ((i : Int) % (l.length : Int) = i) := Int.emod_eq_of_lt (by omega) (by omega)
        have hxd : Ext No w7 w7.drew := (Ext.refl No w7).drew
        obtain ⟨z, hz⟩ : ∃ z, pw o = z := ⟨_, rfl⟩
        rw [hz] at hw1 hd1 hd1' hw2 hne hsh hwr hwr2 hpp hp1 hoq hnn hdl hfr
        go_wp2_with fail
        refine anyZ_begin 33 (fun w' => w'.cell? ⟨b7, off7 + i * 3, none⟩ = some (.int .i64 2) ∧ w'.cell? ⟨b7, off7 + i * 3 + 1, none⟩ = some (.int .i64 o) ∧ w'.cell? ⟨b7, off7 + i * 3 + 2, none⟩ = some (.int .i64 2)) (by kernel_rfl) ?_
        have hC : (fun w' : World => w'.cell? ⟨b7, off7 + i * 3, none⟩ = some (.int .i64 2) ∧ w'.cell? ⟨b7, off7 + i * 3 + 1, none⟩ = some (.int .i64 o) ∧ w'.cell? ⟨b7, off7 + i * 3 + 2, none⟩ = some (.int .i64 2)) w7.drew := ⟨x0, x1, x2⟩
        refine anyZ_take 0 (v := ?_) rfl (by kernel_rfl) (by kernel_rfl) (by kernel_rfl) (by kernel_rfl) (fun _ _ _ h => h) hC (Or.inl ⟨by rfl, ?_⟩) ?_
        rotate_left
        · (intro wq hq; (try dsimp only at hq); go_simp; with_reducible rfl)
        simp only [Act.put, List.setIfInBounds_toArray, List.set_cons_zero, List.set_cons_succ]
        refine anyZ_take 1 (v := ?_) rfl (by kernel_rfl) (by kernel_rfl) (by kernel_rfl) (by kernel_rfl) (fun _ _ _ h => h) hC (Or.inl ⟨by rfl, ?_⟩) ?_
        rotate_left
        · (intro wq hq; (try dsimp only at hq); go_simp; with_reducible rfl)
        simp only [Act.put, List.setIfInBounds_toArray, List.set_cons_zero, List.set_cons_succ]
        refine anyZ_take 2 (v := ?_) rfl (by kernel_rfl) (by kernel_rfl) (by kernel_rfl) (by kernel_rfl) (fun _ _ _ h => h) hC (Or.inl ⟨by rfl, ?_⟩) ?_
        rotate_left
        · (intro wq hq; (try dsimp only at hq); go_simp; with_reducible rfl)
        simp only [Act.put, List.setIfInBounds_toArray, List.set_cons_zero, List.set_cons_succ]
        refine anyZ_take 3 (v := ?_) rfl (by kernel_rfl) (by kernel_rfl) (by kernel_rfl) (by kernel_rfl) (fun _ _ _ h => h) hC (Or.inl ⟨by rfl, ?_⟩) ?_
        rotate_left
        · (intro wq hq; (try dsimp only at hq); go_simp; with_reducible rfl)
        simp only [Act.put, List.setIfInBounds_toArray, List.set_cons_zero, List.set_cons_succ]
        refine anyZ_take 4 (v := ?_) rfl (by kernel_rfl) (by kernel_rfl) (by kernel_rfl) (by kernel_rfl) (fun _ _ _ h => h) hC (Or.inl ⟨by rfl, ?_⟩) ?_
        rotate_left
        · (intro wq hq; (try dsimp only at hq); go_simp; with_reducible rfl)
        simp only [Act.put, List.setIfInBounds_toArray, List.set_cons_zero, List.set_cons_succ]
        refine anyZ_take 5 (v := ?_) rfl (by kernel_rfl) (by kernel_rfl) (by kernel_rfl) (by kernel_rfl) (fun _ _ _ h => h) hC (Or.inl ⟨by rfl, ?_⟩) ?_
        rotate_left
        · (intro wq hq; (try dsimp only at hq); go_simp; with_reducible rfl)
        simp only [Act.put, List.setIfInBounds_toArray, List.set_cons_zero, List.set_cons_succ]
        refine anyZ_take 6 (v := ?_) rfl (by kernel_rfl) (by kernel_rfl) (by kernel_rfl) (by kernel_rfl) (fun _ _ _ h => h) hC (Or.inl ⟨by rfl, ?_⟩) ?_
        rotate_left
        · (intro wq hq; (try dsimp only at hq); go_simp; with_reducible rfl)
        simp only [Act.put, List.setIfInBounds_toArray, List.set_cons_zero, List.set_cons_succ]
        refine anyZ_take 7 (v := ?_) rfl (by kernel_rfl) (by kernel_rfl) (by kernel_rfl) (by kernel_rfl) (fun _ _ _ h => h) hC (Or.inl ⟨by rfl, ?_⟩) ?_
        rotate_left
        · (intro wq hq; (try dsimp only at hq); go_simp; with_reducible rfl)
        simp only [Act.put, List.setIfInBounds_toArray, List.set_cons_zero, List.set_cons_succ]
        refine anyZ_take 8 (v := ?_) rfl (by kernel_rfl) (by kernel_rfl) (by kernel_rfl) (by kernel_rfl) (fun _ _ _ h => h) hC (Or.inl ⟨by rfl, ?_⟩) ?_
        rotate_left
        · (intro wq hq; (try dsimp only at hq); go_simp; with_reducible rfl)
        simp only [Act.put, List.setIfInBounds_toArray, List.set_cons_zero, List.set_cons_succ]
        refine anyZ_take 9 (v := ?_) rfl (by kernel_rfl) (by kernel_rfl) (by kernel_rfl) (by kernel_rfl) (fun _ _ _ h => h) hC (Or.inl ⟨by rfl, ?_⟩) ?_
        rotate_left
        · (intro wq hq; (try dsimp only at hq); go_simp; with_reducible rfl)
        simp only [Act.put, List.setIfInBounds_toArray, List.set_cons_zero, List.set_cons_succ]
        refine anyZ_take 10 (v := ?_) rfl (by kernel_rfl) (by kernel_rfl) (by kernel_rfl) (by kernel_rfl) (fun _ _ _ h => h) hC (Or.inl ⟨by rfl, ?_⟩) ?_
        rotate_left
        · (intro wq hq; (try dsimp only at hq); go_simp; with_reducible rfl)
        simp only [Act.put, List.setIfInBounds_toArray, List.set_cons_zero, List.set_cons_succ]
        refine anyZ_take 11 (v := ?_) rfl (by kernel_rfl) (by kernel_rfl) (by kernel_rfl) (by kernel_rfl) (fun _ _ _ h => h) hC (Or.inl ⟨by rfl, ?_⟩) ?_
        rotate_left
        · (intro wq hq; (try dsimp only at hq); go_simp; with_reducible rfl)
        simp only [Act.put, List.setIfInBounds_toArray, List.set_cons_zero, List.set_cons_succ]
        refine anyZ_take 12 (v := ?_) rfl (by kernel_rfl) (by kernel_rfl) (by kernel_rfl) (by kernel_rfl) (fun _ _ _ h => h) hC (Or.inl ⟨by rfl, ?_⟩) ?_
        rotate_left
        · (intro wq hq; (try dsimp only at hq); go_simp; with_reducible rfl)
        simp only [Act.put, List.setIfInBounds_toArray, List.set_cons_zero, List.set_cons_succ]
        refine anyZ_take 13 (v := ?_) rfl (by kernel_rfl) (by kernel_rfl) (by kernel_rfl) (by kernel_rfl) (fun _ _ _ h => h) hC (Or.inl ⟨by rfl, ?_⟩) ?_
        rotate_left
        · (intro wq hq; (try dsimp only at hq); go_simp; with_reducible rfl)
        simp only [Act.put, List.setIfInBounds_toArray, List.set_cons_zero, List.set_cons_succ]
        refine anyZ_take 14 (v := ?_) rfl (by kernel_rfl) (by kernel_rfl) (by kernel_rfl) (by kernel_rfl) (fun _ _ _ h => h) hC (Or.inl ⟨by rfl, ?_⟩) ?_
        rotate_left
        · (intro wq hq; (try dsimp only at hq); go_simp; with_reducible rfl)
        simp only [Act.put, List.setIfInBounds_toArray, List.set_cons_zero, List.set_cons_succ]
        refine anyZ_take 15 (v := ?_) rfl (by kernel_rfl) (by kernel_rfl) (by kernel_rfl) (by kernel_rfl) (fun _ _ _ h => h) hC (Or.inl ⟨by rfl, ?_⟩) ?_
        rotate_left
        · (intro wq hq; (try dsimp only at hq); go_simp; with_reducible rfl)
        simp only [Act.put, List.setIfInBounds_toArray, List.set_cons_zero, List.set_cons_succ]
        refine anyZ_take 16 (v := ?_) rfl (by kernel_rfl) (by kernel_rfl) (by kernel_rfl) (by kernel_rfl) (fun _ _ _ h => h) hC (Or.inl ⟨by rfl, ?_⟩) ?_
        rotate_left
        · (intro wq hq; (try dsimp only at hq); go_simp; with_reducible rfl)
        simp only [Act.put, List.setIfInBounds_toArray, List.set_cons_zero, List.set_cons_succ]
        refine anyZ_take 17 (v := ?_) rfl (by kernel_rfl) (by kernel_rfl) (by kernel_rfl) (by kernel_rfl) (fun _ _ _ h => h) hC (Or.inl ⟨by rfl, ?_⟩) ?_
        rotate_left
        · (intro wq hq; (try dsimp only at hq); go_simp; with_reducible rfl)
        simp only [Act.put, List.setIfInBounds_toArray, List.set_cons_zero, List.set_cons_succ]
        refine anyZ_take 18 (v := ?_) rfl (by kernel_rfl) (by kernel_rfl) (by kernel_rfl) (by kernel_rfl) (fun _ _ _ h => h) hC (Or.inl ⟨by rfl, ?_⟩) ?_
        rotate_left
        · (intro wq hq; (try dsimp only at hq); go_simp; with_reducible rfl)
        simp only [Act.put, List.setIfInBounds_toArray, List.set_cons_zero, List.set_cons_succ]
        refine anyZ_take 19 (v := ?_) rfl (by kernel_rfl) (by kernel_rfl) (by kernel_rfl) (by kernel_rfl) (fun _ _ _ h => h) hC (Or.inl ⟨by rfl, ?_⟩) ?_
        rotate_left
        · (intro wq hq; (try dsimp only at hq); go_simp; with_reducible rfl)
        simp only [Act.put, List.setIfInBounds_toArray, List.set_cons_zero, List.set_cons_succ]
        refine anyZ_take 20 (v := ?_) rfl (by kernel_rfl) (by kernel_rfl) (by kernel_rfl) (by kernel_rfl) (fun _ _ _ h => h) hC (Or.inl ⟨by rfl, ?_⟩) ?_
        rotate_left
        · (intro wq hq; (try dsimp only at hq); go_simp; with_reducible rfl)
        simp only [Act.put, List.setIfInBounds_toArray, List.set_cons_zero, List.set_cons_succ]
        refine anyZ_take 21 (v := ?_) rfl (by kernel_rfl) (by kernel_rfl) (by kernel_rfl) (by kernel_rfl) (fun _ _ _ h => h) hC (Or.inl ⟨by rfl, ?_⟩) ?_
        rotate_left
        · (intro wq hq; (try dsimp only at hq); go_simp; with_reducible rfl)
        simp only [Act.put, List.setIfInBounds_toArray, List.set_cons_zero, List.set_cons_succ]
        refine anyZ_take 22 (v := ?_) rfl (by kernel_rfl) (by kernel_rfl) (by kernel_rfl) (by kernel_rfl) (fun _ _ _ h => h) hC (Or.inl ⟨by rfl, ?_⟩) ?_
        rotate_left
        · (intro wq hq; (try dsimp only at hq); go_simp; with_reducible rfl)
        simp only [Act.put, List.setIfInBounds_toArray, List.set_cons_zero, List.set_cons_succ]
        refine anyZ_take 23 (v := ?_) rfl (by kernel_rfl) (by kernel_rfl) (by kernel_rfl) (by kernel_rfl) (fun _ _ _ h => h) hC (Or.inl ⟨by rfl, ?_⟩) ?_
        rotate_left
        · (intro wq hq; (try dsimp only at hq); go_simp; with_reducible rfl)
        simp only [Act.put, List.setIfInBounds_toArray, List.set_cons_zero, List.set_cons_succ]
        refine anyZ_take 24 (v := ?_) rfl (by kernel_rfl) (by kernel_rfl) (by kernel_rfl) (by kernel_rfl) (fun _ _ _ h => h) hC (Or.inl ⟨by rfl, ?_⟩) ?_
        rotate_left
        · (intro wq hq; (try dsimp only at hq); go_simp; with_reducible rfl)
        simp only [Act.put, List.setIfInBounds_toArray, List.set_cons_zero, List.set_cons_succ]
        refine anyZ_take 25 (v := ?_) rfl (by kernel_rfl) (by kernel_rfl) (by kernel_rfl) (by kernel_rfl) (fun _ _ _ h => h) hC (Or.inl ⟨by rfl, ?_⟩) ?_
        rotate_left
        · (intro wq hq; (try dsimp only at hq); go_simp; with_reducible rfl)
        simp only [Act.put, List.setIfInBounds_toArray, List.set_cons_zero, List.set_cons_succ]
        refine anyZ_take 27 (v := ?_) rfl (by kernel_rfl) (by kernel_rfl) (by kernel_rfl) (by kernel_rfl) (fun _ _ _ h => h) hC (Or.inl ⟨by rfl, ?_⟩) ?_
        rotate_left
        · (intro wq hq; (try dsimp only at hq); go_simp; with_reducible rfl)
        simp only [Act.put, List.setIfInBounds_toArray, List.set_cons_zero, List.set_cons_succ]
        refine anyZ_take 28 (v := ?_) rfl (by kernel_rfl) (by kernel_rfl) (by kernel_rfl) (by kernel_rfl) (fun _ _ _ h => h) hC (Or.inl ⟨by rfl, ?_⟩) ?_
        rotate_left
        · (intro wq hq; (try dsimp only at hq); go_simp; with_reducible rfl)
        simp only [Act.put, List.setIfInBounds_toArray, List.set_cons_zero, List.set_cons_succ]
        refine anyZ_take 29 (v := ?_) rfl (by kernel_rfl) (by kernel_rfl) (by kernel_rfl) (by kernel_rfl) (fun _ _ _ h => h) hC (Or.inl ⟨by rfl, ?_⟩) ?_
        rotate_left
        · (intro wq hq; (try dsimp only at hq); go_simp; with_reducible rfl)
        simp only [Act.put, List.setIfInBounds_toArray, List.set_cons_zero, List.set_cons_succ]
        refine anyZ_take 30 (v := ?_) rfl (by kernel_rfl) (by kernel_rfl) (by kernel_rfl) (by kernel_rfl) (fun _ _ _ h => h) hC (Or.inl ⟨by rfl, ?_⟩) ?_
        rotate_left
        · (intro wq hq; (try dsimp only at hq); go_simp; with_reducible rfl)
        simp only [Act.put, List.setIfInBounds_toArray, List.set_cons_zero, List.set_cons_succ]
        refine anyZ_step 26 rfl (by kernel_rfl) (fun K hK => ?_)
        go_simp
        refine (bt_left (hB7.extNo hxd) hfr).mono ?_
        rintro e w8 ⟨rfl, hB8, hx8⟩
        have hC8 : (fun w' : World => w'.cell? ⟨b7, off7 + i * 3, none⟩ = some (.int .i64 2) ∧ w'.cell? ⟨b7, off7 + i * 3 + 1, none⟩ = some (.int .i64 o) ∧ w'.cell? ⟨b7, off7 + i * 3 + 2, none⟩ = some (.int .i64 2)) w8 := ⟨hx8.cell (w := w7.drew) x0 id, hx8.cell (w := w7.drew) x1 id, hx8.cell (w := w7.drew) x2 id⟩
        refine hK _ _ hC8 ?_
        clear hK K
        try simp only [Act.put, List.setIfInBounds_toArray, List.set_cons_zero, List.set_cons_succ]
        refine anyZ_take 31 (v := ?_) rfl (by kernel_rfl) (by kernel_rfl) (by kernel_rfl) (by kernel_rfl) (fun _ _ _ h => h) hC8 (Or.inl ⟨by rfl, ?_⟩) ?_
        rotate_left
        · (intro wq hq; (try dsimp only at hq); go_simp; with_reducible rfl)
        simp only [Act.put, List.setIfInBounds_toArray, List.set_cons_zero, List.set_cons_succ]
        refine anyZ_take 32 (v := ?_) rfl (by kernel_rfl) (by kernel_rfl) (by kernel_rfl) (by kernel_rfl) (fun _ _ _ h => h) hC8 (Or.inl ⟨by rfl, ?_⟩) ?_
        rotate_left
        · (intro wq hq; (try dsimp only at hq); go_simp; with_reducible rfl)
        simp only [Act.put, List.setIfInBounds_toArray, List.set_cons_zero, List.set_cons_succ]
        refine anyZ_done (by kernel_rfl) ?_ _
        have hR8 := (hR7.extNo hxd).extNo hx8
        clear hC hC8 hR7 hB7 x0 x1 x2 hx8 hx7 hx6 hx5 hx4
        have hz' := Lib.hid hz
        have hbg : Hid ((l.length : Int) ≤ 1024 ∧ i + z ≤ l.length) := by rw [← hz]; exact hbg0
        clear hne hee hdl hw2 hd1 hd1' hd2 hd3
        have hk0 : (nth l i).a = 0 := by rw [hnth]
        have hdh : ∀ d, d < z → headR l ((i + d : Nat) : Int) = i := fun d hd => head_in htab hrb hnth hoq hd hbg.out.2
        have hdh' := Lib.hid hdh
        clear hz hdh hwr hsh hwr2 hnth hfr hrb hva hnn hN hN1024 hc7 hcr hfb hat hlen ho ho2 hk hlt hod h1 h2 h3
        have hsh := shl_pw ho10
        have hwr := wrap_pw ho10
        have hwr2 : IntKind.i64.wrap (2 ^ o) = (z : Int) := by
          have e : (2 ^ o : Int) = ((pw o : Nat) : Int) := by unfold pw; norm_cast
          rw [e, hz'.out, IntKind.wrap_i64]; omega
        rw [hz'.out] at hsh hwr
        have hw1' := Lib.hid hw1
        have hwr' := Lib.hid hwr
        have hwr2' := Lib.hid hwr2
        go_wp2_with fail
        clear hw1 hwr hwr2
        go_loopg [16, 17, 18] z (fun g s16 s17 s18 wr => ∃ d : Nat, z - d ≤ g ∧ d ≤ z ∧ s16 = .int .i64 (i + d : Nat) ∧ BT w wr p v L2 ∧ RdT (OwnOf (.slice (some ⟨b8, off8, none⟩) l.length cr)) wr (.slice (some ⟨b8, off8, none⟩) l.length cr) l)
        case atStart => exact ⟨0, by omega, by omega, rfl, hB8, hR8⟩
        case round =>
          clear hB8 hR8
          obtain ⟨d, hg2, hdz, rfl, hB9, hR9⟩ := hrel
          obtain ⟨wy, hwy⟩ : ∃ wy, wr = wy := ⟨_, rfl⟩
          rw [hwy] at hB9 hR9 ⊢
          clear hwy
          have hg2' := Lib.hid hg2
          clear hg2
          by_cases hdlt : d < z
          · have hd5 : decide (((i + d : Nat) : Int) < (i : Int) + z) = true := decide_eq_true (by omega)
            have hd5' : decide (i + d < i + z) = true := decide_eq_true (by omega)
            have hdr := hdh'.out d hdlt
            obtain ⟨bb, ob, e, _, _, x0, x1, x2⟩ := hR9.at hil
            cases e
            rw [hk0] at x0
            obtain ⟨HE, hHE⟩ : ∃ HE, headE l ((i + d : Nat) : Int) = HE := ⟨_, rfl⟩
            obtain ⟨pg, hpg⟩ : ∃ pg, i + d = pg := ⟨_, rfl⟩
            rw [hpg] at hdr hHE hd5 hd5' ⊢
            have hw1 := hw1'.out
            have hwr := hwr'.out
            have hwr2 := hwr2'.out
            go_wp2_with fail
            clear hw1 hwr hwr2
            refine (head63_spec wy _ l _ hR9 (pg : Int)).mono ?_
            rintro e w9 ⟨rfl, hx9⟩
            rw [hdr, hHE]
            have y0 := hx9.cell x0 id
            clear x0 x1 x2
            have hB10 := hB9.extNo hx9
            have hR10 := hR9.extNo hx9
            clear hB9 hR9
            go_wp2_with fail
            refine (bring_spec w9 (i : Int) l.length (by omega) (by have := hbg.out.1; omega)).mono ?_
            rintro e w10 ⟨rfl, rfl⟩
            rw [hmod.out]
            go_wp2_with fail
            go_roundg (z - (d + 1))
            case measure => have := hg2'.out; omega
            case rel => exact ⟨d + 1, by omega, by omega, by rw [← hpg]; go_num, hB10, hR10⟩
          · have hd5 : decide (((i + d : Nat) : Int) < (i : Int) + z) = false := decide_eq_false (by omega)
            have hd5' : decide (i + d < i + z) = false := decide_eq_false (by omega)
            obtain ⟨pg, hpg⟩ : ∃ pg, i + d = pg := ⟨_, rfl⟩
            rw [hpg] at hd5 hd5' ⊢
            have hw1 := hw1'.out
            have hwr := hwr'.out
            have hwr2 := hwr2'.out
            go_wp2_with fail
            refine (works65_spec wy).mono ?_
            rintro e w9 ⟨rfl, hx9⟩
            go_wp2_with fail
            go_ret
            exact ⟨rfl, hB9.x.transNo hx9⟩
theorem buddyFull_walk (w : World) (pages : Int) (_ : (Lit.int .i64 pages).wf = true) (v : Value) (l : List T3) (hv : RdT (Iv 0 w.heap.size) w v l) (_ : l.length * 24 ≤ reachBytes ∧ ∀ x ∈ l, T3wf x) (order : Int) (_ : (Lit.int .i64 order).wf = true) :
    Calls Try.prog 18 #[.int .i64 pages, v, .int .i64 order] w fun e w' => e = .returned (.bool true) ∧ Below w.heap.size w w' :=
  (buddyFull_core w pages v l order _ hv).mono fun _ _ ⟨h1, h2⟩ => ⟨h1, h2.belowNo⟩
end Go.Proofs.Ytjkknjohmekeiaa
/- The document's near pages: has, Has, New, List, Drain, Take. No condition. -/
namespace Go.Proofs.Ytjkknjohmekeiaa
open Go.RowKit

abbrev RR (w : World) (nb lb base : Nat) (vs : List Value) (ll : List (List Int)) (cap : Int) : Prop := NearR w nb lb base vs ll cap 148

theorem rnear_has1 (w : World) (nb lb base : Nat) (vs : List Value) (ll : List (List Int)) (cap : Int) (h : RR w nb lb base vs ll cap) (c : Int) :
    Calls Try.prog 103 #[.pointer (some ⟨nb, 0, none⟩), .int .i64 c] w fun e w' => e = .returned (.bool (inR ll c)) ∧ w = w' := by
  have n0 := h.n.cell' (i := 0) rfl
  cases hi : inR ll c
  · obtain ⟨_, hc⟩ := listIn_out hi
    by_cases h0 : c < 0
    · clear hc hi
      go_enter Try.func103, Try.ntmps103
      go_wp2_with fail
      go_ret
      exact ⟨rfl, rfl⟩
    · have h1 : (ll.length : Int) ≤ c := by omega
      have h2 : 0 ≤ c := by omega
      have h5 : decide (c < (ll.length : Int)) = false := by simp; omega
      clear hc hi
      go_enter Try.func103, Try.ntmps103
      go_wp2_with fail
      go_ret
      exact ⟨rfl, rfl⟩
  · obtain ⟨_, h1, h2⟩ := listIn_in hi
    have h3 : 0 ≤ c := by omega
    have h4 : c < ll.length := by omega
    clear h1 h2 hi
    go_enter Try.func103, Try.ntmps103
    go_wp2_with fail
    go_ret
    exact ⟨rfl, rfl⟩

set_option maxRecDepth 100000 in
set_option maxHeartbeats 1600000 in
theorem rnear_has (w : World) (nb lb base : Nat) (vs : List Value) (ll : List (List Int)) (cap : Int) (h : RR w nb lb base vs ll cap) (x : Int) :
    Calls Try.prog 100 #[.pointer (some ⟨nb, 0, none⟩), .int .i64 x] w fun e w' => e = .returned (.bool (hasIn ll x)) ∧ w = w' := by
  have n0 := h.n.cell' (i := 0) rfl
  have hn := h.nums
  have hrd := h.rd
  have hno := any_none (l := ll) (p := fun l => l.any fun n => x == n)
  have hno' := Lib.hid hno; clear hno
  go_enter Try.func100, Try.ntmps100
  go_wp2_with fail
  go_loopg [5] ll.length (fun g i wr => ∃ k : Nat, k + g = ll.length ∧ i = .int .i64 k ∧ (∀ j, j < k → ((nth ll j).any fun n => x == n) = false) ∧ wr = w)
  case atStart => exact ⟨0, by omega, rfl, by omega, rfl⟩
  case round =>
    obtain ⟨k, hk, rfl, hall, rfl⟩ := hrel
    have hk' := Lib.hid hk; have hall' := Lib.hid hall
    have hkn : k ≤ ll.length := by omega
    clear hk hall
    by_cases hlt : k < ll.length
    · obtain ⟨b, off, ai, ci, e0, _, x0, q0, _, _⟩ := hrd.at hlt
      cases e0
      simp only [Nat.zero_add] at x0
      have hno2 := any_none (l := nth ll k) (p := fun n => x == n)
      have hno2' := Lib.hid hno2; clear hno2
      go_wp2_with fail
      go_loopg [6] (nth ll k).length (fun g i wr2 => ∃ m : Nat, m + g = (nth ll k).length ∧ i = .int .i64 m ∧ (∀ j, j < m → (x == nth (nth ll k) j) = false) ∧ wr2 = wr)
      case atStart => exact ⟨0, by omega, rfl, by omega, rfl⟩
      case round =>
        obtain ⟨m, hm, rfl, hall2, rfl⟩ := hrel
        have hm' := Lib.hid hm; have hall2' := Lib.hid hall2
        have hmn : m ≤ (nth ll k).length := by omega
        clear hm hall2
        by_cases hlt2 : m < (nth ll k).length
        · obtain ⟨b2, off2, rfl, _, _, x1⟩ := Rd.at1 q0 hlt2
          rw [List.getElem?_map, nth_some hlt2] at x1
          simp only [Option.map_some, int] at x1
          cases hc : (x == nth (nth ll k) m)
          · have hc' := Lib.hid hc
            have hc2 : (nth (nth ll k) m == x) = false := by rw [beq_eq_false_iff_ne] at hc ⊢; exact fun e => hc e.symm
            clear hc
            go_wp2_with fail
            go_roundg ((nth ll k).length - (m + 1))
            case measure => have := hm'.out; omega
            case rel =>
              refine ⟨m + 1, by omega, by go_num, fun j hj => ?_, rfl⟩
              by_cases hjm : j < m
              · exact hall2'.out j hjm
              · obtain rfl : j = m := by omega
                exact hc'.out
          · have hc2 : (nth (nth ll k) m == x) = true := by rw [beq_iff_eq] at hc ⊢; exact hc.symm
            have hr : Hid (hasIn ll x = true) := by
              show _ = _
              unfold hasIn
              exact any_of_nth (p := fun l => l.any fun n => x == n) hlt (any_of_nth (p := fun n => x == n) hlt2 hc)
            clear hc
            go_wp2_with fail
            go_ret
            exact ⟨by rw [hr.out]; rfl, rfl⟩
        · have hx : Hid (((nth ll k).any fun n => x == n) = false) := hno2'.out (fun j hj => hall2'.out j (by omega))
          go_wp2_with fail
          go_roundg (ll.length - (k + 1))
          case measure => have := hk'.out; omega
          case rel =>
            refine ⟨k + 1, by omega, by go_num, fun j hj => ?_, rfl⟩
            by_cases hjk : j < k
            · exact hall'.out j hjk
            · obtain rfl : j = k := by omega
              exact hx.out
    · have hr : Hid (hasIn ll x = false) := hno'.out (fun j hj => hall'.out j (by omega))
      go_wp2_with fail
      go_ret
      exact ⟨by rw [hr.out]; rfl, rfl⟩

set_option maxRecDepth 100000 in
set_option maxHeartbeats 800000 in
theorem rnear_new (w : World) (cpus cap : Int) :
    Calls Try.prog 46 #[.int .i64 cpus, .int .i64 cap] w fun e w' =>
      if (1 ≤ cpus ∧ cpus ≤ 8) ∧ 0 ≤ cap ∧ cap ≤ 64 then
        (∃ nb lb, e = .returned (.tuple #[.pointer (some ⟨nb, 0, none⟩), .int .i64 0]) ∧ RR w' nb lb w'.heap.size (List.replicate cpus.toNat (.slice none 0 0)) (List.replicate cpus.toNat []) cap ∧ w.heap.size ≤ nb ∧ w.heap.size ≤ lb) ∧ Ext No w w'
      else e = .returned (.tuple #[.pointer none, .int .i64 2]) ∧ w = w' := by
  by_cases h1 : cpus < 1
  · have hn : Hid (¬ ((1 ≤ cpus ∧ cpus ≤ 8) ∧ 0 ≤ cap ∧ cap ≤ 64)) := by show ¬ _; omega
    go_enter Try.func46, Try.ntmps46
    go_wp2_with fail
    go_ret2
    exact ⟨rfl, rfl⟩
  · by_cases h2 : 8 < cpus
    · have hn : Hid (¬ ((1 ≤ cpus ∧ cpus ≤ 8) ∧ 0 ≤ cap ∧ cap ≤ 64)) := by show ¬ _; omega
      go_enter Try.func46, Try.ntmps46
      go_wp2_with fail
      go_ret2
      exact ⟨rfl, rfl⟩
    · by_cases h3 : cap < 0
      · have hn : Hid (¬ ((1 ≤ cpus ∧ cpus ≤ 8) ∧ 0 ≤ cap ∧ cap ≤ 64)) := by show ¬ _; omega
        go_enter Try.func46, Try.ntmps46
        go_wp2_with fail
        go_ret2
        exact ⟨rfl, rfl⟩
      · by_cases h4 : 64 < cap
        · have hn : Hid (¬ ((1 ≤ cpus ∧ cpus ≤ 8) ∧ 0 ≤ cap ∧ cap ≤ 64)) := by show ¬ _; omega
          go_enter Try.func46, Try.ntmps46
          go_wp2_with fail
          go_ret2
          exact ⟨rfl, rfl⟩
        · have hy : Hid ((1 ≤ cpus ∧ cpus ≤ 8) ∧ 0 ≤ cap ∧ cap ≤ 64) := by show _ ∧ _; omega
          obtain ⟨n, rfl⟩ : ∃ n : Nat, cpus = (n : Int) := ⟨cpus.toNat, by omega⟩
          have hn8 : n ≤ 8 := by omega
          have hmk := mk_run mk_ll n (by omega) (by omega)
          rw [Nat.mul_one] at hmk
          go_enter Try.func46, Try.ntmps46
          go_wp2_with fail
          go_ret2
          have hB : Blk (w.alloc (.cells (Array.replicate n (.slice none 0 0)) 25)) w.heap.size (List.replicate n (.slice none 0 0)) 25 := by
            have := Blk.new' (w := w) (b := w.heap.size) (cs := List.replicate n (.slice none 0 0)) (T := 25) rfl
            simpa using this
          refine ⟨⟨w.heap.size + 1, rfl, w.heap.size, ⟨?_, hB.alloc _, by simp, fun i hi => ?_, fun i j x hi hj h => ?_, ?_⟩, by omega, by omega⟩, ((Ext.refl _ _).alloc _).alloc _⟩
          · simp only [List.length_replicate]
            exact Blk.new' (by simp)
          · simp only [List.length_replicate] at hi ⊢
            rw [nth_eq (by simpa using hi), nth_eq (by simpa using hi)]
            simp only [List.getElem_replicate]
            exact World.ownsRow_nil _ _ _ _
          · simp only [List.length_replicate] at hi h
            rw [nth_eq (by simpa using hi)] at h
            simp [OwnOf, Value.ownBlock] at h
          · simp; omega

theorem rnear_list (w : World) (nb lb base : Nat) (vs : List Value) (ll : List (List Int)) (cap : Int) (h : RR w nb lb base vs ll cap) (c : Int) (hlen : ∀ l ∈ ll, l.length ≤ 1024) :
    Calls Try.prog 49 #[.pointer (some ⟨nb, 0, none⟩), .int .i64 c] w fun e w' => ∃ r, e = .returned r ∧ w'.ownsRow w.heap.size 3 1 r (listIn ll c).length ((listIn ll c).map int) ∧ Ext No w w' := by
  have n0 := h.n.cell' (i := 0) rfl
  cases hi : inR ll c
  · have hl := Lib.hid (listIn_out hi).1
    have hi' := Lib.hid hi; clear hi
    go_enter Try.func49, Try.ntmps49
    go_wp2_with fail
    refine (rnear_has1 w nb lb base vs ll cap h c).mono ?_
    rintro e w1 ⟨rfl, rfl⟩
    rw [hi'.out]
    go_wp2_with fail
    go_ret
    rw [hl.out]
    exact ⟨_, rfl, World.ownsRow_nil _ _ _ _, Ext.refl _ _⟩
  · obtain ⟨e0, hk, ek⟩ := listIn_in hi
    have hl := Lib.hid e0
    obtain ⟨k, rfl⟩ : ∃ k : Nat, c = (k : Int) := ⟨c.toNat, by omega⟩
    simp only [Int.toNat_natCast] at hk
    have hl2 := hlen (nth ll k) (nth_mem hk)
    obtain ⟨av, cv, ev, hcv⟩ := ownsRow_val (h.rows k hk)
    have hrow := h.rows k hk
    rw [ev] at hrow
    have c0 := h.l.cell' (i := k) (v := nth vs k) (nth_some (by rw [h.len]; exact hk))
    rw [ev] at c0
    have hi' := Lib.hid hi
    clear hi e0 ek hlen ev
    go_enter Try.func49, Try.ntmps49
    go_wp2_with fail
    refine (rnear_has1 w nb lb base vs ll cap h k).mono ?_
    rintro e w1 ⟨rfl, rfl⟩
    rw [hi'.out]
    go_wp2_with fail
    refine (copyInts_spec _ _ (nth ll k) _ (Rd.of_own hrow) (by omega)).mono ?_
    rintro e w2 ⟨r, rfl, ⟨_, ho⟩, hx⟩
    go_wp2_with fail
    go_ret
    rw [hl.out]
    exact ⟨_, rfl, ho, hx⟩

theorem rnear_drain (w : World) (nb lb base : Nat) (vs : List Value) (ll : List (List Int)) (cap : Int) (h : RR w nb lb base vs ll cap) (c : Nat) (hc : c < ll.length) :
    Calls Try.prog 99 #[.pointer (some ⟨nb, 0, none⟩), .int .i64 c] w fun e w' => e = .returned (nth vs c) ∧ w' = w.setCell ⟨lb, c, none⟩ (.slice none 0 0) ∧
      RR w' nb lb base (vs.set c (.slice none 0 0)) (ll.set c []) cap ∧ w'.ownsRow base 3 1 (nth vs c) (nth ll c).length ((nth ll c).map int) := by
  have hrow := h.rows c hc
  have hi' : Hid (inR ll (c : Int) = true) := by show _ = _; unfold inR; simp [hc]
  have n0 := h.n.cell' (i := 0) rfl
  obtain ⟨av, cv, ev, hcv⟩ := ownsRow_val hrow
  have hput := Lib.hid (h.put c hc (.slice none 0 0) [] (World.ownsRow_nil _ _ _ _) (fun j x _ _ ho => by simp [OwnOf, Value.ownBlock] at ho))
  have hrow' := Lib.hid (ownsRow_ext hrow (Ext.set1 w lb c (.slice none 0 0)) (fun x hx (e : x = lb) => by have := (hrow.lt x hx).1; have := h.nums; omega))
  have c0 := h.l.cell' (i := c) (v := nth vs c) (nth_some (by rw [h.len]; exact hc))
  have f0 := h.l.frozen c
  rw [ev] at c0 hrow' ⊢
  clear hrow ev
  go_enter Try.func99, Try.ntmps99
  go_wp2_with fail
  refine (rnear_has1 w nb lb base vs ll cap h c).mono ?_
  rintro e w1 ⟨rfl, rfl⟩
  rw [hi'.out]
  go_wp2_with fail
  go_ret
  exact ⟨rfl, rfl, hput.out, hrow'.out⟩
theorem rnear_drain_out (w : World) (nb lb base : Nat) (vs : List Value) (ll : List (List Int)) (cap : Int) (h : RR w nb lb base vs ll cap) (c : Int) (hi : inR ll c = false) :
    Calls Try.prog 99 #[.pointer (some ⟨nb, 0, none⟩), .int .i64 c] w fun e w' => e = .returned (.slice none 0 0) ∧ w = w' := by
  have hi' := Lib.hid hi; clear hi
  go_enter Try.func99, Try.ntmps99
  go_wp2_with fail
  refine (rnear_has1 w nb lb base vs ll cap h c).mono ?_
  rintro e w1 ⟨rfl, rfl⟩
  rw [hi'.out]
  go_wp2_with fail
  go_ret
  exact ⟨rfl, rfl⟩

theorem rnear_take_none (w : World) (nb lb base : Nat) (vs : List Value) (ll : List (List Int)) (cap : Int) (h : RR w nb lb base vs ll cap) (c : Int) (hi : inR ll c = false) :
    Calls Try.prog 98 #[.pointer (some ⟨nb, 0, none⟩), .int .i64 c] w fun e w' => e = .returned (.tuple #[.int .i64 0, .bool false]) ∧ w = w' := by
  have hi' := Lib.hid hi; clear hi
  go_enter Try.func98, Try.ntmps98
  go_wp2_with fail
  refine (rnear_has1 w nb lb base vs ll cap h c).mono ?_
  rintro e w1 ⟨rfl, rfl⟩
  rw [hi'.out]
  go_wp2_with fail
  go_ret2
  exact ⟨rfl, rfl⟩
theorem rnear_take_empty (w : World) (nb lb base : Nat) (vs : List Value) (ll : List (List Int)) (cap : Int) (h : RR w nb lb base vs ll cap) (c : Nat) (hc : c < ll.length) (hz : nth ll c = []) :
    Calls Try.prog 98 #[.pointer (some ⟨nb, 0, none⟩), .int .i64 c] w fun e w' => e = .returned (.tuple #[.int .i64 0, .bool false]) ∧ w = w' := by
  have hi' : Hid (inR ll (c : Int) = true) := by show _ = _; unfold inR; simp [hc]
  have n0 := h.n.cell' (i := 0) rfl
  have hrow := h.rows c hc
  rw [hz] at hrow
  obtain ⟨av, cv, ev, hcv⟩ := ownsRow_val hrow
  have c0 := h.l.cell' (i := c) (v := nth vs c) (nth_some (by rw [h.len]; exact hc))
  rw [ev] at c0
  simp only [List.length_nil] at c0
  clear hrow ev hz
  go_enter Try.func98, Try.ntmps98
  go_wp2_with fail
  refine (rnear_has1 w nb lb base vs ll cap h c).mono ?_
  rintro e w1 ⟨rfl, rfl⟩
  rw [hi'.out]
  go_wp2_with fail
  go_ret2
  exact ⟨rfl, rfl⟩

set_option maxRecDepth 100000 in
set_option maxHeartbeats 1600000 in
theorem rnear_take_at (w : World) (nb lb base : Nat) (vs : List Value) (ll : List (List Int)) (cap : Int) (h : RR w nb lb base vs ll cap) (c : Nat) (hc : c < ll.length) (n : Nat) (hz : (nth ll c).length = n + 1) (hbig : n < 4611686018427387904) :
    Calls Try.prog 98 #[.pointer (some ⟨nb, 0, none⟩), .int .i64 c] w fun e w' => e = .returned (.tuple #[.int .i64 (nth (nth ll c) n), .bool true]) ∧
      Ext (One lb) w w' ∧ ∃ v', RR w' nb lb base (vs.set c v') (ll.set c ((nth ll c).take n)) cap ∧ ∀ x, OwnOf v' x → OwnOf (nth vs c) x := by
  have hi' : Hid (inR ll (c : Int) = true) := by show _ = _; unfold inR; simp [hc]
  have n0 := h.n.cell' (i := 0) rfl
  have hrow := h.rows c hc
  rw [hz] at hrow
  obtain ⟨b, cv, ev, hcv, hcv2, hob, hbw, hcell, hfr, _⟩ := own_at (k := n) hrow (by omega)
  have e1 : nth ((nth ll c).map int) n = int (nth (nth ll c) n) := nth_map int (by omega)
  rw [e1] at hcell
  simp only [int] at hcell
  rw [ev] at hrow
  have hsh := own_shrink hrow (m := n) (by omega) (by simp)
  have e2 : ((nth ll c).map int).take n = ((nth ll c).take n).map int := by rw [List.map_take]
  have e3 : ((nth ll c).take n).length = n := by simp; omega
  rw [e2] at hsh
  have hput := Lib.hid (fun (q : Nat) => (h.ext (Ext.refl No w |>.drewN q) (fun _ _ => id)).put c hc (.slice (some ⟨b, 0, none⟩) n cv) ((nth ll c).take n) (by rw [e3]; exact ownsRow_ext hsh ((Ext.refl No w).drewN q) (fun _ _ => id)) (fun j x hj hjc ho ho2 => hjc (h.apart j c x hj hc ho2 (by rw [ev]; exact ho))))
  have c0 := h.l.cell' (i := c) (v := nth vs c) (nth_some (by rw [h.len]; exact hc))
  have f0 := h.l.frozen c
  rw [ev] at c0 hob ⊢
  have hbl : b ≠ lb := fun e => by have := (hrow.lt b hob).1; have := h.nums; omega
  clear hrow ev hsh e1 e2 e3 hz
  go_enter Try.func98, Try.ntmps98
  go_wp2_with fail
  refine (rnear_has1 w nb lb base vs ll cap h c).mono ?_
  rintro e w1 ⟨rfl, rfl⟩
  rw [hi'.out]
  go_wp2_with fail
  have hwr : IntKind.i64.wrap (n : Int) = n := by rw [IntKind.wrap_i64]; omega
  have hle : (n : Int) ≤ cv := by omega
  have hge : (0 : Int) ≤ n := by omega
  refine anyZ_begin 11 (fun w' => w'.cell? ⟨nb, 0, none⟩ = some (.slice (some ⟨lb, 0, none⟩) ll.length ll.length)) (by kernel_rfl) ?_
  have hC : (fun w' : World => w'.cell? ⟨nb, 0, none⟩ = some (.slice (some ⟨lb, 0, none⟩) ll.length ll.length)) w.drew := n0
  refine anyZ_take 0 (v := ?_) rfl (by kernel_rfl) (by kernel_rfl) (by kernel_rfl) (by kernel_rfl) (fun _ _ _ h => h) hC (Or.inl ⟨by rfl, ?_⟩) ?_
  rotate_left
  · (intro wq hq; (try dsimp only at hq); go_simp; with_reducible rfl)
  simp only [Act.put, List.setIfInBounds_toArray, List.set_cons_zero, List.set_cons_succ]
  refine anyZ_take 1 (v := ?_) rfl (by kernel_rfl) (by kernel_rfl) (by kernel_rfl) (by kernel_rfl) (fun _ _ _ h => h) hC (Or.inl ⟨by rfl, ?_⟩) ?_
  rotate_left
  · (intro wq hq; (try dsimp only at hq); go_simp; with_reducible rfl)
  simp only [Act.put, List.setIfInBounds_toArray, List.set_cons_zero, List.set_cons_succ]
  refine anyZ_take 2 (v := ?_) rfl (by kernel_rfl) (by kernel_rfl) (by kernel_rfl) (by kernel_rfl) (fun _ _ _ h => h) hC (Or.inl ⟨by rfl, ?_⟩) ?_
  rotate_left
  · (intro wq hq; (try dsimp only at hq); go_simp; with_reducible rfl)
  simp only [Act.put, List.setIfInBounds_toArray, List.set_cons_zero, List.set_cons_succ]
  refine anyZ_take 3 (v := ?_) rfl (by kernel_rfl) (by kernel_rfl) (by kernel_rfl) (by kernel_rfl) (fun _ _ _ h => h) hC (Or.inl ⟨by rfl, ?_⟩) ?_
  rotate_left
  · (intro wq hq; (try dsimp only at hq); go_simp; with_reducible rfl)
  simp only [Act.put, List.setIfInBounds_toArray, List.set_cons_zero, List.set_cons_succ]
  refine anyZ_take 4 (v := ?_) rfl (by kernel_rfl) (by kernel_rfl) (by kernel_rfl) (by kernel_rfl) (fun _ _ _ h => h) hC (Or.inl ⟨by rfl, ?_⟩) ?_
  rotate_left
  · (intro wq hq; (try dsimp only at hq); go_simp; with_reducible rfl)
  simp only [Act.put, List.setIfInBounds_toArray, List.set_cons_zero, List.set_cons_succ]
  refine anyZ_take 5 (v := ?_) rfl (by kernel_rfl) (by kernel_rfl) (by kernel_rfl) (by kernel_rfl) (fun _ _ _ h => h) hC (Or.inl ⟨by rfl, ?_⟩) ?_
  rotate_left
  · (intro wq hq; (try dsimp only at hq); go_simp; with_reducible rfl)
  simp only [Act.put, List.setIfInBounds_toArray, List.set_cons_zero, List.set_cons_succ]
  refine anyZ_take 6 (v := ?_) rfl (by kernel_rfl) (by kernel_rfl) (by kernel_rfl) (by kernel_rfl) (fun _ _ _ h => h) hC (Or.inl ⟨by rfl, ?_⟩) ?_
  rotate_left
  · (intro wq hq; (try dsimp only at hq); go_simp; with_reducible rfl)
  simp only [Act.put, List.setIfInBounds_toArray, List.set_cons_zero, List.set_cons_succ]
  refine anyZ_take 7 (v := ?_) rfl (by kernel_rfl) (by kernel_rfl) (by kernel_rfl) (by kernel_rfl) (fun _ _ _ h => h) hC (Or.inl ⟨by rfl, ?_⟩) ?_
  rotate_left
  · (intro wq hq; (try dsimp only at hq); go_simp; with_reducible rfl)
  simp only [Act.put, List.setIfInBounds_toArray, List.set_cons_zero, List.set_cons_succ]
  refine anyZ_take 8 (v := ?_) rfl (by kernel_rfl) (by kernel_rfl) (by kernel_rfl) (by kernel_rfl) (fun _ _ _ h => h) hC (Or.inl ⟨by rfl, ?_⟩) ?_
  rotate_left
  · (intro wq hq; (try dsimp only at hq); go_simp; with_reducible rfl)
  simp only [Act.put, List.setIfInBounds_toArray, List.set_cons_zero, List.set_cons_succ]
  refine anyZ_take 9 (v := ?_) rfl (by kernel_rfl) (by kernel_rfl) (by kernel_rfl) (by kernel_rfl) (fun _ _ _ h => h) hC (Or.inl ⟨by rfl, ?_⟩) ?_
  rotate_left
  · (intro wq hq; (try dsimp only at hq); go_simp; with_reducible rfl)
  simp only [Act.put, List.setIfInBounds_toArray, List.set_cons_zero, List.set_cons_succ]
  refine anyZ_take 10 (v := ?_) rfl (by kernel_rfl) (by kernel_rfl) (by kernel_rfl) (by kernel_rfl) (fun _ _ _ h => h) hC (Or.inl ⟨by rfl, ?_⟩) ?_
  rotate_left
  · (intro wq hq; (try dsimp only at hq); go_simp; with_reducible rfl)
  simp only [Act.put, List.setIfInBounds_toArray, List.set_cons_zero, List.set_cons_succ]
  clear hwr
  refine anyZ_last rfl (by kernel_rfl) (fun K hK => ?_)
  go_simp
  refine hK _ _ ?_
  clear hK K
  try simp only [Act.put, List.setIfInBounds_toArray, List.set_cons_zero, List.set_cons_succ]
  refine anyZ_done (by kernel_rfl) ?_ _
  go_wp2_with fail
  go_ret2
  exact ⟨rfl, (Ext.refl _ _).drew.trans (Ext.set1 _ _ _ _) (fun _ _ h => h), _, hput.out 1, fun x hx => hx⟩
end Go.Proofs.Ytjkknjohmekeiaa
