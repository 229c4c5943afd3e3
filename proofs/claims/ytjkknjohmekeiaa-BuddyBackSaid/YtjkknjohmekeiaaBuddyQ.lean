/- BuddyBack. No condition. -/
import Derived.Test.YtjkknjohmekeiaaBuddyP
namespace Go.Proofs.Ytjkknjohmekeiaa
open Go.RowKit

theorem full_not {l : List T3} {out : List Nat} (hm : ∀ x, x ∈ out ↔ x < l.length ∧ (nth l x).a = 2) (h : 0 < out.length) : decide (l = full l.length) = false := by
  apply decide_eq_false
  intro e
  obtain ⟨h1, h2⟩ := (hm _).1 (nth_mem h)
  rw [e] at h2
  exact full_out h1 h2
theorem full_yes {l : List T3} (h : BI l) {out : List Nat} (hm : ∀ x, x ∈ out ↔ x < l.length ∧ (nth l x).a = 2) (h0 : out.length = 0) : l = full l.length := by
  refine none_out h.va h.np (fun x hx h2 => ?_)
  have := (hm x).2 ⟨hx, h2⟩
  rw [List.eq_nil_of_length_eq_zero h0] at this; cases this

set_option maxRecDepth 100000 in
set_option maxHeartbeats 6400000 in
theorem buddyBack_core (w : World) (pages : Int) (vd : Value) (ds : List T3) (turn : Int) (G : Nat → Prop) (hv : RdT G w vd ds) :
    Calls Try.prog 17 #[.int .i64 pages, vd, .int .i64 turn] w fun e w' => e = .returned (.bool true) ∧ Ext No w w' := by
  obtain ⟨m, hm, hm2⟩ := modn pages 300 (by decide)
  have hw1 : IntKind.i64.wrap (1 + (m : Int)) = ((1 + m : Nat) : Int) := by rw [IntKind.wrap_i64]; omega
  go_enter Try.func17, Try.ntmps17
  go_wp2_with fail
  refine (works65_spec w).mono ?_
  rintro e w1 ⟨rfl, hx1⟩
  have hv1 := hv.extNo hx1
  go_wp2_with fail
  refine (played66_spec w1 pages vd ds G hv1).mono ?_
  rintro e w2 ⟨p, v, l, vo, out, rfl, hP, hll⟩
  rw [hm] at hll
  have hll : l.length = 1 + m := by omega
  clear hv hv1
  go_wp2_with fail
  obtain ⟨N, hN⟩ : ∃ N, frS l = N := ⟨_, rfl⟩
  refine (bt_left hP.b hN).mono ?_
  rintro e w3 ⟨rfl, _, hx3⟩
  have hP3 := hP.extNo hx3
  have hol := hP3.len
  clear hP hx3
  go_wp2_with fail
  go_loopg [2, 8, 9] 60 (fun g s2 vo s9 wr => ∃ (t : Int) (l : List T3) (out : List Nat) (N : Int), out.length ≤ g ∧ s2 = .int .i64 t ∧ s9 = .int .i64 N ∧ frS l = N ∧ PS w1 wr p v l vo out ∧ l.length = 1 + m)
  case atStart => exact ⟨turn, l, out, N, hol, rfl, rfl, hN, hP3, hll⟩
  case round =>
    clear hP3 hol hN hll
    obtain ⟨t, l, out, N, hg, rfl, rfl, hN, hP, hll⟩ := hrel
    obtain ⟨wz, hwz⟩ : ∃ wz, wr = wz := ⟨_, rfl⟩
    rw [hwz] at hP ⊢
    clear hwz
    have hg' := Lib.hid hg
    clear hg
    obtain ⟨ao, co, rfl, hco⟩ := hP.val
    by_cases h0 : out.length = 0
    · have hfull := full_yes hP.b.i hP.mem h0
      have hNn : N = ((1 + m : Nat) : Int) := by rw [← hN, hfull, full_fr, hll]
      have hd : decide ((0 : Int) < out.length) = false := decide_eq_false (by omega)
      have hwh := bt_whole hP.b (decide_eq_true hfull)
      have heq : ((N : Int) == ((1 + m : Nat) : Int)) = true := by rw [hNn, beq_self_eq_true]
      rw [hNn]
      clear hfull
      go_wp2_with fail
      refine hwh.mono ?_
      rintro e w4 ⟨rfl, hB4, hx4⟩
      go_wp2_with fail
      refine (bring_spec w4 pages 300 (by decide) (by decide)).mono ?_
      rintro e w5 ⟨rfl, rfl⟩
      rw [hm]
      go_wp2_with fail
      go_ret
      exact ⟨rfl, hx1.transNo hB4.x⟩
    · have hd : decide ((0 : Int) < out.length) = true := decide_eq_true (by omega)
      have h60 := hP.len
      obtain ⟨j, hj, hj2⟩ := modn t out.length (by omega)
      have hjl : j < out.length := by omega
      obtain ⟨base, hb1, hb2, hown⟩ := hP.o
      have hdis := hP.d
      have hmemj := (hP.mem _).1 (nth_mem hjl)
      obtain ⟨q1, q2, q3, q4⟩ := out_free hP.b.i hjl hP.mem hP.nd
      rw [hN] at q4
      have hwh := bt_whole hP.b (full_not hP.mem (by omega))
      obtain ⟨bo, co', e, _, _, hob, hbol, cj, _, _⟩ := own_at hown hjl
      cases e
      rw [toI_nth hjl] at cj
      clear hP
      go_wp2_with fail
      refine (bring_spec wz t out.length (by omega) (by omega)).mono ?_
      rintro e w4 ⟨rfl, rfl⟩
      rw [hj]
      go_wp2_with fail
      refine hwh.mono ?_
      rintro e w4 ⟨rfl, hB4, hx4⟩
      have cj4 := hx4.cell cj id
      have hown4 := ownsRow_ext hown hx4 (fun _ _ => id)
      clear hwh cj hown
      go_wp2_with fail
      refine (bt_free hB4 (nth out j) hmemj.1 hmemj.2 rfl).mono ?_
      rintro e w5 ⟨rfl, hB5, hx5⟩
      have hown5 := ownsRow_ext hown4 hx5 (fun x hx => (hdis x hx).2)
      obtain ⟨N2, hN2⟩ : ∃ N2, frS (freeT l (nth out j)) = N2 := ⟨_, rfl⟩
      rw [hN2] at q4
      have hle : decide (N2 ≤ N) = false := decide_eq_false (by omega)
      clear hB4 cj4 hown4 hN
      go_wp2_with fail
      refine (bt_left hB5 hN2).mono ?_
      rintro e w6 ⟨rfl, hB6, hx6⟩
      have hown6 := ownsRow_ext hown5 hx6 (fun _ _ => id)
      clear hB5 hown5
      go_wp2_with fail
      refine (bt_left hB6 hN2).mono ?_
      rintro e w3 ⟨rfl, hB3, hx7⟩
      have hown3 := ownsRow_ext hown6 hx7 (fun _ _ => id)
      have hb3 : base ≤ w3.heap.size := by have := hx4.size; have := hx5.size; have := hx6.size; have := hx7.size; omega
      clear hB6 hown6 hx7 hx6 hx5 hx4
      obtain ⟨bo2, co2, e, _, _, _, hbol3, cj, fj, hst⟩ := own_at hown3 hjl
      cases e
      obtain ⟨bo3, co3, e, _, _, _, _, cl, _, _⟩ := own_at (k := out.length - 1) hown3 (by omega)
      cases e
      rw [toI_nth hjl] at cj
      rw [toI_nth (by omega)] at cl
      have hset := hst (.int .i64 ((nth out (out.length - 1) : Nat) : Int))
      rw [toI_set] at hset
      have hstx : Ext (One bo) w3 (w3.setCell ⟨bo, j, none⟩ (.int .i64 ((nth out (out.length - 1) : Nat) : Int))) := Ext.set1 _ _ _ _
      have hB4 := hB3.ext hstx (fun e : p = bo => (hdis bo hob).1 e.symm) (fun x hx (e : x = bo) => (hdis bo hob).2 (e ▸ hx)) (fun x (e : x = bo) => by have := (hown3.lt bo hob).1; omega)
      have htk := own_take hset (m := out.length - 1) (by omega) (by omega)
      rw [toI_take] at htk
      have hP4 : PS w1 (w3.setCell ⟨bo, j, none⟩ (.int .i64 ((nth out (out.length - 1) : Nat) : Int))) p v (freeT l (nth out j)) (.slice (some ⟨bo, 0, none⟩) (out.length - 1) co) (rmv out j) :=
        ⟨hB4, ⟨base, hb1, by simpa using hb3, by rw [rmv_len hjl]; exact htk⟩, fun x hx => hdis x hx, q1, q2, by rw [rmv_len hjl]; omega⟩
      have hl1 : IntKind.i64.wrap ((out.length : Int) - 1) = ((out.length - 1 : Nat) : Int) := by rw [IntKind.wrap_i64]; omega
      have hrl := rmv_len hjl
      clear hst hset hstx hB4 htk hB3 hown3
      go_wp2_with fail
      go_roundg (out.length - 1)
      case measure => have := hg'.out; omega
      case rel => exact ⟨_, _, rmv out j, N2, by omega, rfl, rfl, hN2, hP4, by rw [q3]; exact hll⟩
theorem buddyBack_walk (w : World) (pages : Int) (_ : (Lit.int .i64 pages).wf = true) (v : Value) (l : List T3) (hv : RdT (Iv 0 w.heap.size) w v l) (_ : l.length * 24 ≤ reachBytes ∧ ∀ x ∈ l, T3wf x) (turn : Int) (_ : (Lit.int .i64 turn).wf = true) :
    Calls Try.prog 17 #[.int .i64 pages, v, .int .i64 turn] w fun e w' => e = .returned (.bool true) ∧ Below w.heap.size w w' :=
  (buddyBack_core w pages v l turn _ hv).mono fun _ _ ⟨h1, h2⟩ => ⟨h1, h2.belowNo⟩
end Go.Proofs.Ytjkknjohmekeiaa
