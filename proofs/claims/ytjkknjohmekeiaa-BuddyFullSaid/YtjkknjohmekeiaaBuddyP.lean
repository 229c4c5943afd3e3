/- Buddies to which calls are done: the walk. No condition. -/
import Derived.Test.YtjkknjohmekeiaaBuddyO
namespace Go.Proofs.Ytjkknjohmekeiaa
open Go.RowKit

theorem modn (x n : Int) (h : 0 < n) : ∃ k : Nat, x % n = k ∧ (k : Int) < n := ⟨(x % n).toNat, by have := Int.emod_nonneg x (by omega : n ≠ 0); omega, by have := Int.emod_lt_of_pos x h; have := Int.emod_nonneg x (by omega : n ≠ 0); omega⟩

set_option maxRecDepth 100000 in
set_option maxHeartbeats 6400000 in
theorem played66_spec (w : World) (pages : Int) (vd : Value) (ds : List T3) (G : Nat → Prop) (hv : RdT G w vd ds) :
    Calls Try.prog 66 #[.int .i64 pages, vd] w fun e w' => ∃ p v l vo out, e = .returned (.tuple #[.pointer (some ⟨p, 0, none⟩), vo]) ∧ PS w w' p v l vo out ∧ (l.length : Int) = 1 + pages % 300 := by
  obtain ⟨ad, cd, rfl, hcd, hcd2⟩ := hv.val
  obtain ⟨m, hm, hm2⟩ := modn pages 300 (by decide)
  go_enter Try.func66, Try.ntmps66
  go_wp2_with fail
  refine (bring_spec w pages 300 (by decide) (by decide)).mono ?_
  rintro e w1 ⟨rfl, rfl⟩
  rw [hm]
  have hw1 : IntKind.i64.wrap (1 + (m : Int)) = ((1 + m : Nat) : Int) := by rw [IntKind.wrap_i64]; omega
  go_wp2_with fail
  refine (bt_new w w (Ext.refl _ _) (1 + m) (by omega) (by omega) rfl).mono ?_
  rintro e w1 ⟨p, v, rfl, hB, hvn, hpn, hx1⟩
  have hl0 : (full (1 + m)).length = 1 + m := full_len _
  have hP0 : PS w w1 p v (full (1 + m)) (.slice none 0 0) [] := ⟨hB, ⟨w1.heap.size, hx1.size, Nat.le_refl _, World.ownsRow_nil _ _ _ _⟩, fun x h => by simp [OwnOf, Value.ownBlock] at h, List.nodup_nil, fun x => by
    constructor
    · intro h; cases h
    · rintro ⟨h1, h2⟩; rw [hl0] at h1; exact absurd h2 (full_out h1), by simp⟩
  clear hB hx1
  go_wp2_with fail
  go_loopg [8, 9] 60 (fun g vo i wr => ∃ (k : Nat) (l : List T3) (out : List Nat), 60 - k ≤ g ∧ k ≤ ds.length ∧ k ≤ 60 ∧ i = .int .i64 k ∧ PS w wr p v l vo out ∧ out.length ≤ k ∧ l.length = 1 + m)
  case atStart => exact ⟨0, _, [], by omega, by omega, by omega, rfl, hP0, by simp, hl0⟩
  case round =>
    clear hP0 hl0
    obtain ⟨k, l, out, hg, hk1, hk2, rfl, hP, hol, hll⟩ := hrel
    obtain ⟨wz, hwz⟩ : ∃ wz, wr = wz := ⟨_, rfl⟩
    rw [hwz] at hP ⊢
    clear hwz
    have hg' := Lib.hid hg
    clear hg
    obtain ⟨ao, co, rfl, hco⟩ := hP.val
    by_cases hlt : k < ds.length ∧ k < 60
    · obtain ⟨hlt1, hlt2⟩ := hlt
      have hd1 : decide ((k : Int) < ds.length) = true := decide_eq_true (by omega)
      have hd2 : decide ((k : Int) < 60) = true := decide_eq_true (by omega)
      obtain ⟨b, off, rfl, hbl, _, x0, x1, x2⟩ := hv.at hlt1
      have y0 := hP.b.x.cell x0 id
      have y1 := hP.b.x.cell x1 id
      have y2 := hP.b.x.cell x2 id
      have hnv : ¬ OwnOf v b := fun ho => by have := hP.b.vn b ho; omega
      clear x0 x1 x2
      go_wp2_with fail
      refine (bring_spec wz (nth ds k).a 2 (by decide) (by decide)).mono ?_
      rintro e w2 ⟨rfl, rfl⟩
      obtain ⟨q, hq⟩ : ∃ q : Bool, ((nth ds k).a % 2 == 0) = q := ⟨_, rfl⟩
      by_cases hal : q = true ∨ out.length = 0
      · obtain ⟨o, ho, ho2⟩ := modn (nth ds k).b 6 (by decide)
        obtain ⟨c, hc, hc2⟩ := modn (nth ds k).c 9 (by decide)
        obtain ⟨base, hb1, hb2, hown⟩ := hP.o
        have hdis := hP.d
        have hPB := hP.b
        have hnd := hP.nd
        have hmem := hP.mem
        obtain ⟨X, hX⟩ : ∃ X, allocX l o = X := ⟨_, rfl⟩
        obtain ⟨E, hE⟩ : ∃ E, allocE l o = E := ⟨_, rfl⟩
        have hXE : Hid (match leastL l o with | some b => X = (b.i : Int) ∧ E = 0 | none => X = 0 ∧ E = 7) := by
          show (match leastL l o with | some b => X = (b.i : Int) ∧ E = 0 | none => X = 0 ∧ E = 7)
          unfold allocX at hX; unfold allocE at hE
          cases hls : leastL l o with
          | none => rw [hls] at hX hE; exact ⟨hX.symm, hE.symm⟩
          | some b => rw [hls] at hX hE; exact ⟨hX.symm, hE.symm⟩
        have hX' := Lib.hid hX
        have hE' := Lib.hid hE
        clear hX hE hP
        have hxd : Ext No wz wz.drew := (Ext.refl No wz).drew
        have hBd := hPB.extNo hxd
        have hr : Hid (q = true ∨ (q = false ∧ ((out.length : Int) == 0) = true)) := by
          show _ ∨ _
          cases q with
          | true => exact .inl rfl
          | false => exact .inr ⟨rfl, by rw [beq_iff_eq]; rcases hal with h | h; cases h; omega⟩
        clear hal
        rcases hr.out with hqt | ⟨hqt, h0⟩
        all_goals
          subst hqt
          go_wp2_with fail
          refine anyZ_begin 19 (fun w' => w'.cell? ⟨b, off + k * 3 + 1, none⟩ = some (.int .i64 (nth ds k).b) ∧ w'.cell? ⟨b, off + k * 3 + 2, none⟩ = some (.int .i64 (nth ds k).c)) (by kernel_rfl) ?_
          have hC : (fun w' : World => w'.cell? ⟨b, off + k * 3 + 1, none⟩ = some (.int .i64 (nth ds k).b) ∧ w'.cell? ⟨b, off + k * 3 + 2, none⟩ = some (.int .i64 (nth ds k).c)) wz.drew := ⟨y1, y2⟩
          refine anyZ_take 0 (v := ?_) rfl (by kernel_rfl) (by kernel_rfl) (by kernel_rfl) (by kernel_rfl) (fun _ _ _ h => h) hC (Or.inl ⟨by rfl, ?_⟩) ?_
          rotate_left
          · (intro wq hq; (try dsimp only at hq); go_simp; with_reducible rfl)
          simp only [Act.put, List.setIfInBounds_toArray, List.set_cons_zero, List.set_cons_succ]
          refine anyZ_take 1 (v := ?_) rfl (by kernel_rfl) (by kernel_rfl) (by kernel_rfl) (by kernel_rfl) (fun _ _ _ h => h) hC (Or.inl ⟨by rfl, ?_⟩) ?_
          rotate_left
          · (intro wq hq; (try dsimp only at hq); go_simp; with_reducible rfl)
          simp only [Act.put, List.setIfInBounds_toArray, List.set_cons_zero, List.set_cons_succ]
          refine anyZ_take 2 (v := ?_) rfl (by kernel_rfl) (by kernel_rfl) (by kernel_rfl) (by kernel_rfl) (fun _ _ _ h => h) hC (Or.inl ⟨by rfl, ?_⟩) ?_
          rotate_left
          · (intro wq hq; (try dsimp only at hq); go_simp; with_reducible rfl)
          simp only [Act.put, List.setIfInBounds_toArray, List.set_cons_zero, List.set_cons_succ]
          refine anyZ_take 3 (v := ?_) rfl (by kernel_rfl) (by kernel_rfl) (by kernel_rfl) (by kernel_rfl) (fun _ _ _ h => h) hC (Or.inl ⟨by rfl, ?_⟩) ?_
          rotate_left
          · (intro wq hq; (try dsimp only at hq); go_simp; with_reducible rfl)
          simp only [Act.put, List.setIfInBounds_toArray, List.set_cons_zero, List.set_cons_succ]
          refine anyZ_take 4 (v := ?_) rfl (by kernel_rfl) (by kernel_rfl) (by kernel_rfl) (by kernel_rfl) (fun _ _ _ h => h) hC (Or.inl ⟨by rfl, ?_⟩) ?_
          rotate_left
          · (intro wq hq; (try dsimp only at hq); go_simp; with_reducible rfl)
          simp only [Act.put, List.setIfInBounds_toArray, List.set_cons_zero, List.set_cons_succ]
          refine anyZ_take 5 (v := ?_) rfl (by kernel_rfl) (by kernel_rfl) (by kernel_rfl) (by kernel_rfl) (fun _ _ _ h => h) hC (Or.inl ⟨by rfl, ?_⟩) ?_
          rotate_left
          · (intro wq hq; (try dsimp only at hq); go_simp; with_reducible rfl)
          simp only [Act.put, List.setIfInBounds_toArray, List.set_cons_zero, List.set_cons_succ]
          refine anyZ_take 7 (v := ?_) rfl (by kernel_rfl) (by kernel_rfl) (by kernel_rfl) (by kernel_rfl) (fun _ _ _ h => h) hC (Or.inl ⟨by rfl, ?_⟩) ?_
          rotate_left
          · (intro wq hq; (try dsimp only at hq); go_simp; with_reducible rfl)
          simp only [Act.put, List.setIfInBounds_toArray, List.set_cons_zero, List.set_cons_succ]
          refine anyZ_take 8 (v := ?_) rfl (by kernel_rfl) (by kernel_rfl) (by kernel_rfl) (by kernel_rfl) (fun _ _ _ h => h) hC (Or.inl ⟨by rfl, ?_⟩) ?_
          rotate_left
          · (intro wq hq; (try dsimp only at hq); go_simp; with_reducible rfl)
          simp only [Act.put, List.setIfInBounds_toArray, List.set_cons_zero, List.set_cons_succ]
          refine anyZ_take 9 (v := ?_) rfl (by kernel_rfl) (by kernel_rfl) (by kernel_rfl) (by kernel_rfl) (fun _ _ _ h => h) hC (Or.inl ⟨by rfl, ?_⟩) ?_
          rotate_left
          · (intro wq hq; (try dsimp only at hq); go_simp; with_reducible rfl)
          simp only [Act.put, List.setIfInBounds_toArray, List.set_cons_zero, List.set_cons_succ]
          refine anyZ_take 10 (v := ?_) rfl (by kernel_rfl) (by kernel_rfl) (by kernel_rfl) (by kernel_rfl) (fun _ _ _ h => h) hC (Or.inl ⟨by rfl, ?_⟩) ?_
          rotate_left
          · (intro wq hq; (try dsimp only at hq); go_simp; with_reducible rfl)
          simp only [Act.put, List.setIfInBounds_toArray, List.set_cons_zero, List.set_cons_succ]
          refine anyZ_take 11 (v := ?_) rfl (by kernel_rfl) (by kernel_rfl) (by kernel_rfl) (by kernel_rfl) (fun _ _ _ h => h) hC (Or.inl ⟨by rfl, ?_⟩) ?_
          rotate_left
          · (intro wq hq; (try dsimp only at hq); go_simp; with_reducible rfl)
          simp only [Act.put, List.setIfInBounds_toArray, List.set_cons_zero, List.set_cons_succ]
          refine anyZ_step 6 rfl (by kernel_rfl) (fun K hK => ?_)
          go_simp
          refine (bring_spec _ (nth ds k).b 6 (by decide) (by decide)).mono ?_
          rintro e w2 ⟨rfl, rfl⟩
          rw [ho]
          refine hK _ _ hC ?_
          clear hK K
          try simp only [Act.put, List.setIfInBounds_toArray, List.set_cons_zero, List.set_cons_succ]
          refine anyZ_step 12 rfl (by kernel_rfl) (fun K hK => ?_)
          go_simp
          refine (bring_spec _ (nth ds k).c 9 (by decide) (by decide)).mono ?_
          rintro e w2 ⟨rfl, rfl⟩
          rw [hc]
          refine hK _ _ hC ?_
          clear hK K
          try simp only [Act.put, List.setIfInBounds_toArray, List.set_cons_zero, List.set_cons_succ]
          refine anyZ_step 13 rfl (by kernel_rfl) (fun K hK => ?_)
          go_simp
          refine (bt_alloc hBd o c (by omega) (by omega) hX'.out hE'.out rfl).mono ?_
          rintro e w3 ⟨rfl, hB3, hx3⟩
          have hC3 : (fun w' : World => w'.cell? ⟨b, off + k * 3 + 1, none⟩ = some (.int .i64 (nth ds k).b) ∧ w'.cell? ⟨b, off + k * 3 + 2, none⟩ = some (.int .i64 (nth ds k).c)) w3 := ⟨hx3.cell (w := wz.drew) y1 hnv, hx3.cell (w := wz.drew) y2 hnv⟩
          refine hK _ _ hC3 ?_
          clear hK K
          try simp only [Act.put, List.setIfInBounds_toArray, List.set_cons_zero, List.set_cons_succ]
          refine anyZ_take 14 (v := ?_) rfl (by kernel_rfl) (by kernel_rfl) (by kernel_rfl) (by kernel_rfl) (fun _ _ _ h => h) hC3 (Or.inl ⟨by rfl, ?_⟩) ?_
          rotate_left
          · (intro wq hq; (try dsimp only at hq); go_simp; with_reducible rfl)
          simp only [Act.put, List.setIfInBounds_toArray, List.set_cons_zero, List.set_cons_succ]
          refine anyZ_take 15 (v := ?_) rfl (by kernel_rfl) (by kernel_rfl) (by kernel_rfl) (by kernel_rfl) (fun _ _ _ h => h) hC3 (Or.inl ⟨by rfl, ?_⟩) ?_
          rotate_left
          · (intro wq hq; (try dsimp only at hq); go_simp; with_reducible rfl)
          simp only [Act.put, List.setIfInBounds_toArray, List.set_cons_zero, List.set_cons_succ]
          refine anyZ_take 16 (v := ?_) rfl (by kernel_rfl) (by kernel_rfl) (by kernel_rfl) (by kernel_rfl) (fun _ _ _ h => h) hC3 (Or.inl ⟨by rfl, ?_⟩) ?_
          rotate_left
          · (intro wq hq; (try dsimp only at hq); go_simp; with_reducible rfl)
          simp only [Act.put, List.setIfInBounds_toArray, List.set_cons_zero, List.set_cons_succ]
          refine anyZ_take 17 (v := ?_) rfl (by kernel_rfl) (by kernel_rfl) (by kernel_rfl) (by kernel_rfl) (fun _ _ _ h => h) hC3 (Or.inl ⟨by rfl, ?_⟩) ?_
          rotate_left
          · (intro wq hq; (try dsimp only at hq); go_simp; with_reducible rfl)
          simp only [Act.put, List.setIfInBounds_toArray, List.set_cons_zero, List.set_cons_succ]
          refine anyZ_take 18 (v := ?_) rfl (by kernel_rfl) (by kernel_rfl) (by kernel_rfl) (by kernel_rfl) (fun _ _ _ h => h) hC3 (Or.inl ⟨by rfl, ?_⟩) ?_
          rotate_left
          · (intro wq hq; (try dsimp only at hq); go_simp; with_reducible rfl)
          simp only [Act.put, List.setIfInBounds_toArray, List.set_cons_zero, List.set_cons_succ]
          refine anyZ_done (by kernel_rfl) ?_ _
          have hx3' : Ext (OwnOf v) wz w3 := (hxd.of_no).transSame hx3
          have hown3 := ownsRow_ext hown hx3' (fun x hx => (hdis x hx).2)
          have hb3 : base ≤ w3.heap.size := Nat.le_trans hb2 hx3'.size
          have hXE' := hXE.out
          cases hls : leastL l o with
          | none =>
            rw [hls] at hXE'
            obtain ⟨rfl, rfl⟩ := hXE'
            have hA := BI.none c hls
            have hP3 : PS w w3 p v l (.slice ao out.length co) out := ⟨by rw [hA] at hB3; exact hB3, ⟨base, hb1, hb3, hown3⟩, hdis, hnd, hmem, by omega⟩
            clear hls hA hB3 hx3 hx3' hown3 hown hC hC3 hBd hPB hXE hX' hE' y0 y1 y2
            go_wp2_with fail
            go_roundg (60 - (k + 1))
            case measure => have := hg'.out; omega
            case rel => exact ⟨k + 1, l, out, by omega, by omega, by omega, by go_num, hP3, by omega, hll⟩
          | some bk =>
            rw [hls] at hXE'
            obtain ⟨rfl, rfl⟩ := hXE'
            obtain ⟨q1, q2, q3⟩ := out_alloc hPB.i (by omega : c ≤ 8) hls hmem hnd
            clear hls hx3 hx3' hown hC hC3 hBd hXE hX' hE' y0 y1 y2
            go_wp2_with (at_builtin; refine stop_here ?_)
            refine Stop.mk ?_
            have hxa : Ext No w3 (w3.alloc (.cells #[.int .i64 bk.i] 3)) := (Ext.refl _ _).alloc _
            refine wpList_app (v := .slice ao out.length co) (m := 1) ty_int rfl _ _ rfl rfl (ownsRow_ext hown3 hxa (fun _ _ => id)) rfl (Rd.of_blk (n := 1) (Blk.new' rfl) rfl (by decide)) (by simp [Value.oneCell']) (by omega) (by unfold maxLen; omega) (by simp only [World.size_alloc]; omega) ?_
            intro v' w4 hown4 hx4 _ hfr4
            have hown4' : w4.ownsRow base 3 1 v' (out ++ [bk.i]).length ((toI (out ++ [bk.i])).map int) := by
              rw [toI_snoc, List.length_append]; exact hown4
            have hlt3 := hB3.lt
            have hB4 := (hB3.extNo hxa).ext hx4 (fun h => (hdis p h).1 rfl) (fun x hx h => (hdis x h).2 hx) (fun x h => by have := (hown3.lt x h).1; omega)
            have hP4 : PS w w4 p v (allocL l o c) v' (out ++ [bk.i]) := ⟨hB4, ⟨base, hb1, by have := hx4.size; simp only [World.size_alloc] at this; omega, hown4'⟩, fun x hx => by
              rcases hfr4 x hx with h | h
              · exact hdis x h
              · simp only [World.size_alloc] at h
                exact ⟨fun e => by have := hlt3.1; omega, fun ho => by have := hlt3.2 x ho; omega⟩, q1, q2, by simp; omega⟩
            clear hown4 hown4' hx4 hfr4 hB4 hB3 hown3 hxa
            go_wp2_with fail
            go_roundg (60 - (k + 1))
            case measure => have := hg'.out; omega
            case rel => exact ⟨k + 1, _, _, by omega, by omega, by omega, by go_num, hP4, by simp; omega, by rw [q3]; exact hll⟩
      · have hqf : q = false := by cases q; rfl; exact absurd (.inl rfl) hal
        have hne : out.length ≠ 0 := fun h => hal (.inr h)
        subst hqf
        clear hal
        have h0 : ((out.length : Int) == 0) = false := by rw [beq_eq_false_iff_ne]; omega
        obtain ⟨j, hj, hj2⟩ := modn (nth ds k).b out.length (by omega)
        have hjl : j < out.length := by omega
        obtain ⟨base, hb1, hb2, hown⟩ := hP.o
        have hdis := hP.d
        have hPB := hP.b
        have hmemj := (hP.mem _).1 (nth_mem hjl)
        obtain ⟨q1, q2, q3, q4⟩ := out_free hPB.i hjl hP.mem hP.nd
        obtain ⟨bo, co', e, _, _, hob, hbol, cj, _, _⟩ := own_at hown hjl
        cases e
        rw [toI_nth hjl] at cj
        clear hP
        go_wp2_with fail
        refine (bring_spec wz (nth ds k).b out.length (by omega) (by omega)).mono ?_
        rintro e w2 ⟨rfl, rfl⟩
        rw [hj]
        go_wp2_with fail
        refine (bt_free hPB (nth out j) hmemj.1 hmemj.2 rfl).mono ?_
        rintro e w3 ⟨rfl, hB3, hx3⟩
        have hown3 := ownsRow_ext hown hx3 (fun x hx => (hdis x hx).2)
        have hb3 : base ≤ w3.heap.size := Nat.le_trans hb2 hx3.size
        clear cj hown hx3 y0 y1 y2
        obtain ⟨bo2, co2, e, _, _, _, hbol3, cj, fj, hst⟩ := own_at hown3 hjl
        cases e
        obtain ⟨bo3, co3, e, _, _, _, _, cl, _, _⟩ := own_at (k := out.length - 1) hown3 (by omega)
        cases e
        rw [toI_nth hjl] at cj
        rw [toI_nth (by omega)] at cl
        have hset := hst (.int .i64 ((nth out (out.length - 1) : Nat) : Int))
        rw [toI_set] at hset
        have hstx : Ext (One bo) w3 (w3.setCell ⟨bo, j, none⟩ (.int .i64 ((nth out (out.length - 1) : Nat) : Int))) := Ext.set1 _ _ _ _
        have hB4 := hB3.ext hstx (fun e : p = bo => (hdis bo hob).1 e.symm) (fun x hx (e : x = bo) => (hdis bo hob).2 (e ▸ hx)) (fun x (e : x = bo) => by have := (hown3.lt bo hob).1; omega)
        have htk := own_take hset (m := out.length - 1) (by omega) (by omega)
        rw [toI_take] at htk
        have hP4 : PS w (w3.setCell ⟨bo, j, none⟩ (.int .i64 ((nth out (out.length - 1) : Nat) : Int))) p v (freeT l (nth out j)) (.slice (some ⟨bo, 0, none⟩) (out.length - 1) co) (rmv out j) :=
          ⟨hB4, ⟨base, hb1, by simpa using hb3, by rw [rmv_len hjl]; exact htk⟩, fun x hx => hdis x hx, q1, q2, by rw [rmv_len hjl]; omega⟩
        have hl1 : IntKind.i64.wrap ((out.length : Int) - 1) = ((out.length - 1 : Nat) : Int) := by rw [IntKind.wrap_i64]; omega
        have hrl := rmv_len hjl
        clear hst hset hstx hB4 htk hB3 hown3
        go_wp2_with fail
        trace_state
        go_roundg (60 - (k + 1))
        case measure => have := hg'.out; omega
        case rel => exact ⟨k + 1, _, rmv out j, by omega, by omega, by omega, by go_num, hP4, by omega, by rw [q3]; exact hll⟩
    · have hex : ¬ k < ds.length ∨ (k < ds.length ∧ ¬ k < 60) := by omega
      rcases hex with h1 | ⟨h1, h2⟩
      · have hd1 : decide ((k : Int) < ds.length) = false := decide_eq_false (by omega)
        go_wp2_with fail
        go_ret2
        exact ⟨p, v, l, _, out, rfl, hP, by omega⟩
      · have hd1 : decide ((k : Int) < ds.length) = true := decide_eq_true (by omega)
        have hd2 : decide ((k : Int) < 60) = false := decide_eq_false (by omega)
        go_wp2_with fail
        go_ret2
        exact ⟨p, v, l, _, out, rfl, hP, by omega⟩
end Go.Proofs.Ytjkknjohmekeiaa
