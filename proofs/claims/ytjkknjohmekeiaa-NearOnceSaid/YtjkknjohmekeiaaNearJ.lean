/- The law NearOnce, walked. No condition. -/
import Derived.Test.YtjkknjohmekeiaaNearP
import Derived.Test.YtjkknjohmekeiaaT3
import Derived.Deep.CutRange
import Derived.Deep.CutBlock
import Derived.Deep.DeepCutAuto
namespace Go.Proofs.Ytjkknjohmekeiaa
open Go.RowKit

theorem zero73 : Try.zeroCells73 = ((ind []).map int).toArray := by
  rw [ind_nil]
  simp only [List.map_replicate]
  kernel_rfl
theorem ind_cell {w : World} {b : Nat} {S : List Int} (h : Blk w b ((ind S).map int) 73) {k : Nat} (hk : k < 1024) (v : Int) (hv : (if (k : Int) ∈ S then (1 : Int) else 0) = v) : w.cell? ⟨b, k, none⟩ = some (.int .i64 v) := by
  subst hv
  apply h.cell'
  rw [List.getElem?_map, nth_some (by rw [ind_len]; exact hk), ind_get S hk]; rfl
theorem ind_store1 {w : World} {b : Nat} {S : List Int} (h : Blk w b ((ind S).map int) 73) (k : Nat) : Blk (w.setCell ⟨b, k, none⟩ (.int .i64 1)) b ((ind ((k : Int) :: S)).map int) 73 := by
  have := h.set k (int 1)
  rw [← List.map_set, ind_set1] at this
  exact this
theorem ind_store0 {w : World} {b : Nat} {S : List Int} {k : Nat} (h : Blk w b ((ind ((k : Int) :: S)).map int) 73) (hk : (k : Int) ∉ S) : Blk (w.setCell ⟨b, k, none⟩ (.int .i64 0)) b ((ind S).map int) 73 := by
  have := h.set k (int 0)
  rw [← List.map_set, ind_set0 S k hk] at this
  exact this

/-- Between two rounds. -/
def OnceS (w wr : World) (p ib : Nat) (n cap : Int) : Prop := ∃ F ll, NT w wr p F ll cap ∧ Blk wr ib ((ind ll.flatten).map int) 73 ∧ ll.flatten.Nodup ∧ (ll.length : Int) = n ∧ ¬ F ib ∧ w.heap.size ≤ ib
/-- Behind the call of a round: what is gone, in slot 14. -/
def OnceM (w wr : World) (p ib : Nat) (n cap : Int) (v : Value) : Prop := ∃ F ll A, NT w wr p F ll cap ∧ Blk wr ib ((ind (A ++ ll.flatten)).map int) 73 ∧ (A ++ ll.flatten).Nodup ∧ (∀ x ∈ A, 0 ≤ x ∧ x < 1024) ∧
  (ll.length : Int) = n ∧ (¬ F ib ∧ w.heap.size ≤ ib) ∧ Ans wr v A (fun b => ¬ F b ∧ b ≠ ib)
theorem OnceS.new {w w3 : World} {p : Nat} {F : Nat → Prop} {n : Nat} {cap : Int} (h : NT w w3 p F (List.replicate n []) cap) : OnceS w (w3.alloc (.cells Try.zeroCells73 73)) p w3.heap.size n cap := by
  have e : (List.replicate n ([] : List Int)).flatten = [] := by simp
  refine ⟨F, _, h.extNo ((Ext.refl _ _).alloc _), ?_, by rw [e]; exact List.nodup_nil, by simp, fun hf => by have := h.s.lt _ hf; omega, h.x.size⟩
  rw [zero73, e]
  exact Blk.new' rfl
theorem flat_range {ll : List (List Int)} {cap : Int} (h : NOk ll cap) : ∀ x ∈ ll.flatten, 0 ≤ x ∧ x < 1024 := by
  intro x hx
  obtain ⟨l, h1, h2⟩ := List.mem_flatten.1 hx
  exact h.nums l h1 x h2
theorem putL_len {ll : List (List Int)} {cap c page : Int} : (putL ll cap c page).length = ll.length := by unfold putL; split <;> simp
theorem dropL_len {ll : List (List Int)} {c : Int} : (dropL ll c).length = ll.length := by unfold dropL; split <;> simp
theorem drainL_len {ll : List (List Int)} {c : Int} : (drainL ll c).length = ll.length := by unfold drainL; split <;> simp

/-- A call that only moves pages out of the lists: what stands behind it. -/
theorem OnceM.of {w wr wn : World} {p ib : Nat} {n cap : Int} {F F' : Nat → Prop} {ll L : List (List Int)} {A : List Int} {v : Value} (hok : NOk ll cap) (hB : Blk wr ib ((ind ll.flatten).map int) 73) (hnd : ll.flatten.Nodup) (hl : (ll.length : Int) = n) (hib : ¬ F ib ∧ w.heap.size ≤ ib)
    (h2 : NT w wn p F' L cap) (hperm : (A ++ L.flatten).Perm ll.flatten) (hL : L.length = ll.length) (hx : Ext F wr wn) (hg : Grows wr F F') (ha : Ans wn v A (fun b => ¬ F' b ∧ b ≠ ib)) : OnceM w wn p ib n cap v := by
  refine ⟨F', L, A, h2, ?_, hperm.nodup_iff.2 hnd, fun x hx => flat_range hok x (hperm.mem_iff.1 (List.mem_append_left _ hx)), by rw [hL]; exact hl, ⟨fun hf => ?_, hib.2⟩, ha⟩
  · rw [ind_perm hperm]; exact hB.ext hx hib.1
  · rcases hg ib hf with h | h
    · exact hib.1 h
    · have := hB.lt; omega

set_option maxRecDepth 100000 in
set_option maxHeartbeats 3200000 in
theorem nearOnce_core (w : World) (cpus limit : Int) (v : Value) (l : List T3) (G : Nat → Prop) (hv : RdT G w v l) :
    Calls Try.prog 11 #[.int .i64 cpus, .int .i64 limit, v] w fun e w' => e = .returned (.bool true) ∧ Ext No w w' := by
  obtain ⟨a, cpa, rfl, _, _⟩ := hv.val
  have m0 := Int.emod_nonneg limit (show (65 : Int) ≠ 0 by decide)
  have m1 := Int.emod_lt_of_pos limit (show (0 : Int) < 65 by decide)
  obtain ⟨cap, hcap⟩ : ∃ cap, limit % 65 = cap := ⟨_, rfl⟩
  rw [hcap] at m0 m1
  have hcap' := Lib.hid hcap; clear hcap
  have n0 := Int.emod_nonneg cpus (show (8 : Int) ≠ 0 by decide)
  have n1 := Int.emod_lt_of_pos cpus (show (0 : Int) < 8 by decide)
  obtain ⟨cp, hcp⟩ : ∃ cp, cpus % 8 = cp := ⟨_, rfl⟩
  rw [hcp] at n0 n1
  have hcp' := Lib.hid hcp; clear hcp
  go_enter Try.func11, Try.ntmps11
  go_wp2_with fail
  refine (works50_spec _).mono ?_
  rintro e w2 ⟨rfl, x2⟩
  go_wp2_with fail
  refine (bring_spec _ _ _ (by decide) (by decide)).mono ?_
  rintro e w1 ⟨rfl, rfl⟩
  rw [hcp'.out]
  go_wp2_with fail
  refine (bring_spec _ _ _ (by decide) (by decide)).mono ?_
  rintro e w1 ⟨rfl, rfl⟩
  rw [hcap'.out]
  go_wp2_with fail
  refine (nt_new w _ x2 (1 + cp) cap (by omega) (by omega) (by omega) (by omega) _ rfl).mono ?_
  rintro e w3 ⟨p, F0, rfl, h0, _, _, _⟩
  have hS := OnceS.new h0
  rw [show (((1 + cp).toNat : Nat) : Int) = 1 + cp by omega] at hS
  clear h0
  go_wp2_with fail
  obtain ⟨ib, hib⟩ : ∃ ib, w3.heap.size = ib := ⟨_, rfl⟩
  rw [hib] at hS ⊢
  clear hib
  obtain ⟨w4, hw4⟩ : ∃ w4, w3.alloc (.cells Try.zeroCells73 73) = w4 := ⟨_, rfl⟩
  rw [hw4] at hS ⊢
  clear hw4
  go_loopg [10] l.length (fun g i wr => ∃ k : Nat, k + g = l.length ∧ i = .int .i64 k ∧ OnceS w wr p ib (1 + cp) cap)
  case atStart => exact ⟨0, by omega, rfl, hS⟩
  case round =>
    clear hS
    obtain ⟨k, hk, rfl, F, ll, hN, hB, hnd, hl, hF1, hF2⟩ := hrel
    have hk' := Lib.hid hk
    have hl' := Lib.hid hl
    have hkn : k ≤ l.length := by omega
    clear hk hl
    by_cases hlt : k < l.length
    · by_cases h150 : k < 150
      · obtain ⟨b, off, rfl, _, _, x0, x1, x2⟩ := (hv.extNo hN.x).at hlt
        go_wp2_with fail
        have hN := hN.extNo ((Ext.refl No wr).alloc (.cells #[.int .i64 (nth l k).a, .int .i64 (nth l k).b, .int .i64 (nth l k).c] 70))
        have hB := hB.alloc (.cells #[.int .i64 (nth l k).a, .int .i64 (nth l k).b, .int .i64 (nth l k).c] 70)
        refine (bring_spec _ _ _ (by omega) (by omega)).mono ?_
        rintro e w1 ⟨rfl, rfl⟩
        have c0 := Int.emod_nonneg (nth l k).b (show (1 + cp : Int) ≠ 0 by omega)
        have c1 := Int.emod_lt_of_pos (nth l k).b (show (0 : Int) < 1 + cp by omega)
        obtain ⟨c, hc⟩ : ∃ c, (nth l k).b % (1 + cp) = c := ⟨_, rfl⟩
        rw [hc] at c0 c1 ⊢
        clear hc
        go_wp2_with fail
        refine (bring_spec _ _ _ (by decide) (by decide)).mono ?_
        rintro e w1 ⟨rfl, rfl⟩
        have p0 := Int.emod_nonneg (nth l k).c (show (1024 : Int) ≠ 0 by omega)
        have p1 := Int.emod_lt_of_pos (nth l k).c (show (0 : Int) < 1024 by omega)
        obtain ⟨pg, hpg⟩ : ∃ pg : Nat, (nth l k).c % 1024 = (pg : Int) := ⟨((nth l k).c % 1024).toNat, by omega⟩
        rw [hpg] at p0 p1 ⊢
        clear hpg
        have p2 : pg < 1024 := by omega
        go_wp2_with fail
        refine (bring_spec _ _ _ (by decide) (by decide)).mono ?_
        rintro e w1 ⟨rfl, rfl⟩
        have k0 := Int.emod_nonneg (nth l k).a (show (3 : Int) ≠ 0 by omega)
        have k1 := Int.emod_lt_of_pos (nth l k).a (show (0 : Int) < 3 by omega)
        obtain ⟨kd, hkd⟩ : ∃ kd, (nth l k).a % 3 = kd := ⟨_, rfl⟩
        rw [hkd] at k0 k1 ⊢
        clear hkd
        have hkk : Hid (kd = 0 ∨ kd = 1 ∨ kd = 2) := by show _ ∨ _; omega
        obtain ⟨wA, hwA⟩ : ∃ wA, wr.alloc (.cells #[.int .i64 (nth l k).a, .int .i64 (nth l k).b, .int .i64 (nth l k).c] 70) = wA := ⟨_, rfl⟩
        rw [hwA] at hN hB ⊢
        clear hwA
        go_upto_block 2 with (fail)
        go_cut [14, 15, 16, 17, 18] from 42 to 178 (fun s14 s15 s16 s17 s18 wx => OnceM w wx p ib (1 + cp) cap s14)
        case first =>
          rcases hkk.out with rfl | rfl | rfl
          · have hpin : (0 : Int) ≤ pg ∧ (pg : Int) < 1024 := ⟨p0, p1⟩
            have hinr : inR ll c = true := by unfold inR; simp only [Bool.and_eq_true, decide_eq_true_eq]; exact ⟨c0, by rw [hl'.out]; exact c1⟩
            have hmem := hasIn_iff (ll := ll) (x := (pg : Int))
            cases hh : hasIn ll pg
            · have hE : putE ll c pg = 0 := putE_zero.2 ⟨hinr, p0, p1, hh⟩
              have hnm : (pg : Int) ∉ ll.flatten := hasIn_false.1 hh
              have hperm := put_perm (cap := cap) hE
              have hnd2 := hperm.nodup_iff.2 (List.nodup_cons.2 ⟨hnm, hnd⟩)
              have hrg : ∀ x ∈ putA ll cap c pg, 0 ≤ x ∧ x < 1024 := fun x hx => by
                have := hperm.mem_iff.1 (List.mem_append_left _ hx)
                rcases List.mem_cons.1 this with h | h
                · subst h; exact hpin
                · exact flat_range hN.ok x h
              have cel := ind_cell hB p2 0 (by rw [if_neg hnm])
              have fr := hB.frozen pg
              have hE' := Lib.hid hE
              have hl2 : Hid (((putL ll cap c pg).length : Int) = 1 + cp) := by show _ = _; rw [putL_len]; exact hl'.out
              clear hE hh hmem hnm hinr
              go_wp2_with fail
              refine (nt_put hN c pg hE'.out rfl rfl).mono ?_
              rintro e w5 ⟨r5, F5, rfl, h5, a5, x5, g5⟩
              have hB5 := hB.ext x5 hF1
              have cel5 := x5.cell cel hF1
              have fr5 := hB5.frozen pg
              have hF5 : ¬ F5 ib := fun hf => by
                rcases g5 ib hf with h | h
                · exact hF1 h
                · have := hB.lt; omega
              have hM : OnceM w (w5.setCell ⟨ib, pg, none⟩ (.int .i64 1)) p ib (1 + cp) cap r5 := by
                refine ⟨F5, _, _, h5.ext (Ext.set1 _ _ _ _) (fun x hx (e : x = ib) => hF5 (e ▸ hx)) (fun x (e : x = ib) => e ▸ hF2), ?_, hnd2, hrg, hl2.out, ⟨hF5, hF2⟩, (a5.mono (fun b hb => ⟨hb.1.1, fun e => by subst e; rcases hb.2 with h | h; exact hF1 h; have := hB.lt; omega⟩)).ext (Ext.set1 _ _ _ _) (fun x hx (e : x = ib) => hx.2 e)⟩
                rw [ind_perm hperm]
                exact ind_store1 hB5 pg
              clear hperm hnd2 hrg
              go_wp2_with fail
              go_meet
              exact hM
            · have hE : putE ll c pg ≠ 0 := fun h => by have := (putE_zero.1 h).2.2.2; rw [this] at hh; cases hh
              have hE2 : (putE ll c pg == 0) = false := by rw [beq_eq_false_iff_ne]; exact hE
              obtain ⟨q1, q2⟩ := put_perm0 (cap := cap) hE
              have hnm : (pg : Int) ∈ ll.flatten := hasIn_iff.1 hh
              have cel := ind_cell hB p2 1 (by rw [if_pos hnm])
              have q1' := Lib.hid q1
              have q2' := Lib.hid q2
              clear hh hmem hnm hinr hE q1 q2
              go_wp2_with fail
              refine (nt_put hN c pg rfl q2'.out q1'.out).mono ?_
              rintro e w5 ⟨r5, F5, rfl, h5, a5, x5, g5⟩
              have cel5 := x5.cell cel hF1
              have hM : OnceM w w5 p ib (1 + cp) cap r5 := OnceM.of (A := []) hN.ok hB hnd hl'.out ⟨hF1, hF2⟩ h5 (List.Perm.refl _) rfl x5 g5 (a5.mono (fun b hb => ⟨hb.1.1, fun e => by subst e; rcases hb.2 with h | h; exact hF1 h; have := hB.lt; omega⟩))
              go_wp2_with fail
              go_meet
              exact hM
          · go_wp2_with fail
            refine (nt_take hN c rfl rfl rfl).mono ?_
            rintro e w5 ⟨F5, rfl, h5, x5, g5⟩
            cases hb5 : takeB ll c
            · have hM : OnceM w w5 p ib (1 + cp) cap (.slice none 0 0) := OnceM.of (A := []) hN.ok hB hnd hl'.out ⟨hF1, hF2⟩ h5 (by have := take_perm (ll := ll) (c := c); rw [hb5] at this; exact this) dropL_len x5 g5 (Ans.nil _ _)
              go_wp2_with fail
              go_meet
              exact hM
            · have hperm := take_perm (ll := ll) (c := c)
              rw [hb5] at hperm
              clear hb5
              go_wp2_with (at_builtin; refine stop_here ?_)
              refine Stop.mk ?_
              have hxa : Ext No w5 (w5.alloc (.cells #[.int .i64 (takeX ll c)] 3)) := (Ext.refl _ _).alloc _
              refine wpList_app (v := .slice none 0 0) (m := 1) ty_int rfl _ _ rfl rfl (World.ownsRow_nil _ (w5.alloc (.cells #[.int .i64 (takeX ll c)] 3)).heap.size 3 1) rfl (Rd.of_blk (n := 1) (Blk.new' rfl) rfl (by decide)) (by simp [Value.oneCell']) (by omega) (by unfold maxLen; omega) (Nat.le_refl _) ?_
              intro v' w6 hown6 hx6 _ hfr6
              have hx6 : Ext No w5 w6 := hxa.trans hx6 (fun x _ h => by simp [OwnOf, Value.ownBlock] at h)
              have a6 := Ans.of_own (l := [takeX ll c]) hown6
              have hlt6 : ∀ b, OwnOf v' b → w5.heap.size < b := fun b hb => by have := (hown6.lt b hb).1; simp only [World.size_alloc] at this; omega
              have hM : OnceM w w6 p ib (1 + cp) cap v' := OnceM.of hN.ok hB hnd hl'.out ⟨hF1, hF2⟩ (h5.extNo hx6) hperm dropL_len (x5.transNo hx6) g5 (a6.mono (fun b hb => ⟨fun hf => by have := h5.s.lt b hf; have := hlt6 b hb; omega, fun e => by subst e; have := hB.lt; have := x5.size; have := hlt6 _ hb; omega⟩))
              clear hown6 hx6 hfr6 a6 hlt6 hperm
              go_wp2_with fail
              go_meet
              exact hM
          · go_wp2_with fail
            refine (nt_drain hN c rfl rfl).mono ?_
            rintro e w5 ⟨r5, F5, rfl, h5, a5, x5, g5⟩
            have hM : OnceM w w5 p ib (1 + cp) cap r5 := OnceM.of hN.ok hB hnd hl'.out ⟨hF1, hF2⟩ h5 drain_perm drainL_len x5 g5 (a5.mono (fun b hb => ⟨hb.1.1, fun e => by subst e; rcases hb.2 with h | h; exact hF1 h; have := hB.lt; omega⟩))
            go_wp2_with fail
            go_meet
            exact hM
        case rest =>
          clear hN hB hnd hF1 hF2 hl' hkk x0 x1 x2
          obtain ⟨F, ll, A, hN, hB, hnd, hrg, hl, ⟨hF1, hF2⟩, hA⟩ := hcut
          obtain ⟨aA, cA, rfl, _, _⟩ := hA.val
          have hl' := Lib.hid hl; clear hl
          have hnd' := Lib.hid hnd; clear hnd
          have hrg' := Lib.hid hrg; clear hrg
          go_wp2_with fail
          go_loopg [19] A.length (fun g i wz => ∃ k2 : Nat, k2 + g = A.length ∧ i = .int .i64 k2 ∧ NT w wz p F ll cap ∧ Blk wz ib ((ind (A.drop k2 ++ ll.flatten)).map int) 73 ∧ Ans wz (.slice aA A.length cA) A (fun b => ¬ F b ∧ b ≠ ib))
          case atStart => exact ⟨0, by omega, rfl, hN, hB, hA⟩
          case round =>
            clear hN hB hA
            obtain ⟨k2, hk2, rfl, hN, hB, hA⟩ := hrel
            have hk2' := Lib.hid hk2
            have hkn2 : k2 ≤ A.length := by omega
            clear hk2
            by_cases hlt2 : k2 < A.length
            · obtain ⟨y0, y1⟩ := hrg'.out _ (nth_mem hlt2)
              obtain ⟨y, hy⟩ : ∃ y : Nat, nth A k2 = (y : Int) := ⟨(nth A k2).toNat, by omega⟩
              rw [hy] at y0 y1
              have y2 : y < 1024 := by omega
              have hdr : A.drop k2 = (y : Int) :: A.drop (k2 + 1) := by rw [drop_nth hlt2, hy]
              rw [hdr, List.cons_append] at hB
              have cel := ind_cell hB y2 1 (by rw [if_pos (by simp)])
              have fr := hB.frozen y
              have hni : (y : Int) ∉ A.drop (k2 + 1) ++ ll.flatten := by
                have h1 := hnd'.out
                rw [← List.take_append_drop k2 A, hdr, List.append_assoc, List.cons_append] at h1
                have h2 := (List.nodup_append.1 h1).2.1
                exact (List.nodup_cons.1 h2).1
              have hB2 := Lib.hid (ind_store0 hB hni)
              obtain ⟨ba, offa, rfl, hba, _, xa⟩ := Rd.at1 hA.rd hlt2
              rw [List.getElem?_map, nth_some hlt2, hy] at xa
              simp only [Option.map_some, int] at xa
              have hset : Ext (One ib) wr (wr.setCell ⟨ib, y, none⟩ (.int .i64 0)) := Ext.set1 _ _ _ _
              have hN2 := hN.ext hset (fun x hx (e : x = ib) => hF1 (e ▸ hx)) (fun x (e : x = ib) => e ▸ hF2)
              have hA2 := hA.ext hset (fun x hx (e : x = ib) => hx.2 e)
              have hy' := Lib.hid hy
              have hdr' := Lib.hid hdr
              clear hy hdr hni hN hA
              go_wp2_with fail
              refine (bring_id _ _ _ (by decide) (by decide) y0 y1).mono ?_
              rintro e w1 ⟨rfl, rfl⟩
              go_wp2_with fail
              go_roundg (A.length - (k2 + 1))
              case measure => have := hk2'.out; omega
              case rel => exact ⟨k2 + 1, by omega, by go_num, hN2, hB2.out, hA2⟩
            · have hdr : A.drop k2 = [] := List.drop_of_length_le (by omega)
              rw [hdr, List.nil_append] at hB
              clear hdr
              have hndl : Hid ll.flatten.Nodup := (List.nodup_append.1 hnd'.out).2.1
              clear hA
              go_wp2_with fail
              go_loopg [21, 22] ll.length (fun g c3 i wz => ∃ k3 : Nat, k3 + g = ll.length ∧ i = .int .i64 k3 ∧ c3 = .int .i64 (flen (ll.take k3) : Nat) ∧ NT w wz p F ll cap ∧ Blk wz ib ((ind ll.flatten).map int) 73)
              case atStart => exact ⟨0, by omega, rfl, rfl, hN, hB⟩
              case round =>
                clear hN hB
                obtain ⟨k3, hk3, rfl, rfl, hN, hB⟩ := hrel
                have hk3' := Lib.hid hk3
                have hkn3 : k3 ≤ ll.length := by omega
                clear hk3
                have hfl := flat_le hN.ok k3
                have h8 := hN.ok.n8
                have hfl2 : (flen (ll.take k3) : Int) ≤ 512 := by omega
                have hfl' := Lib.hid hfl; clear hfl
                by_cases hlt3 : k3 < ll.length
                · have hlt3' : (k3 : Int) < 1 + cp := by rw [← hl'.out]; omega
                  have hin : listIn ll (k3 : Int) = nth ll k3 := by unfold listIn; rw [if_pos (by omega)]; rfl
                  have hle := hN.ok.lens _ (nth_mem hlt3)
                  have hnum := Lib.hid (hN.ok.nums _ (nth_mem hlt3))
                  have hin' := Lib.hid hin
                  clear hin
                  go_wp2_with fail
                  refine (nt_list hN k3 hin'.out).mono ?_
                  rintro e w6 ⟨r6, rfl, h6, a6, x6⟩
                  have hB6 := hB.extNo x6
                  have a6 := a6.mono (M := fun b => ¬ F b ∧ b ≠ ib) (fun b hb => ⟨hb.1.1, fun e => by subst e; have := hB.lt; have := hb.2; omega⟩)
                  obtain ⟨a7, c7, rfl, _, _⟩ := a6.val
                  clear hN hB x6
                  go_wp2_with fail
                  go_loopg [24] (nth ll k3).length (fun g i wz => ∃ k4 : Nat, k4 + g = (nth ll k3).length ∧ i = .int .i64 k4 ∧ NT w wz p F ll cap ∧ Blk wz ib ((ind ll.flatten).map int) 73 ∧ Ans wz (.slice a7 (nth ll k3).length c7) (nth ll k3) (fun b => ¬ F b ∧ b ≠ ib))
                  case atStart => exact ⟨0, by omega, rfl, h6, hB6, a6⟩
                  case round =>
                    clear h6 hB6 a6
                    obtain ⟨k4, hk4, rfl, hN, hB, hA⟩ := hrel
                    have hk4' := Lib.hid hk4
                    have hkn4 : k4 ≤ (nth ll k3).length := by omega
                    clear hk4
                    by_cases hlt4 : k4 < (nth ll k3).length
                    · obtain ⟨y0, y1⟩ := hnum.out _ (nth_mem hlt4)
                      obtain ⟨y, hy⟩ : ∃ y : Nat, nth (nth ll k3) k4 = (y : Int) := ⟨(nth (nth ll k3) k4).toNat, by omega⟩
                      rw [hy] at y0 y1
                      have y2 : y < 1024 := by omega
                      have hmem : (y : Int) ∈ ll.flatten := by rw [← hy]; exact List.mem_flatten.2 ⟨_, nth_mem hlt3, nth_mem hlt4⟩
                      have cel := ind_cell hB y2 1 (by rw [if_pos hmem])
                      obtain ⟨ba, offa, rfl, hba, _, xa⟩ := Rd.at1 hA.rd hlt4
                      rw [List.getElem?_map, nth_some hlt4, hy] at xa
                      simp only [Option.map_some, int] at xa
                      have hhas := Lib.hid (hasIn_iff.2 hmem)
                      clear hy hmem
                      go_wp2_with fail
                      refine (bring_id _ _ _ (by decide) (by decide) y0 y1).mono ?_
                      rintro e w1 ⟨rfl, rfl⟩
                      go_wp2_with fail
                      refine (nt_has hN y hhas.out).mono ?_
                      rintro e w8 ⟨rfl, h8', x8⟩
                      have hB8 := hB.extNo x8
                      have hA8 := hA.keepNo x8
                      clear hN hB hA x8 cel
                      go_wp2_with fail
                      go_roundg ((nth ll k3).length - (k4 + 1))
                      case measure => have := hk4'.out; omega
                      case rel => exact ⟨k4 + 1, by omega, by go_num, h8', hB8, hA8⟩
                    · have hsu := Lib.hid (flat_take_succ hlt3)
                      clear hA
                      go_wp2_with fail
                      go_roundg (ll.length - (k3 + 1))
                      case measure => have := hk3'.out; omega
                      case rel => exact ⟨k3 + 1, by omega, by go_num, by rw [hsu.out], hN, hB⟩
                · have hge3 : 1 + cp ≤ (k3 : Int) := by rw [← hl'.out]; omega
                  have hall : ll.take k3 = ll := List.take_of_length_le (by omega)
                  rw [hall] at hfl2 ⊢
                  clear hall hfl'
                  have hsum : Hid ((ind ll.flatten).sum = (flen ll : Nat)) := ind_sum _ hndl.out (flat_range hN.ok)
                  obtain ⟨wx, hwx⟩ : ∃ wx, wr = wx := ⟨_, rfl⟩
                  rw [hwx] at hN hB ⊢
                  clear hwx
                  go_wp2_with fail
                  go_loopg [25, 26] 1024 (fun g c5 i wz => ∃ k5 : Nat, k5 + g = 1024 ∧ i = .int .i64 k5 ∧ c5 = .int .i64 (((ind ll.flatten).take k5).sum) ∧ wz = wx)
                  case atStart => exact ⟨0, by omega, rfl, rfl, rfl⟩
                  case round =>
                    obtain ⟨k5, hk5, rfl, rfl, rfl⟩ := hrel
                    have hk5' := Lib.hid hk5
                    have hkn5 : k5 ≤ 1024 := by omega
                    clear hk5
                    obtain ⟨s0, s1⟩ := ind_take_bd ll.flatten k5
                    by_cases hlt5 : k5 < 1024
                    · have hsu := Lib.hid (sum_take_succ (l := ind ll.flatten) (k := k5) (by rw [ind_len]; exact hlt5))
                      have hv0 := ind_get ll.flatten hlt5
                      obtain ⟨v5, hv5⟩ : ∃ v5, nth (ind ll.flatten) k5 = v5 := ⟨_, rfl⟩
                      have cel := ind_cell hB hlt5 v5 (by rw [← hv5, hv0])
                      have v0 : 0 ≤ v5 ∧ v5 ≤ 1 := by rw [← hv5, hv0]; split <;> omega
                      obtain ⟨v0, v1⟩ := v0
                      have hv5' := Lib.hid hv5
                      clear hv0 hv5
                      go_wp2_with fail
                      go_roundg (1024 - (k5 + 1))
                      case measure => have := hk5'.out; omega
                      case rel => exact ⟨k5 + 1, by omega, by go_num, by rw [hsu.out, hv5'.out], rfl⟩
                    · have hall5 : (ind ll.flatten).take k5 = ind ll.flatten := List.take_of_length_le (by rw [ind_len]; omega)
                      rw [hall5, hsum.out]
                      clear hall5 s0 s1
                      have hS : OnceS w wr p ib (1 + cp) cap := ⟨F, ll, hN, hB, hndl.out, hl'.out, hF1, hF2⟩
                      clear hN hB
                      go_wp2_with fail
                      go_roundg (l.length - (k + 1))
                      case measure => have := hk'.out; omega
                      case rel => exact ⟨k + 1, by omega, by go_num, hS⟩
      · have X := hN.x
        go_wp2_with fail
        go_ret
        exact ⟨rfl, X⟩
    · have X := hN.x
      go_wp2_with fail
      go_ret
      exact ⟨rfl, X⟩

theorem nearOnce_walk (w : World) (cpus : Int) (_ : (Lit.int .i64 cpus).wf = true) (limit : Int) (_ : (Lit.int .i64 limit).wf = true) (v : Value) (l : List T3) (hv : RdT (Iv 0 w.heap.size) w v l) (_ : l.length * 24 ≤ reachBytes ∧ ∀ x ∈ l, T3wf x) :
    Calls Try.prog 11 #[.int .i64 cpus, .int .i64 limit, v] w fun e w' => e = .returned (.bool true) ∧ Below w.heap.size w w' :=
  (nearOnce_core w cpus limit v l _ hv).mono fun _ _ ⟨h1, h2⟩ => ⟨h1, h2.belowNo⟩
end Go.Proofs.Ytjkknjohmekeiaa
