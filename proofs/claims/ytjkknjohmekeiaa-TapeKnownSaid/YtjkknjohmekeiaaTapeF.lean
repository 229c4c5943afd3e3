/- The law TapeScripts: the walk. No condition but that the bytes fit into memory. -/
import Derived.Test.YtjkknjohmekeiaaTapeB
import Derived.Test.YtjkknjohmekeiaaTapeE
import GoSem.ClaimJoined
namespace Go.Proofs.Ytjkknjohmekeiaa
open Go.RowKit

theorem RdSo.open_ {F : Nat → Prop} {w : World} {v : Value} {s : Scr} (h : RdSo F w v s) :
    ∃ ac kc ap kp, v = .agg #[.int .i64 s.cpus, .int .i64 s.pages, .slice ac s.calls.length kc, .slice ap s.picks.length kp] ∧
      w.ownsRow 0 3 1 (.slice ap s.picks.length kp) s.picks.length (s.picks.map int) ∧ (∀ x, OwnOf (.slice ap s.picks.length kp) x → F x) := by
  obtain ⟨vc, vp, h1, h2, h3, h4, h5⟩ := h
  obtain ⟨ac, kc, rfl, _, _⟩ := h2.val
  obtain ⟨ap, kp, rfl, _, _⟩ := Rd.val h3
  exact ⟨ac, kc, ap, kp, h1, h4, h5⟩

set_option maxRecDepth 100000 in
set_option maxHeartbeats 1600000 in
theorem tapeScripts_walk (w : World) (v : Value) (l : List Nat) (hb : RdB (Iv 0 w.heap.size) w v l) (hlen0 : l.length ≤ reachBytes) :
    Calls Try.prog 3 #[v] w fun e w' => e = .returned (.bool true) ∧ Below w.heap.size w w' := by
  have hlen : l.length ≤ 140737488355328 := Nat.le_trans hlen0 (by decide)
  clear hlen0
  go_enter Try.func3, Try.ntmps3
  go_wp2_with fail
  refine (copyBytes_spec w v l _ hb hlen).mono ?_
  rintro e w1 ⟨vin, rfl, ⟨hin1, hown1⟩, hx1⟩
  have hin : RdB (Iv w.heap.size w1.heap.size) w1 vin l := hin1.mono (fun x hx _ => hown1.lt x hx)
  clear hown1 hin1
  have hb1 := hb.extNo hx1
  have hz1 := hx1.size
  go_wp2_with fail
  refine (script_spec w1 vin l (hin.mono (fun x hx _ => ⟨Nat.zero_le _, hx.2⟩))).mono ?_
  rintro e w2 ⟨rs, rfl, hs, hx2⟩
  obtain ⟨ac, kc, ap, kp, rfl, hpo, hpo2⟩ := hs.open_
  have hz2 := hx2.size
  have hin2 := hin.extNo hx2
  have hb2 := hb1.extNo hx2
  have hX2 := hx1.transNo hx2
  clear hx1 hx2 hin hb1
  go_wp2_with fail
  obtain ⟨A, hA⟩ : ∃ A, w2.heap.size = A := ⟨_, rfl⟩
  obtain ⟨W, hW⟩ : ∃ W, w2.alloc (.cells #[.int .i64 (script l).cpus, .int .i64 (script l).pages, .slice ac (script l).calls.length kc, .slice ap (script l).picks.length kp] 27) = W := ⟨_, rfl⟩
  have hXW : Ext No w2 W := by rw [← hW]; exact (Ext.refl _ _).alloc _
  have hAW : Blk W A [.int .i64 (script l).cpus, .int .i64 (script l).pages, .slice ac (script l).calls.length kc, .slice ap (script l).picks.length kp] 27 := by rw [← hW]; exact Blk.new' hA.symm
  rw [hW, hA]
  rw [hA] at hz2 hs hpo2
  have hs := hs.ext hXW (fun _ _ => id)
  have hpo := ownsRow_ext hpo hXW (fun _ _ => id)
  have hin2 := hin2.extNo hXW
  have hb2 := hb2.extNo hXW
  have hX2 := hX2.transNo hXW
  have hzW : A < W.heap.size := hAW.lt
  clear hW hA hXW
  have a0 := hAW.cell' (i := 0) rfl
  have a1 := hAW.cell' (i := 1) rfl
  have a2 := hAW.cell' (i := 2) rfl
  have a3 := hAW.cell' (i := 3) rfl
  refine anyZ_begin 99 (fun w' => w'.cell? ⟨A, 0, none⟩ = some (.int .i64 (script l).cpus) ∧ w'.cell? ⟨A, 1, none⟩ = some (.int .i64 (script l).pages) ∧ w'.cell? ⟨A, 2, none⟩ = some (.slice ac (script l).calls.length kc) ∧ w'.cell? ⟨A, 3, none⟩ = some (.slice ap (script l).picks.length kp)) (by kernel_rfl) ?_
  have hC : (fun w' : World => w'.cell? ⟨A, 0, none⟩ = some (.int .i64 (script l).cpus) ∧ w'.cell? ⟨A, 1, none⟩ = some (.int .i64 (script l).pages) ∧ w'.cell? ⟨A, 2, none⟩ = some (.slice ac (script l).calls.length kc) ∧ w'.cell? ⟨A, 3, none⟩ = some (.slice ap (script l).picks.length kp)) W.drew := ⟨a0, a1, a2, a3⟩
  have hCx : ∀ w', Ext No W w' → (fun w' : World => w'.cell? ⟨A, 0, none⟩ = some (.int .i64 (script l).cpus) ∧ w'.cell? ⟨A, 1, none⟩ = some (.int .i64 (script l).pages) ∧ w'.cell? ⟨A, 2, none⟩ = some (.slice ac (script l).calls.length kc) ∧ w'.cell? ⟨A, 3, none⟩ = some (.slice ap (script l).picks.length kp)) w' := fun w' hx => ⟨hx.cell a0 id, hx.cell a1 id, hx.cell a2 id, hx.cell a3 id⟩
  clear a0 a1 a2 a3
  refine anyZ_take 0 (v := ?_) rfl (by kernel_rfl) (by kernel_rfl) (by kernel_rfl) (by kernel_rfl) (fun _ _ _ h => h) hC (Or.inl ⟨by rfl, ?_⟩) ?_
  rotate_left
  · (intro wq hq; (try dsimp only at hq); go_simp; with_reducible rfl)
  simp only [Act.put, List.setIfInBounds_toArray, List.set_cons_zero, List.set_cons_succ]
  refine anyZ_take 1 (v := ?_) rfl (by kernel_rfl) (by kernel_rfl) (by kernel_rfl) (by kernel_rfl) (fun _ _ _ h => h) hC (Or.inl ⟨by rfl, ?_⟩) ?_
  rotate_left
  · (intro wq hq; (try dsimp only at hq); go_simp; with_reducible rfl)
  simp only [Act.put, List.setIfInBounds_toArray, List.set_cons_zero, List.set_cons_succ]
  refine anyZ_step 2 rfl (by kernel_rfl) (fun K hK => ?_)
  go_simp
  refine (script2_spec W.drew v l ((hb2.extNo (Ext.refl No W).drew).mono (fun x hx _ => ⟨hx.1, by have := hx.2; show x < W.heap.size; omega⟩))).mono ?_
  rintro e w3 ⟨r3, rfl, hs3, hx3⟩
  have hX3 : Ext No W w3 := (Ext.refl No W).drew.transNo hx3
  refine hK _ _ (hCx _ hX3) ?_
  clear hK K
  try simp only [Act.put, List.setIfInBounds_toArray, List.set_cons_zero, List.set_cons_succ]
  refine anyZ_step 3 rfl (by kernel_rfl) (fun K hK => ?_)
  go_simp
  refine (same26_spec w3 _ _ (script l) (script l) _ _ (hs.ext hX3 (fun _ _ => id)).rd hs3).mono ?_
  rintro e w4 ⟨rfl, hx4⟩
  have hX4 := hX3.transNo hx4
  rw [show decide (script l = script l) = true from by simp]
  refine hK _ _ (hCx _ hX4) ?_
  clear hK K
  try simp only [Act.put, List.setIfInBounds_toArray, List.set_cons_zero, List.set_cons_succ]
  refine anyZ_take 4 (v := ?_) rfl (by kernel_rfl) (by kernel_rfl) (by kernel_rfl) (by kernel_rfl) (fun _ _ _ h => h) (hCx _ hX4) (Or.inl ⟨by rfl, ?_⟩) ?_
  rotate_left
  · (intro wq hq; (try dsimp only at hq); go_simp; with_reducible rfl)
  simp only [Act.put, List.setIfInBounds_toArray, List.set_cons_zero, List.set_cons_succ]
  refine anyZ_take 5 (v := ?_) rfl (by kernel_rfl) (by kernel_rfl) (by kernel_rfl) (by kernel_rfl) (fun _ _ _ h => h) (hCx _ hX4) (Or.inl ⟨by rfl, ?_⟩) ?_
  rotate_left
  · (intro wq hq; (try dsimp only at hq); go_simp; with_reducible rfl)
  simp only [Act.put, List.setIfInBounds_toArray, List.set_cons_zero, List.set_cons_succ]
  refine anyZ_take 6 (v := ?_) rfl (by kernel_rfl) (by kernel_rfl) (by kernel_rfl) (by kernel_rfl) (fun _ _ _ h => h) (hCx _ hX4) (Or.inl ⟨by rfl, ?_⟩) ?_
  rotate_left
  · (intro wq hq; (try dsimp only at hq); go_simp; with_reducible rfl)
  simp only [Act.put, List.setIfInBounds_toArray, List.set_cons_zero, List.set_cons_succ]
  refine anyZ_take 7 (v := ?_) rfl (by kernel_rfl) (by kernel_rfl) (by kernel_rfl) (by kernel_rfl) (fun _ _ _ h => h) (hCx _ hX4) (Or.inl ⟨by rfl, ?_⟩) ?_
  rotate_left
  · (intro wq hq; (try dsimp only at hq); go_simp; with_reducible rfl)
  simp only [Act.put, List.setIfInBounds_toArray, List.set_cons_zero, List.set_cons_succ]
  refine anyZ_step 8 rfl (by kernel_rfl) (fun K hK => ?_)
  go_simp
  refine (eqBytes_spec w4 vin v l l _ _ (hin2.extNo hX4) (hb2.extNo hX4)).mono ?_
  rintro e w5 ⟨rfl, rfl⟩
  rw [show decide (l = l) = true from by simp]
  refine hK _ _ (hCx _ hX4) ?_
  clear hK K
  try simp only [Act.put, List.setIfInBounds_toArray, List.set_cons_zero, List.set_cons_succ]
  refine anyZ_take 9 (v := ?_) rfl (by kernel_rfl) (by kernel_rfl) (by kernel_rfl) (by kernel_rfl) (fun _ _ _ h => h) (hCx _ hX4) (Or.inl ⟨by rfl, ?_⟩) ?_
  rotate_left
  · (intro wq hq; (try dsimp only at hq); go_simp; with_reducible rfl)
  simp only [Act.put, List.setIfInBounds_toArray, List.set_cons_zero, List.set_cons_succ]
  refine anyZ_take 10 (v := ?_) rfl (by kernel_rfl) (by kernel_rfl) (by kernel_rfl) (by kernel_rfl) (fun _ _ _ h => h) (hCx _ hX4) (Or.inl ⟨by rfl, ?_⟩) ?_
  rotate_left
  · (intro wq hq; (try dsimp only at hq); go_simp; with_reducible rfl)
  simp only [Act.put, List.setIfInBounds_toArray, List.set_cons_zero, List.set_cons_succ]
  refine anyZ_done (by kernel_rfl) ?_ _
  clear hC hCx hx3 hs3 hx4 hX3
  have hs := hs.ext hX4 (fun _ _ => id)
  have hpo := ownsRow_ext hpo hX4 (fun _ _ => id)
  have hin2 := hin2.extNo hX4
  have hb2 := hb2.extNo hX4
  have hX2 := hX2.transNo hX4
  have hA4 := hAW.extNo hX4
  have hz4 := hX4.size
  clear hX4 hAW
  go_wp2_with fail
  have hnl : (script l).picks.length ≤ 4096 := by simp [script]; omega
  obtain ⟨n, hn⟩ : ∃ n, (script l).picks.length = n := ⟨_, rfl⟩
  rw [hn] at hpo hA4 hpo2 hnl
  have hpA : ∀ x, OwnOf (.slice ap n kp) x → w1.heap.size ≤ x ∧ x < A := fun x hx => hpo2 x hx
  clear hs hpo2
  go_loopg [5] n (fun g i wr => ∃ (k : Nat) (cs : List Value), k + g = n ∧ i = .int .i64 k ∧ Ext (OwnOf (.slice ap n kp)) w4 wr ∧ wr.ownsRow 0 3 1 (.slice ap n kp) n cs)
  case atStart => exact ⟨0, _, by omega, rfl, Ext.refl _ _, hpo⟩
  case round =>
    obtain ⟨k, cs, hk, rfl, hx, hro⟩ := hrel
    have hk' := Lib.hid hk
    have hkn : k ≤ n := by omega
    clear hk
    have hAr := hA4.ext hx (fun h => by have := hpA _ h; omega)
    have a3 := hAr.cell' (i := 3) rfl
    by_cases hlt : k < n
    · obtain ⟨b, cap, e1, hc1, hc2, hob, _, hcell, hfz, hset⟩ := own_at hro hlt
      cases e1
      go_wp2_with fail
      go_roundg (n - (k + 1))
      case measure => have := hk'.out; omega
      case rel => exact ⟨k + 1, _, by omega, by go_num, hx.trans (Ext.set1 _ _ _ _) (fun x _ (e : x = b) => by rw [e]; exact hob), hset _⟩
    · have hXr : Ext (fun x => w1.heap.size ≤ x) w4 wr := hx.mono (fun x _ h => (hpA x h).1)
      have hinr := hin2.ext hXr (fun x hx' (h : _ ≤ x) => by have := hx'.2; omega)
      have hbr := hb2.ext hXr (fun x hx' (h : _ ≤ x) => by have := hx'.2; omega)
      have hzr := hx.size
      have hXf := hX2.transNew hXr (fun x (h : _ ≤ x) => by omega)
      clear hx hAr
      go_wp2_with fail
      refine (script_rd wr vin l (hinr.mono (fun x hx _ => ⟨Nat.zero_le _, by have := hx.2; omega⟩))).mono ?_
      rintro e w6 ⟨r6, rfl, hs6, hx6⟩
      have hbr := hbr.extNo hx6
      have hz6 := hx6.size
      go_wp2_with fail
      refine (script2_spec w6 v l (hbr.mono (fun x hx _ => ⟨Nat.zero_le _, by have := hx.2; omega⟩))).mono ?_
      rintro e w7 ⟨r7, rfl, hs7, hx7⟩
      go_wp2_with fail
      refine (same26_spec w7 _ _ (script l) (script l) _ _ (hs6.ext hx7 (fun _ _ => id)) hs7).mono ?_
      rintro e w8 ⟨rfl, hx8⟩
      rw [show decide (script l = script l) = true from by simp]
      go_wp2_with fail
      refine (works29_spec w8).mono ?_
      rintro e w9 ⟨rfl, hx9⟩
      go_wp2_with fail
      go_ret
      exact ⟨rfl, ((((hXf.transNo hx6).transNo hx7).transNo hx8).transNo hx9).belowNo⟩
end Go.Proofs.Ytjkknjohmekeiaa
