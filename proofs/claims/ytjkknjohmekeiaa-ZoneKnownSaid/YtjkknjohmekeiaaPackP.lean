/- Texts of ours, one behind the other (ZoneI, ZoneJ, ZoneK, ZoneL, ZoneM, ZoneN): each says in its own first lines what it proves. No condition. -/
import Derived.Test.YtjkknjohmekeiaaPackO
/- A zone in memory: Free, Drain, New. No condition. -/
namespace Go.Proofs.Ytjkknjohmekeiaa
open Go.RowKit
section
variable {w0 w : World} {z p q m n : Nat} {v : Value} {F : Nat → Prop} {l : List T3} {ll : List (List Int)} {D : Dm}
theorem zfree_range (h : ZC w0 w z p q m v F l ll D n) (c page : Int) (hc : inR ll c = false) :
    Calls Try.prog 55 #[.pointer (some ⟨z, 0, none⟩), .int .i64 c, .int .i64 page] w fun e w' => e = .returned (.int .i64 9) ∧ w = w' := by
  go_enter Try.func55, Try.ntmps55
  go_wp2_with fail
  refine (h.askN hc).mono ?_
  rintro e w1 ⟨rfl, rfl⟩
  go_wp2_with fail
  go_ret
  exact ⟨rfl, rfl⟩
set_option maxRecDepth 100000 in
set_option maxHeartbeats 1600000 in
theorem zfree_bad (h : ZC w0 w z p q m v F l ll D n) (c page : Int) (hc : inR ll c = true) (hz : zout l ll page = false) :
    Calls Try.prog 55 #[.pointer (some ⟨z, 0, none⟩), .int .i64 c, .int .i64 page] w fun e w' => e = .returned (.int .i64 60) ∧ Ext No w w' := by
  have ht := tag42_spec h page
  have hex := zout_no h.b.i hz
  obtain ⟨B, hB⟩ : ∃ B, tB l ll page = B := ⟨_, rfl⟩
  obtain ⟨H, hH⟩ : ∃ H, tH l ll page = H := ⟨_, rfl⟩
  obtain ⟨O, hO⟩ : ∃ O, tO l ll page = O := ⟨_, rfl⟩
  obtain ⟨C, hC⟩ : ∃ C, tC D l ll page = C := ⟨_, rfl⟩
  rw [hB, hH, hO, hC] at ht
  rw [hB, hH] at hex
  clear hB hH hO hC hz
  rcases hex with rfl | ⟨rfl, hne⟩
  all_goals
    go_enter Try.func55, Try.ntmps55
    go_wp2_with fail
    refine (h.askA hc).mono ?_
    rintro e w1 ⟨rfl, rfl⟩
    go_wp2_with fail
    refine ht.mono ?_
    rintro e w2 ⟨rfl, hx2⟩
    go_wp2_with fail
    go_ret
    exact ⟨rfl, hx2.alloc _⟩
set_option maxRecDepth 100000 in
set_option maxHeartbeats 1600000 in
theorem zfree_big (h : ZC w0 w z p q m v F l ll D n) (c : Int) (i : Nat) (hc : inR ll c = true) (hz : zout l ll i = true) (hb : 0 < (nth l i).b) :
    Calls Try.prog 55 #[.pointer (some ⟨z, 0, none⟩), .int .i64 c, .int .i64 i] w fun e w' => e = .returned (.int .i64 0) ∧
      ∃ F', ZC w0 w' z p q m v F' (freeT l i) ll D n ∧ Mv w (foot z p m v F) w' (foot z p m v F') := by
  have ht := tag42_spec h i
  obtain ⟨j, e, hi, ha, hn, hB, hH, hO⟩ := zout_yes h.b.i hz
  obtain rfl : i = j := by omega
  obtain ⟨C, hC⟩ : ∃ C, tC D l ll i = C := ⟨_, rfl⟩
  rw [hB, hH, hO, hC] at ht
  clear hC hz hB hH hO e
  have hq : decide ((nth l i).b > 0) = true := decide_eq_true hb
  have hq' : decide (0 < (nth l i).b) = true := decide_eq_true hb
  obtain ⟨k, c0, _, he⟩ := out_is h.b.i.va hi ha
  have hlen := (h.b.i.free hi he).1.len
  have hlen' := Lib.hid hlen
  clear hlen he
  go_enter Try.func55, Try.ntmps55
  go_wp2_with fail
  refine (h.askA hc).mono ?_
  rintro e w1 ⟨rfl, rfl⟩
  go_wp2_with fail
  refine ht.mono ?_
  rintro e w2 ⟨rfl, hx2⟩
  have hx3 : Ext No w (w2.alloc (.cells #[.int .i64 i, .int .i64 (nth l i).b, .int .i64 C] 56)) := hx2.alloc _
  have h3 := h.extNo hx3
  have z0 := h3.c.cell' (i := 0) rfl
  clear hx2 ht h
  go_wp2_with fail
  refine (bt_free h3.b i hi ha rfl).mono ?_
  rintro e w4 ⟨rfl, hB4, hx4⟩
  obtain ⟨h5, hM5⟩ := h3.vmove hlen'.out hB4 hx4
  clear hB4 hx4
  go_wp2_with fail
  go_ret
  exact ⟨rfl, F, h5, (Mv.no hx3 _).trans hM5⟩
set_option maxRecDepth 100000 in
set_option maxHeartbeats 3200000 in
theorem zfree_one (h : ZC w0 w z p q m v F l ll D n) (c : Int) (i : Nat) (hc : inR ll c = true) (hz : zout l ll i = true) (hb : (nth l i).b = 0) :
    Calls Try.prog 55 #[.pointer (some ⟨z, 0, none⟩), .int .i64 c, .int .i64 i] w fun e w' => e = .returned (.int .i64 0) ∧
      ∃ F', ZC w0 w' z p q m v F' (backL l (putA ll 6 c i)) (putL ll 6 c i) (D.del (key i)) n ∧ Mv w (foot z p m v F) w' (foot z p m v F') := by
  have hmf : ∀ (fn : Fn) (first cap : Array Value) (w : World), (Instr.makeFunc fn first cap).run Try.prog w = .ok (.func fn first cap) w := fun _ _ _ _ => rfl
  have ht := tag42_spec h i
  obtain ⟨j, e, hi, ha, hn, hB, hH, hO⟩ := zout_yes h.b.i hz
  obtain rfl : i = j := by omega
  obtain ⟨C, hC⟩ : ∃ C, tC D l ll i = C := ⟨_, rfl⟩
  rw [hB, hH, hO, hb, hC] at ht
  clear hC hz hB hH hO e ha hb
  have hle := h.b.i.le
  have hpE : putE ll c i = 0 := putE_zero.2 ⟨hc, by omega, by omega, hn⟩
  have hkey := keyOf3 (x := (i : Int)) (by omega)
  have hPL : (putL ll 6 c i).length = ll.length := putLn
  obtain ⟨L, hL⟩ : ∃ L, putL ll 6 c i = L := ⟨_, rfl⟩
  obtain ⟨A, hA⟩ : ∃ A, putA ll 6 c i = A := ⟨_, rfl⟩
  rw [hL] at hPL
  rw [hL, hA]
  go_enter Try.func55, Try.ntmps55
  go_wp2_with fail
  refine (h.askA hc).mono ?_
  rintro e w1 ⟨rfl, rfl⟩
  go_wp2_with fail
  refine ht.mono ?_
  rintro e w2 ⟨rfl, hx2⟩
  have hx3 : Ext No w (w2.alloc (.cells #[.int .i64 i, .int .i64 0, .int .i64 C] 56)) := hx2.alloc _
  have h3 := h.extNo hx3
  have z4 := h3.c.cell' (i := 4) rfl
  have hown := h3.mp
  clear hx2 ht h hc hn
  go_wp2_with (first
    | (at_delete; refine wpList_delete_own _ rfl _ _ 84 3 rfl 3 law3 Try.underlying84 _ m n D rfl hown _ _ rfl hkey ?_; intro w9 hown9 hturn9; have z1 := (h3.mmove hown9 (turned_ext hturn9)).1.c.cell' (i := 1) rfl)
    | fail)
  obtain ⟨h9, hM9⟩ := h3.mmove hown9 (turned_ext hturn9)
  clear hown9 hturn9 hown z4 h3
  refine (nt_put h9.e c i hpE hL hA).mono ?_
  rintro e w10 ⟨r, F10, rfl, hN10, ha10, hx10, hg10⟩
  have hG : ∀ x, (OutF w0 F10 x ∧ (F x ∨ w9.heap.size ≤ x)) → ¬ OwnOf v x := fun x hx ho => by
    rcases hx.2 with hh | hh
    · exact h9.ap.vf x ho hh
    · have := h9.b.lt.2 x ho; omega
  obtain ⟨h10, hM10⟩ := h9.fmove hPL hN10 hx10 hg10
  have hM11 := ((Mv.no hx3 (foot z p m v F)).trans hM9).trans hM10
  have z0 := h10.c.cell' (i := 0) rfl
  have hend := each107_spec w0 w10 _ A _ ha10.rd h10.b hG
  obtain ⟨ar, cr, rfl, _, _⟩ := ha10.val
  clear hN10 ha10 hx10 hg10 hM9 hM10 h9 z1 hx3 hG
  go_wp2_with fail
  refine hend.mono ?_
  rintro e w12 ⟨⟨u, rfl⟩, hB12, hx12⟩
  obtain ⟨h12, hM12⟩ := h10.vmove (backL_bi A h10.b.i).2 hB12 hx12
  clear hB12 hx12 hend
  go_wp2_with fail
  go_ret
  exact ⟨rfl, F10, h12, hM11.trans hM12⟩
theorem zdrain_range (h : ZC w0 w z p q m v F l ll D n) (c : Int) (hc : inR ll c = false) :
    Calls Try.prog 56 #[.pointer (some ⟨z, 0, none⟩), .int .i64 c] w fun e w' => e = .returned (.int .i64 9) ∧ w = w' := by
  go_enter Try.func56, Try.ntmps56
  go_wp2_with fail
  refine (h.askN hc).mono ?_
  rintro e w1 ⟨rfl, rfl⟩
  go_wp2_with fail
  go_ret
  exact ⟨rfl, rfl⟩
set_option maxRecDepth 100000 in
set_option maxHeartbeats 3200000 in
theorem zdrain_yes (h : ZC w0 w z p q m v F l ll D n) (c : Int) (hc : inR ll c = true) :
    Calls Try.prog 56 #[.pointer (some ⟨z, 0, none⟩), .int .i64 c] w fun e w' => e = .returned (.int .i64 0) ∧
      ∃ F', ZC w0 w' z p q m v F' (backL l (listIn ll c)) (drainL ll c) D n ∧ Mv w (foot z p m v F) w' (foot z p m v F') := by
  have hmf : ∀ (fn : Fn) (first cap : Array Value) (w : World), (Instr.makeFunc fn first cap).run Try.prog w = .ok (.func fn first cap) w := fun _ _ _ _ => rfl
  have hDL : (drainL ll c).length = ll.length := drainLn
  obtain ⟨L, hL⟩ : ∃ L, drainL ll c = L := ⟨_, rfl⟩
  obtain ⟨A, hA⟩ : ∃ A, listIn ll c = A := ⟨_, rfl⟩
  rw [hL] at hDL
  rw [hL, hA]
  go_enter Try.func56, Try.ntmps56
  go_wp2_with fail
  refine (h.askA hc).mono ?_
  rintro e w1 ⟨rfl, rfl⟩
  have hxd : Ext No w w.drew := (Ext.refl No w).drew
  have h1 := h.extNo hxd
  have y0 := h.c.cell' (i := 0) rfl
  have y1 := h.c.cell' (i := 1) rfl
  go_wp2_with fail
  refine anyZ_begin 13 (fun w' => w'.cell? ⟨z, 0, none⟩ = some (.pointer (some ⟨p, 0, none⟩)) ∧ w'.cell? ⟨z, 1, none⟩ = some (.pointer (some ⟨q, 0, none⟩))) (by kernel_rfl) ?_
  have hC : (fun w' : World => w'.cell? ⟨z, 0, none⟩ = some (.pointer (some ⟨p, 0, none⟩)) ∧ w'.cell? ⟨z, 1, none⟩ = some (.pointer (some ⟨q, 0, none⟩))) w.drew := ⟨y0, y1⟩
  refine anyZ_take 0 (v := ?_) rfl (by kernel_rfl) (by kernel_rfl) (by kernel_rfl) (by kernel_rfl) (fun _ _ _ h => h) hC (Or.inl ⟨by rfl, ?_⟩) ?_
  rotate_left
  · (intro wq hq; (try dsimp only at hq); go_simp; with_reducible rfl)
  simp only [Act.put, List.setIfInBounds_toArray, List.set_cons_zero, List.set_cons_succ]
  refine anyZ_take 1 (v := ?_) rfl (by kernel_rfl) (by kernel_rfl) (by kernel_rfl) (by kernel_rfl) (fun _ _ _ h => h) hC (Or.inl ⟨by rfl, ?_⟩) ?_
  rotate_left
  · (intro wq hq; (try dsimp only at hq); go_simp; with_reducible rfl)
  simp only [Act.put, List.setIfInBounds_toArray, List.set_cons_zero, List.set_cons_succ]
  refine anyZ_take 2 (v := ?_) rfl (by kernel_rfl) (by kernel_rfl) (by kernel_rfl) (by kernel_rfl) (fun _ _ _ h => h) hC (Or.inl ⟨by rfl, ?_⟩) ?_
  rotate_left
  · (intro wq hq; (try dsimp only at hq); go_simp; with_reducible rfl)
  simp only [Act.put, List.setIfInBounds_toArray, List.set_cons_zero, List.set_cons_succ]
  refine anyZ_take 3 (v := ?_) rfl (by kernel_rfl) (by kernel_rfl) (by kernel_rfl) (by kernel_rfl) (fun _ _ _ h => h) hC (Or.inl ⟨by rfl, ?_⟩) ?_
  rotate_left
  · (intro wq hq; (try dsimp only at hq); go_simp; with_reducible rfl)
  simp only [Act.put, List.setIfInBounds_toArray, List.set_cons_zero, List.set_cons_succ]
  refine anyZ_take 4 (v := ?_) rfl (by kernel_rfl) (by kernel_rfl) (by kernel_rfl) (by kernel_rfl) (fun _ _ _ h => h) hC (Or.inl ⟨by rfl, ?_⟩) ?_
  rotate_left
  · (intro wq hq; (try dsimp only at hq); go_simp; with_reducible rfl)
  simp only [Act.put, List.setIfInBounds_toArray, List.set_cons_zero, List.set_cons_succ]
  refine anyZ_take 5 (v := ?_) rfl (by kernel_rfl) (by kernel_rfl) (by kernel_rfl) (by kernel_rfl) (fun _ _ _ h => h) hC (Or.inl ⟨by rfl, ?_⟩) ?_
  rotate_left
  · (intro wq hq; (try dsimp only at hq); go_simp; with_reducible rfl)
  simp only [Act.put, List.setIfInBounds_toArray, List.set_cons_zero, List.set_cons_succ]
  refine anyZ_take 7 (v := ?_) rfl (by kernel_rfl) (by kernel_rfl) (by kernel_rfl) (by kernel_rfl) (fun _ _ _ h => h) hC (Or.inl ⟨by rfl, ?_⟩) ?_
  rotate_left
  · (intro wq hq; (try dsimp only at hq); go_simp; with_reducible rfl)
  simp only [Act.put, List.setIfInBounds_toArray, List.set_cons_zero, List.set_cons_succ]
  refine anyZ_take 8 (v := ?_) rfl (by kernel_rfl) (by kernel_rfl) (by kernel_rfl) (by kernel_rfl) (fun _ _ _ h => h) hC (Or.inl ⟨by rfl, ?_⟩) ?_
  rotate_left
  · (intro wq hq; (try dsimp only at hq); go_simp; with_reducible rfl)
  simp only [Act.put, List.setIfInBounds_toArray, List.set_cons_zero, List.set_cons_succ]
  refine anyZ_take 9 (v := ?_) rfl (by kernel_rfl) (by kernel_rfl) (by kernel_rfl) (by kernel_rfl) (fun _ _ _ h => h) hC (Or.inl ⟨by rfl, ?_⟩) ?_
  rotate_left
  · (intro wq hq; (try dsimp only at hq); go_simp; with_reducible rfl)
  simp only [Act.put, List.setIfInBounds_toArray, List.set_cons_zero, List.set_cons_succ]
  refine anyZ_take 10 (v := ?_) rfl (by kernel_rfl) (by kernel_rfl) (by kernel_rfl) (by kernel_rfl) (fun _ _ _ h => h) hC (Or.inl ⟨by rfl, ?_⟩) ?_
  rotate_left
  · (intro wq hq; (try dsimp only at hq); go_simp; with_reducible rfl)
  simp only [Act.put, List.setIfInBounds_toArray, List.set_cons_zero, List.set_cons_succ]
  refine anyZ_take 11 (v := ?_) rfl (by kernel_rfl) (by kernel_rfl) (by kernel_rfl) (by kernel_rfl) (fun _ _ _ h => h) hC (Or.inl ⟨by rfl, ?_⟩) ?_
  rotate_left
  · (intro wq hq; (try dsimp only at hq); go_simp; with_reducible rfl)
  simp only [Act.put, List.setIfInBounds_toArray, List.set_cons_zero, List.set_cons_succ]
  refine anyZ_step 6 rfl (by kernel_rfl) (fun K hK => ?_)
  go_simp
  refine (nt_drain h1.e c hA hL).mono ?_
  rintro e w10 ⟨r, F10, rfl, hN10, ha10, hx10, hg10⟩
  have hG : ∀ x, (OutF w0 F10 x ∧ (F x ∨ w.drew.heap.size ≤ x)) → ¬ OwnOf v x := fun x hx ho => by
    rcases hx.2 with hh | hh
    · exact h1.ap.vf x ho hh
    · have := h1.b.lt.2 x ho; omega
  obtain ⟨h10, hM10⟩ := h1.fmove hDL hN10 hx10 hg10
  have hM11 := (Mv.no hxd (foot z p m v F)).trans hM10
  have hC2 : (fun w' : World => w'.cell? ⟨z, 0, none⟩ = some (.pointer (some ⟨p, 0, none⟩)) ∧ w'.cell? ⟨z, 1, none⟩ = some (.pointer (some ⟨q, 0, none⟩))) w10 := ⟨h10.c.cell' (i := 0) rfl, h10.c.cell' (i := 1) rfl⟩
  have hend := each107_spec w0 w10 _ A _ ha10.rd h10.b hG
  obtain ⟨ar, cr, rfl, _, _⟩ := ha10.val
  refine hK _ _ hC2 ?_
  clear hK K
  try simp only [Act.put, List.setIfInBounds_toArray, List.set_cons_zero, List.set_cons_succ]
  refine anyZ_step 12 rfl (by kernel_rfl) (fun K hK => ?_)
  go_simp
  refine hend.mono ?_
  rintro e w12 ⟨⟨u, rfl⟩, hB12, hx12⟩
  obtain ⟨h12, hM12⟩ := h10.vmove (backL_bi A h10.b.i).2 hB12 hx12
  have hC3 : (fun w' : World => w'.cell? ⟨z, 0, none⟩ = some (.pointer (some ⟨p, 0, none⟩)) ∧ w'.cell? ⟨z, 1, none⟩ = some (.pointer (some ⟨q, 0, none⟩))) w12 := ⟨h12.c.cell' (i := 0) rfl, h12.c.cell' (i := 1) rfl⟩
  refine hK _ _ hC3 ?_
  clear hK K
  try simp only [Act.put, List.setIfInBounds_toArray, List.set_cons_zero, List.set_cons_succ]
  refine anyZ_done (by kernel_rfl) ?_ _
  go_wp2_with fail
  go_ret
  exact ⟨rfl, F10, h12, hM11.trans hM12⟩
end

theorem zi_new {n : Nat} (h1 : 1 ≤ n) (h2 : n ≤ 1024) : ZI (full n) [] (DataW.map [] : Dm) :=
  ⟨bi_full h1 h2, List.nodup_nil, fun x hx => (by cases hx), Maps.isMap_empty, fun k hk => (by simp [Maps.has] at hk)⟩
set_option maxRecDepth 100000 in
set_option maxHeartbeats 3200000 in
theorem znew_spec (w0 w : World) (hx : Ext No w0 w) (c n : Nat) (hc1 : 1 ≤ c) (hc8 : c ≤ 8) (h1 : 1 ≤ n) (h2 : n ≤ 1024) :
    Calls Try.prog 58 #[.int .i64 c, .int .i64 n] w fun e w' => ∃ z p q m v F, e = .returned (.tuple #[.pointer (some ⟨z, 0, none⟩), .int .i64 0]) ∧ ZC w0 w' z p q m v F (full n) (List.replicate c []) (.map []) 0 ∧ (∀ x, foot z p m v F x → w.heap.size ≤ x) ∧ Ext No w w' := by
  have hmm := @run_makeMap Try.prog
  go_enter Try.func58, Try.ntmps58
  go_wp2_with fail
  refine (nt_new w0 w hx (c : Int) 6 (by omega) (by omega) (by decide) (by decide) (List.replicate c []) (by rw [Int.toNat_natCast])).mono ?_
  rintro e w1 ⟨q, F, rfl, hN, hF1, hq1, hx1⟩
  go_wp2_with fail
  refine (bt_new w0 w1 (hx.transNo hx1) n h1 h2 rfl).mono ?_
  rintro e w2 ⟨p, v, rfl, hB, hv2, hp2, hx2⟩
  obtain ⟨M, hM⟩ : ∃ M, w2.heap.size = M := ⟨_, rfl⟩
  obtain ⟨W, hW⟩ : ∃ W, (w2.alloc (.map #[] 0)).alloc (.cells #[.pointer (some ⟨p, 0, none⟩), .pointer (some ⟨q, 0, none⟩), .int .i64 c, .int .i64 n, .map (some M)] 86) = W := ⟨_, rfl⟩
  have hxW : Ext No w2 W := by rw [← hW]; exact ((Ext.refl No w2).alloc _).alloc _
  have hmW : W.ownsMap Try.prog 3 (plainElem Try.prog 3) M 0 (DataW.map [] : Dm) := by
    rw [← hW, ← hM]; exact (World.ownsMap_made w2 Try.prog 3 (plainElem Try.prog 3)).alloc _
  have hcW : Blk W (M + 1) [.pointer (some ⟨p, 0, none⟩), .pointer (some ⟨q, 0, none⟩), .int .i64 c, .int .i64 n, .map (some M)] 86 := by
    rw [← hW]; exact Blk.new' (by simp only [World.size_alloc]; omega)
  have hNW := (hN.extNo hx2).extNo hxW
  have hBW := hB.extNo hxW
  have hs1 := hx1.size
  have hs2 := hx2.size
  have hs0 := hx.size
  have hblt := hB.lt
  have hNlt := hN.s.lt
  have hlc : (List.replicate c ([] : List Int)).length = c := by simp
  have hlf := full_len n
  have hZ : ZC w0 W (M + 1) p q M v F (full n) (List.replicate c []) (.map []) 0 := by
    refine ⟨hBW, hNW, by rw [hlc, hlf]; exact hcW, hmW, by omega, by omega, ⟨fun h => by have := hblt.2 _ h; omega, fun h => by have := hNlt _ h; omega, fun h => by have := hblt.2 _ h; omega, fun h => by have := hNlt _ h; omega, fun h => by have := hNlt _ h; omega, fun x h1 h2 => by have := hv2 x h1; have := hNlt _ h2; omega, by omega, by omega⟩⟩
  have hft : ∀ x, foot (M + 1) p M v F x → w.heap.size ≤ x := by
    rintro x (rfl | rfl | rfl | h | h)
    · omega
    · omega
    · omega
    · have := hv2 x h; omega
    · exact hF1 x h
  have hXW := (hx1.transNo hx2).transNo hxW
  have hW' := Lib.hid hW
  have hM' := Lib.hid hM
  clear hW hM hN hB hNW hBW hcW hmW hxW hx1 hx2 hF1 hv2
  go_wp2_with fail
  go_ret2
  rw [hM'.out, hW'.out]
  exact ⟨M + 1, p, q, M, v, F, rfl, hZ, hft, hXW⟩
theorem znew_bad (w : World) (c n : Int) (h : ¬ ((1 ≤ c ∧ c ≤ 8) ∧ 1 ≤ n ∧ n ≤ 1024)) :
    Calls Try.prog 58 #[.int .i64 c, .int .i64 n] w fun e w' => e = .returned (.tuple #[.pointer none, .int .i64 2]) ∧ Ext No w w' := by
  by_cases hc : 1 ≤ c ∧ c ≤ 8
  · have hn : n < 1 ∨ 1024 < n := by omega
    go_enter Try.func58, Try.ntmps58
    go_wp2_with fail
    refine (nt_new w w (Ext.refl _ _) c 6 hc.1 hc.2 (by decide) (by decide) _ rfl).mono ?_
    rintro e w1 ⟨q, F, rfl, _, _, _, hx1⟩
    go_wp2_with fail
    refine (new73_out w1 n hn).mono ?_
    rintro e w2 ⟨rfl, rfl⟩
    go_wp2_with fail
    go_ret2
    exact ⟨rfl, hx1⟩
  · go_enter Try.func58, Try.ntmps58
    go_wp2_with fail
    refine (n_new_bad w c 6 (by omega)).mono ?_
    rintro e w1 ⟨rfl, rfl⟩
    go_wp2_with fail
    go_ret2
    exact ⟨rfl, Ext.refl _ _⟩
end Go.Proofs.Ytjkknjohmekeiaa
/- A zone as a state with a footprint: Alloc, Free, Drain and the rest, each said once for all arguments. No condition. -/
namespace Go.Proofs.Ytjkknjohmekeiaa
open Go.RowKit

/-- What a call on a zone leaves and answers. -/
structure ZA where
  l : List T3
  ll : List (List Int)
  D : Dm
  x : Int
  e : Int
def zalloc (l : List T3) (ll : List (List Int)) (D : Dm) (c o k : Int) : ZA :=
  if inR ll c = false then ⟨l, ll, D, 0, 9⟩
  else if okA o k = false then ⟨l, ll, D, 0, 2⟩
  else if o = 0 ∧ takeB ll c = true then ⟨l, dropL ll c, D.put (key (takeX ll c)) (dat k), takeX ll c, 0⟩
  else match leastL l o.toNat with
    | some b => ⟨allocL l o.toNat k.toNat, ll, if o = 0 then D.put (key b.i) (dat k) else D, b.i, 0⟩
    | none => ⟨allocL (backL l ll.flatten) o.toNat k.toNat, List.replicate ll.length [], if allocE (backL l ll.flatten) o.toNat = 0 ∧ o = 0 then D.put (key (allocX (backL l ll.flatten) o.toNat)) (dat k) else D, allocX (backL l ll.flatten) o.toNat, allocE (backL l ll.flatten) o.toNat⟩
def zfree (l : List T3) (ll : List (List Int)) (D : Dm) (c page : Int) : ZA :=
  if inR ll c = false then ⟨l, ll, D, 0, 9⟩
  else if zout l ll page = false then ⟨l, ll, D, 0, 60⟩
  else if 0 < (nth l page.toNat).b then ⟨freeT l page.toNat, ll, D, 0, 0⟩
  else ⟨backL l (putA ll 6 c page), putL ll 6 c page, D.del (key page), 0, 0⟩
def zdrain (l : List T3) (ll : List (List Int)) (D : Dm) (c : Int) : ZA :=
  if inR ll c = false then ⟨l, ll, D, 0, 9⟩ else ⟨backL l (listIn ll c), drainL ll c, D, 0, 0⟩

/-- A zone at block z, in the blocks Z, all new since w0. -/
def ZT (w0 w : World) (z : Nat) (Z : Nat → Prop) (l : List T3) (ll : List (List Int)) (D : Dm) (n : Nat) : Prop :=
  ∃ p q m v F, ZC w0 w z p q m v F l ll D n ∧ Z = foot z p m v F
def ZPost (w0 w : World) (z : Nat) (Z : Nat → Prop) (w' : World) (l : List T3) (ll : List (List Int)) (D : Dm) (n : Nat) : Prop :=
  ∃ Z', ZT w0 w' z Z' l ll D n ∧ Mv w Z w' Z'
section
variable {w0 w w' : World} {z n : Nat} {Z : Nat → Prop} {l : List T3} {ll : List (List Int)} {D : Dm}
theorem ZT.x (h : ZT w0 w z Z l ll D n) : Ext No w0 w := by obtain ⟨p, q, m, v, F, h, _⟩ := h; exact h.x
theorem ZT.bi (h : ZT w0 w z Z l ll D n) : BI l := by obtain ⟨p, q, m, v, F, h, _⟩ := h; exact h.b.i
theorem ZT.ok (h : ZT w0 w z Z l ll D n) : NOk ll 6 := by obtain ⟨p, q, m, v, F, h, _⟩ := h; exact h.e.ok
theorem ZT.lt (h : ZT w0 w z Z l ll D n) (x : Nat) (hx : Z x) : x < w.heap.size := by obtain ⟨p, q, m, v, F, h, rfl⟩ := h; exact h.lt x hx
theorem ZT.new (h : ZT w0 w z Z l ll D n) (x : Nat) (hx : Z x) : w0.heap.size ≤ x := by obtain ⟨p, q, m, v, F, h, rfl⟩ := h; exact h.new x hx
theorem ZT.extNo (h : ZT w0 w z Z l ll D n) (hx : Ext No w w') : ZT w0 w' z Z l ll D n := by obtain ⟨p, q, m, v, F, h, rfl⟩ := h; exact ⟨p, q, m, v, F, h.extNo hx, rfl⟩
theorem ZT.ext {S : Nat → Prop} (h : ZT w0 w z Z l ll D n) (hx : Ext S w w') (hS : ∀ x, Z x → ¬ S x) (hN : ∀ x, S x → w0.heap.size ≤ x) : ZT w0 w' z Z l ll D n := by
  obtain ⟨p, q, m, v, F, h, rfl⟩ := h; exact ⟨p, q, m, v, F, h.ext hx hS hN, rfl⟩
theorem ZT.mono (h : ZT w0 w z Z l ll D n) {n' : Nat} (hn : n ≤ n') : ZT w0 w z Z l ll D n' := by obtain ⟨p, q, m, v, F, h, rfl⟩ := h; exact ⟨p, q, m, v, F, h.mono hn, rfl⟩

theorem zt_new (w0 w : World) (hx : Ext No w0 w) (c n : Nat) (hc1 : 1 ≤ c) (hc8 : c ≤ 8) (h1 : 1 ≤ n) (h2 : n ≤ 1024) :
    Calls Try.prog 58 #[.int .i64 c, .int .i64 n] w fun e w' => ∃ z Z, e = .returned (.tuple #[.pointer (some ⟨z, 0, none⟩), .int .i64 0]) ∧ ZT w0 w' z Z (full n) (List.replicate c []) (.map []) 0 ∧ (∀ x, Z x → w.heap.size ≤ x) ∧ Ext No w w' := by
  refine (znew_spec w0 w hx c n hc1 hc8 h1 h2).mono ?_
  rintro e w' ⟨z, p, q, m, v, F, he, hZ, hf, hx'⟩
  exact ⟨z, _, he, ⟨p, q, m, v, F, hZ, rfl⟩, hf, hx'⟩
theorem zt_alloc (h : ZT w0 w z Z l ll D n) (hn : n < maxLen) (c o k : Int) :
    Calls Try.prog 41 #[.pointer (some ⟨z, 0, none⟩), .int .i64 c, .int .i64 o, .int .i64 k] w fun e w' => e = .returned (.tuple #[.int .i64 (zalloc l ll D c o k).x, .int .i64 (zalloc l ll D c o k).e]) ∧
      ZPost w0 w z Z w' (zalloc l ll D c o k).l (zalloc l ll D c o k).ll (zalloc l ll D c o k).D (n + 1) := by
  obtain ⟨p, q, m, v, F, h, rfl⟩ := h
  cases hc : inR ll c
  · have e1 : zalloc l ll D c o k = ⟨l, ll, D, 0, 9⟩ := by unfold zalloc; rw [if_pos hc]
    rw [e1]
    refine (zalloc_range h c o k hc).mono ?_
    rintro e w' ⟨he, rfl⟩
    exact ⟨he, _, ⟨p, q, m, v, F, h.mono (by omega), rfl⟩, Mv.refl _ _⟩
  · have hcn : ¬ inR ll c = false := by rw [hc]; decide
    cases ho : okA o k
    · have e1 : zalloc l ll D c o k = ⟨l, ll, D, 0, 2⟩ := by unfold zalloc; rw [if_neg hcn, if_pos ho]
      rw [e1]
      refine (zalloc_arg h c o k hc (of_decide_eq_false ho)).mono ?_
      rintro e w' ⟨he, rfl⟩
      exact ⟨he, _, ⟨p, q, m, v, F, h.mono (by omega), rfl⟩, Mv.refl _ _⟩
    · have hon : ¬ okA o k = false := by rw [ho]; decide
      obtain ⟨o, k, rfl, rfl, ho1, hk1⟩ := okA_yes ho
      by_cases ht : (o : Int) = 0 ∧ takeB ll c = true
      · have e1 : zalloc l ll D c o k = ⟨l, dropL ll c, D.put (key (takeX ll c)) (dat k), takeX ll c, 0⟩ := by unfold zalloc; rw [if_neg hcn, if_neg hon, if_pos ht]
        rw [e1]
        obtain ⟨h0, ht⟩ := ht
        rw [h0]
        refine (zalloc_near h hn c k hk1 hc ht).mono ?_
        rintro e w' ⟨he, F', hZ, hM⟩
        exact ⟨he, _, ⟨p, q, m, v, F', hZ, rfl⟩, hM⟩
      · have ht2 : ¬ (o = 0 ∧ takeB ll c = true) := fun hh => ht ⟨by omega, hh.2⟩
        have hoz : ((o : Int) = 0) = (o = 0) := propext (by omega)
        cases hb : leastL l o with
        | some b =>
          have e1 : zalloc l ll D c o k = ⟨allocL l o k, ll, if o = 0 then D.put (key b.i) (dat k) else D, b.i, 0⟩ := by
            unfold zalloc; rw [if_neg hcn, if_neg hon, if_neg ht, Int.toNat_natCast, Int.toNat_natCast, hb]; simp only [hoz]
          rw [e1]
          refine (zalloc_far h hn c o k ho1 hk1 hc ht2 hb).mono ?_
          rintro e w' ⟨he, F', hZ, hM⟩
          exact ⟨he, _, ⟨p, q, m, v, F', hZ, rfl⟩, hM⟩
        | none =>
          have e1 : zalloc l ll D c o k = ⟨allocL (backL l ll.flatten) o k, List.replicate ll.length [], if allocE (backL l ll.flatten) o = 0 ∧ o = 0 then D.put (key (allocX (backL l ll.flatten) o)) (dat k) else D, allocX (backL l ll.flatten) o, allocE (backL l ll.flatten) o⟩ := by
            unfold zalloc; rw [if_neg hcn, if_neg hon, if_neg ht, Int.toNat_natCast, Int.toNat_natCast, hb]; simp only [hoz]
          rw [e1]
          refine (zalloc_none h hn c o k ho1 hk1 hc ht2 hb).mono ?_
          rintro e w' ⟨he, F', hZ, hM⟩
          exact ⟨he, _, ⟨p, q, m, v, F', hZ, rfl⟩, hM⟩
theorem zt_free (h : ZT w0 w z Z l ll D n) (c page : Int) :
    Calls Try.prog 55 #[.pointer (some ⟨z, 0, none⟩), .int .i64 c, .int .i64 page] w fun e w' => e = .returned (.int .i64 (zfree l ll D c page).e) ∧
      ZPost w0 w z Z w' (zfree l ll D c page).l (zfree l ll D c page).ll (zfree l ll D c page).D n := by
  obtain ⟨p, q, m, v, F, h, rfl⟩ := h
  cases hc : inR ll c
  · have e1 : zfree l ll D c page = ⟨l, ll, D, 0, 9⟩ := by unfold zfree; rw [if_pos hc]
    rw [e1]
    refine (zfree_range h c page hc).mono ?_
    rintro e w' ⟨he, rfl⟩
    exact ⟨he, _, ⟨p, q, m, v, F, h, rfl⟩, Mv.refl _ _⟩
  · have hcn : ¬ inR ll c = false := by rw [hc]; decide
    cases ho : zout l ll page
    · have e1 : zfree l ll D c page = ⟨l, ll, D, 0, 60⟩ := by unfold zfree; rw [if_neg hcn, if_pos ho]
      rw [e1]
      refine (zfree_bad h c page hc ho).mono ?_
      rintro e w' ⟨he, hx⟩
      exact ⟨he, _, ⟨p, q, m, v, F, h.extNo hx, rfl⟩, Mv.no hx _⟩
    · have hon : ¬ zout l ll page = false := by rw [ho]; decide
      obtain ⟨i, rfl, hi, ha, _⟩ := zout_yes h.b.i ho
      by_cases hb : 0 < (nth l i).b
      · have e1 : zfree l ll D c i = ⟨freeT l i, ll, D, 0, 0⟩ := by unfold zfree; rw [if_neg hcn, if_neg hon, Int.toNat_natCast, if_pos hb]
        rw [e1]
        refine (zfree_big h c i hc ho hb).mono ?_
        rintro e w' ⟨he, F', hZ, hM⟩
        exact ⟨he, _, ⟨p, q, m, v, F', hZ, rfl⟩, hM⟩
      · have e1 : zfree l ll D c i = ⟨backL l (putA ll 6 c i), putL ll 6 c i, D.del (key i), 0, 0⟩ := by unfold zfree; rw [if_neg hcn, if_neg hon, Int.toNat_natCast, if_neg hb]
        rw [e1]
        obtain ⟨k, c0, hk, he⟩ := out_is h.b.i.va hi ha
        have hb0 : (nth l i).b = 0 := by rw [he] at hb ⊢; have : ¬ (0 : Int) < (k : Nat) := hb; show ((k : Nat) : Int) = 0; omega
        refine (zfree_one h c i hc ho hb0).mono ?_
        rintro e w' ⟨he, F', hZ, hM⟩
        exact ⟨he, _, ⟨p, q, m, v, F', hZ, rfl⟩, hM⟩
theorem zt_drain (h : ZT w0 w z Z l ll D n) (c : Int) :
    Calls Try.prog 56 #[.pointer (some ⟨z, 0, none⟩), .int .i64 c] w fun e w' => e = .returned (.int .i64 (zdrain l ll D c).e) ∧
      ZPost w0 w z Z w' (zdrain l ll D c).l (zdrain l ll D c).ll (zdrain l ll D c).D n := by
  obtain ⟨p, q, m, v, F, h, rfl⟩ := h
  cases hc : inR ll c
  · have e1 : zdrain l ll D c = ⟨l, ll, D, 0, 9⟩ := by unfold zdrain; rw [if_pos hc]
    rw [e1]
    refine (zdrain_range h c hc).mono ?_
    rintro e w' ⟨he, rfl⟩
    exact ⟨he, _, ⟨p, q, m, v, F, h, rfl⟩, Mv.refl _ _⟩
  · have e1 : zdrain l ll D c = ⟨backL l (listIn ll c), drainL ll c, D, 0, 0⟩ := by unfold zdrain; rw [if_neg (by rw [hc]; decide)]
    rw [e1]
    refine (zdrain_yes h c hc).mono ?_
    rintro e w' ⟨he, F', hZ, hM⟩
    exact ⟨he, _, ⟨p, q, m, v, F', hZ, rfl⟩, hM⟩
theorem zt_tag (h : ZT w0 w z Z l ll D n) (page : Int) :
    Calls Try.prog 42 #[.pointer (some ⟨z, 0, none⟩), .int .i64 page] w fun e w' => e = .returned (.tuple #[.agg #[.int .i64 (tH l ll page), .int .i64 (tO l ll page), .int .i64 (tC D l ll page)], .bool (tB l ll page)]) ∧ Ext No w w' := by
  obtain ⟨p, q, m, v, F, h, rfl⟩ := h; exact tag42_spec h page
theorem zt_near (h : ZT w0 w z Z l ll D n) (c : Int) :
    Calls Try.prog 44 #[.pointer (some ⟨z, 0, none⟩), .int .i64 c] w fun e w' => e = .returned (.int .i64 (listIn ll c).length) ∧ Ext No w w' := by
  obtain ⟨p, q, m, v, F, h, rfl⟩ := h; exact near44_spec h c
theorem zt_whole (h : ZT w0 w z Z l ll D n) :
    Calls Try.prog 57 #[.pointer (some ⟨z, 0, none⟩)] w fun e w' => e = .returned (.bool (decide (l = full l.length))) ∧ Ext No w w' := by
  obtain ⟨p, q, m, v, F, h, rfl⟩ := h; exact whole57_spec h
theorem zt_left (h : ZT w0 w z Z l ll D n) :
    Calls Try.prog 40 #[.pointer (some ⟨z, 0, none⟩)] w fun e w' => e = .returned (.int .i64 (frS l + ll.flatten.length)) ∧ Ext No w w' := by
  obtain ⟨p, q, m, v, F, h, rfl⟩ := h; exact left40_spec h
end
end Go.Proofs.Ytjkknjohmekeiaa
/- Plain: a zone, and what is out of it, call by call. No condition. -/
namespace Go.Proofs.Ytjkknjohmekeiaa

/-- What is left of a list out of which one is taken, the last in its place. -/
def rmvG {α : Type} [Inhabited α] (out : List α) (k : Nat) : List α := (out.set k (nth out (out.length - 1))).take (out.length - 1)
theorem rmvG_perm {α : Type} [Inhabited α] {out : List α} {k : Nat} (h : k < out.length) : (nth out k :: rmvG out k).Perm out := by
  obtain ⟨A, x, R, rfl, hA⟩ : ∃ A x R, out = A ++ x :: R ∧ A.length = k :=
    ⟨out.take k, out[k], out.drop (k + 1), by rw [List.getElem_cons_drop, List.take_append_drop], by simp; omega⟩
  subst hA
  have e1 : nth (A ++ x :: R) A.length = x := by rw [nth_eq h]; simp
  rw [e1]
  rcases List.eq_nil_or_concat R with rfl | ⟨B, y, rfl⟩
  · unfold rmvG
    have : (A ++ [x]).length - 1 = A.length := by simp
    rw [this, List.set_append_right _ _ (Nat.le_refl _), List.take_left' rfl]
    exact (List.perm_append_comm (l₁ := [x]) (l₂ := A))
  · rw [List.concat_eq_append] at *
    unfold rmvG
    have hl : (A ++ x :: (B ++ [y])).length - 1 = A.length + (B.length + 1) := by simp
    have hy : nth (A ++ x :: (B ++ [y])) (A.length + (B.length + 1)) = y := by
      rw [nth_eq (by simp)]
      rw [List.getElem_append_right (by omega)]
      simp
    rw [hl, hy, List.set_append_right _ _ (Nat.le_refl _), Nat.sub_self, List.set_cons_zero]
    have e : A ++ y :: (B ++ [y]) = (A ++ y :: B) ++ [y] := by simp
    rw [e, List.take_left' (by simp)]
    have p1 : (A ++ y :: B).Perm (y :: (A ++ B)) := List.perm_middle
    have p2 : (A ++ x :: (B ++ [y])).Perm (x :: (A ++ (B ++ [y]))) := List.perm_middle
    refine List.Perm.trans (.cons x ?_) p2.symm
    refine p1.trans ?_
    have p3 : (A ++ B ++ [y]).Perm (y :: (A ++ B)) := by
      have := List.perm_append_comm (l₁ := A ++ B) (l₂ := [y])
      exact this
    rw [← List.append_assoc]
    exact p3.symm
theorem rmvG_len {α : Type} [Inhabited α] {out : List α} {k : Nat} (h : k < out.length) : (rmvG out k).length = out.length - 1 := by
  have := (rmvG_perm h).length_eq
  simp at this; omega

/-- A block that is out. -/
structure PO where
  p : Nat
  o : Nat
instance : Inhabited PO := ⟨⟨0, 0⟩⟩
def So : List PO → Int
  | [] => 0
  | x :: r => (pw x.o : Nat) + So r
theorem So_app : ∀ A B, So (A ++ B) = So A + So B
  | [], B => by simp [So]
  | x :: r, B => by simp only [List.cons_append, So, So_app r B]; omega
theorem So_perm {A B : List PO} (h : A.Perm B) : So A = So B := by
  induction h with
  | nil => rfl
  | cons x _ ih => simp only [So, ih]
  | swap x y l => simp only [So]; omega
  | trans _ _ h1 h2 => rw [h1, h2]

/-- A zone, and what is out of it. -/
structure ZO (l : List T3) (N : List Int) (D : Dm) (out : List PO) : Prop where
  zi : ZI l N D
  nd : out.Nodup
  mem : ∀ x : PO, x ∈ out ↔ x.p < l.length ∧ (nth l x.p).a = 2 ∧ (nth l x.p).b = x.o ∧ (x.p : Int) ∉ N
  sum : frS l + N.length + So out = l.length
section
variable {l l' : List T3} {N M A : List Int} {D : Dm} {out : List PO}
theorem ZO.perm (h : ZO l N D out) (hp : N.Perm M) : ZO l M D out :=
  ⟨h.zi.perm hp, h.nd, fun x => by rw [h.mem x]; exact ⟨fun ⟨a, b, c, d⟩ => ⟨a, b, c, fun e => d (hp.mem_iff.2 e)⟩, fun ⟨a, b, c, d⟩ => ⟨a, b, c, fun e => d (hp.mem_iff.1 e)⟩⟩, by rw [← hp.length_eq]; exact h.sum⟩
theorem ZO.alloc (h : ZO l N D out) {o c : Nat} (hc : c ≤ 8) {b : Bk} (hb : leastL l o = some b) : ZO (allocL l o c) N (if o = 0 then D.put (key b.i) (dat c) else D) (out ++ [⟨b.i, o⟩]) := by
  obtain ⟨hp, _⟩ := h.zi.bi.alloc hc hb
  obtain ⟨hf, hbl⟩ := least_free hb
  have hni : (b.i : Int) ∉ N := fun hm => free_ne hf ((h.zi.sg _ hm).is).2.1 rfl
  have hno : ∀ x : PO, x ∈ out → x.p ≠ b.i := fun x hx => free_ne hf ((h.mem x).1 hx).2.1
  refine ⟨h.zi.alloc hc hb, ?_, fun x => ?_, ?_⟩
  · rw [List.nodup_append]
    exact ⟨h.nd, by simp, fun x hx y hy e => by simp at hy; subst e; subst hy; exact hno _ hx rfl⟩
  · rw [List.mem_append, List.mem_singleton, hp.len]
    constructor
    · rintro (hx | rfl)
      · obtain ⟨h1, h2, h3, h4⟩ := (h.mem x).1 hx
        rw [alloc_same h.zi.bi hc hb h1 h2]
        exact ⟨h1, h2, h3, h4⟩
      · rw [hp.at0]; exact ⟨hbl, rfl, rfl, hni⟩
    · rintro ⟨h1, h2, h3, h4⟩
      by_cases e : x.p = b.i
      · right
        rw [e, hp.at0] at h3
        have h3 : ((o : Nat) : Int) = x.o := h3
        obtain ⟨xp, xo⟩ := x
        simp only at e h3
        rw [e, show xo = o by omega]
      · left
        have h5 := ((hp.out x.p h1).1 h2).resolve_left e
        rw [alloc_same h.zi.bi hc hb h1 h5] at h3
        exact (h.mem x).2 ⟨h1, h5, h3, h4⟩
  · have := h.sum
    rw [hp.fr, So_app, hp.len]
    simp only [So]; omega
theorem ZO.take {p : Nat} (h : ZO l ((p : Int) :: N) D out) (c : Int) : ZO l N (D.put (key p) (dat c)) (out ++ [⟨p, 0⟩]) := by
  have hs := (h.zi.sg _ (List.mem_cons_self ..)).is
  have hnd := List.nodup_cons.1 h.zi.nd
  have hno : ∀ x : PO, x ∈ out → x.p ≠ p := fun x hx e => ((h.mem x).1 hx).2.2.2 (by rw [e]; exact List.mem_cons_self ..)
  refine ⟨h.zi.take c, ?_, fun x => ?_, ?_⟩
  · rw [List.nodup_append]
    exact ⟨h.nd, by simp, fun x hx y hy e => by simp at hy; subst e; subst hy; exact hno _ hx rfl⟩
  · rw [List.mem_append, List.mem_singleton]
    constructor
    · rintro (hx | rfl)
      · obtain ⟨h1, h2, h3, h4⟩ := (h.mem x).1 hx
        exact ⟨h1, h2, h3, fun e => h4 (List.mem_cons_of_mem _ e)⟩
      · exact ⟨hs.1, hs.2.1, by rw [hs.2.2]; rfl, hnd.1⟩
    · rintro ⟨h1, h2, h3, h4⟩
      by_cases e : x.p = p
      · right
        rw [e, hs.2.2] at h3
        obtain ⟨xp, xo⟩ := x
        simp only at e h3
        rw [e, show xo = 0 by omega]
      · exact .inl ((h.mem x).2 ⟨h1, h2, h3, fun hm => by rcases List.mem_cons.1 hm with e2 | e2; exact e (by omega); exact h4 e2⟩)
  · have := h.sum
    have e : pw 0 = 1 := rfl
    rw [List.length_cons] at this
    rw [So_app]
    simp only [So, e]; omega
theorem ZO.back (h : ZO l (A ++ N) D out) : ZO (backL l A) N D out := by
  have hb := h.zi.bkp
  refine ⟨h.zi.back, h.nd, fun x => ?_, ?_⟩
  · rw [h.mem x, hb.len, List.mem_append]
    constructor
    · rintro ⟨h1, h2, h3, h4⟩
      have h5 := (hb.out x.p h1).2 ⟨fun e => h4 (.inl e), h2⟩
      exact ⟨h1, h5, by rw [hb.keep x.p h1 h5]; exact h3, fun e => h4 (.inr e)⟩
    · rintro ⟨h1, h2, h3, h4⟩
      obtain ⟨h5, h6⟩ := (hb.out x.p h1).1 h2
      rw [hb.keep x.p h1 h2] at h3
      exact ⟨h1, h6, h3, fun e => by rcases e with e | e; exact h5 e; exact h4 e⟩
  · have := h.sum
    rw [List.length_append] at this
    rw [hb.fr, hb.len]; omega
theorem ZO.out_perm {out' : List PO} (h : ZO l N D out) (hp : out.Perm out') : ZO l N D out' :=
  ⟨h.zi, hp.nodup_iff.1 h.nd, fun x => by rw [← hp.mem_iff]; exact h.mem x, by rw [← So_perm hp]; exact h.sum⟩
theorem ZO.big {x : PO} (h : ZO l N D (x :: out)) (hk : 0 < x.o) : ZO (freeT l x.p) N D out := by
  obtain ⟨h1, h2, h3, h4⟩ := (h.mem x).1 (List.mem_cons_self ..)
  obtain ⟨k, c, hk2, he⟩ := out_is h.zi.bi.va h1 h2
  have hko : x.o = k := by rw [he] at h3; have : ((k : Nat) : Int) = x.o := h3; omega
  obtain ⟨hp, _⟩ := h.zi.bi.free h1 he
  have hnd := List.nodup_cons.1 h.nd
  refine ⟨h.zi.big h1 he (by omega), hnd.2, fun y => ?_, ?_⟩
  · rw [hp.len]
    constructor
    · intro hy
      obtain ⟨g1, g2, g3, g4⟩ := (h.mem y).1 (List.mem_cons_of_mem _ hy)
      have hne : y.p ≠ x.p := fun e => by
        have : y = x := by
          obtain ⟨yp, yo⟩ := y; obtain ⟨xp, xo⟩ := x
          simp only at *
          rw [e] at g3; rw [g3] at h3
          rw [e, show yo = xo by omega]
        exact hnd.1 (this ▸ hy)
      rw [free_same h.zi.bi h1 he g1 hne g2]
      exact ⟨g1, g2, g3, g4⟩
    · rintro ⟨g1, g2, g3, g4⟩
      obtain ⟨g5, g6⟩ := (hp.out y.p g1).1 g2
      rw [free_same h.zi.bi h1 he g1 g5 g6] at g3
      rcases List.mem_cons.1 ((h.mem y).2 ⟨g1, g6, g3, g4⟩) with e | e
      · exact absurd (by rw [e]) g5
      · exact e
  · have := h.sum
    rw [hp.fr, hp.len]
    simp only [So, hko] at this; omega
theorem ZO.near {x : PO} (h : ZO l N D (x :: out)) (hk : x.o = 0) : ZO l ((x.p : Int) :: N) (D.del (key x.p)) out := by
  obtain ⟨h1, h2, h3, h4⟩ := (h.mem x).1 (List.mem_cons_self ..)
  rw [hk] at h3
  have hnd := List.nodup_cons.1 h.nd
  refine ⟨h.zi.near ⟨x.p, rfl, h1, h2, h3⟩ h4, hnd.2, fun y => ?_, ?_⟩
  · constructor
    · intro hy
      obtain ⟨g1, g2, g3, g4⟩ := (h.mem y).1 (List.mem_cons_of_mem _ hy)
      refine ⟨g1, g2, g3, fun hm => ?_⟩
      rcases List.mem_cons.1 hm with e | e
      · have : y = x := by
          obtain ⟨yp, yo⟩ := y; obtain ⟨xp, xo⟩ := x
          simp only at *
          obtain rfl : yp = xp := by omega
          rw [g3] at h3
          rw [hk, show yo = 0 by omega]
        exact hnd.1 (this ▸ hy)
      · exact g4 e
    · rintro ⟨g1, g2, g3, g4⟩
      rcases List.mem_cons.1 ((h.mem y).2 ⟨g1, g2, g3, fun hm => g4 (List.mem_cons_of_mem _ hm)⟩) with e | e
      · exact absurd (by rw [e]; exact List.mem_cons_self ..) g4
      · exact e
  · have := h.sum
    have e : pw 0 = 1 := rfl
    rw [List.length_cons]
    simp only [So, hk, e] at this; omega
end

theorem flat_rep (n : Nat) : (List.replicate n ([] : List Int)).flatten = [] := by simp
theorem zo_new {n c : Nat} (h1 : 1 ≤ n) (h2 : n ≤ 1024) : ZO (full n) (List.replicate c ([] : List Int)).flatten (.map []) [] := by
  rw [flat_rep]
  refine ⟨zi_new h1 h2, List.nodup_nil, fun x => ?_, ?_⟩
  · constructor
    · intro h; cases h
    · rintro ⟨g1, g2, _⟩
      rw [full_len] at g1
      exact absurd g2 (full_out g1)
  · rw [full_fr, full_len]; simp [So]
theorem backL_nil (l : List T3) : backL l [] = l := rfl
/-- What Alloc leaves: a block more is out, or none. -/
structure AllocZ (l : List T3) (ll : List (List Int)) (D : Dm) (out : List PO) (o k : Nat) (r : ZA) : Prop where
  len : r.l.length = l.length
  lln : r.ll.length = ll.length
  yes : r.e = 0 → ∃ p : Nat, r.x = p ∧ ZO r.l r.ll.flatten r.D (out ++ [⟨p, o⟩]) ∧ tagF r.D r.l p = k
  no : r.e ≠ 0 → r.e = 7 ∧ r.x = 0 ∧ ZO r.l r.ll.flatten r.D out ∧ r.ll.flatten = [] ∧ leastL r.l o = none
theorem zalloc_plain {l : List T3} {ll : List (List Int)} {D : Dm} {out : List PO} (h : ZO l ll.flatten D out) {c : Int} (hc : inR ll c = true) {o k : Nat} (ho : o ≤ 10) (hk : k ≤ 8) : AllocZ l ll D out o k (zalloc l ll D c o k) := by
  have hcn : ¬ inR ll c = false := by rw [hc]; decide
  have hoA : ¬ okA o k = false := by have : okA o k = true := decide_eq_true (by omega); rw [this]; decide
  by_cases ht : (o : Int) = 0 ∧ takeB ll c = true
  · have e1 : zalloc l ll D c o k = ⟨l, dropL ll c, D.put (key (takeX ll c)) (dat k), takeX ll c, 0⟩ := by unfold zalloc; rw [if_neg hcn, if_neg hoA, if_pos ht]
    rw [e1]
    have hp := take_perm (ll := ll) (c := c)
    rw [if_pos ht.2] at hp
    have hz := h.perm hp.symm
    obtain ⟨p, hpx, hpl, _⟩ := h.zi.sg (takeX ll c) (hp.mem_iff.1 (by simp))
    rw [hpx] at hz
    obtain rfl : o = 0 := by omega
    refine ⟨rfl, dropLn, fun _ => ⟨p, hpx, ?_, ?_⟩, fun hh => absurd rfl hh⟩
    · show ZO l (dropL ll c).flatten (D.put (key (takeX ll c)) (dat k)) _
      rw [hpx]; exact hz.take k
    · show tagF (D.put (key (takeX ll c)) (dat k)) l p = k
      rw [hpx]; exact tag_put h.zi.im l p k
  · have hoz : ((o : Int) = 0) = (o = 0) := propext (by omega)
    have htag : ∀ {l1 : List T3} {N : List Int} {b : Bk}, ZI l1 N D → leastL l1 o = some b → tagF (if o = 0 then D.put (key b.i) (dat k) else D) (allocL l1 o k) b.i = k := by
      intro l1 N b hi hb
      by_cases h0 : o = 0
      · rw [if_pos h0]; exact tag_put hi.im _ _ _
      · rw [if_neg h0, tag_no (hi.has_free (least_free hb).1), (hi.bi.alloc hk hb).1.at0]
    cases hb : leastL l o with
    | some b =>
      have e1 : zalloc l ll D c o k = ⟨allocL l o k, ll, if o = 0 then D.put (key b.i) (dat k) else D, b.i, 0⟩ := by
        unfold zalloc; rw [if_neg hcn, if_neg hoA, if_neg ht, Int.toNat_natCast, Int.toNat_natCast, hb]; simp only [hoz]
      rw [e1]
      exact ⟨(h.zi.bi.alloc hk hb).1.len, rfl, fun _ => ⟨b.i, rfl, h.alloc hk hb, htag h.zi hb⟩, fun hh => absurd rfl hh⟩
    | none =>
      have e1 : zalloc l ll D c o k = ⟨allocL (backL l ll.flatten) o k, List.replicate ll.length [], if allocE (backL l ll.flatten) o = 0 ∧ o = 0 then D.put (key (allocX (backL l ll.flatten) o)) (dat k) else D, allocX (backL l ll.flatten) o, allocE (backL l ll.flatten) o⟩ := by
        unfold zalloc; rw [if_neg hcn, if_neg hoA, if_neg ht, Int.toNat_natCast, Int.toNat_natCast, hb]; simp only [hoz]
      rw [e1]
      have hz : ZO (backL l ll.flatten) (List.replicate ll.length ([] : List Int)).flatten D out := by
        rw [flat_rep]; exact ZO.back (by rw [List.append_nil]; exact h)
      have hlen := (backL_bi ll.flatten h.zi.bi).2
      obtain ⟨l1, hl1⟩ : ∃ l1, backL l ll.flatten = l1 := ⟨_, rfl⟩
      rw [hl1] at hz hlen ⊢
      cases hb1 : leastL l1 o with
      | some b =>
        have hX : allocX l1 o = b.i := by unfold allocX; rw [hb1]
        have hE : allocE l1 o = 0 := by unfold allocE; rw [hb1]
        rw [hX, hE]
        have hD : (if (0 : Int) = 0 ∧ o = 0 then D.put (key b.i) (dat k) else D) = if o = 0 then D.put (key b.i) (dat k) else D := by simp
        rw [hD]
        exact ⟨by show (allocL l1 o k).length = _; rw [(hz.zi.bi.alloc hk hb1).1.len, hlen], by simp, fun _ => ⟨b.i, rfl, hz.alloc hk hb1, htag hz.zi hb1⟩, fun hh => absurd rfl hh⟩
      | none =>
        have hX : allocX l1 o = 0 := by unfold allocX; rw [hb1]
        have hE : allocE l1 o = 7 := by unfold allocE; rw [hb1]
        have hL : allocL l1 o k = l1 := BI.none k hb1
        rw [hX, hE, hL, if_neg (fun hh => absurd hh.1 (by decide))]
        exact ⟨hlen, by simp, fun hh => absurd hh (by show ¬ (7 : Int) = 0; decide), fun _ => ⟨rfl, rfl, hz, flat_rep _, hb1⟩⟩
/-- What Free leaves of a block that is out. -/
theorem zfree_plain {l : List T3} {ll : List (List Int)} {D : Dm} {x : PO} {out : List PO} (h : ZO l ll.flatten D (x :: out)) {c : Int} (hc : inR ll c = true) :
    (zfree l ll D c x.p).e = 0 ∧ ZO (zfree l ll D c x.p).l (zfree l ll D c x.p).ll.flatten (zfree l ll D c x.p).D out ∧ (zfree l ll D c x.p).l.length = l.length ∧ (zfree l ll D c x.p).ll.length = ll.length := by
  obtain ⟨h1, h2, h3, h4⟩ := (h.mem x).1 (List.mem_cons_self ..)
  have hcn : ¬ inR ll c = false := by rw [hc]; decide
  have hhas : hasIn ll x.p = false := by
    cases hh : hasIn ll x.p
    · rfl
    · exfalso
      unfold hasIn at hh
      obtain ⟨r, hr, hr2⟩ := List.any_eq_true.1 hh
      exact h4 (List.mem_flatten.2 ⟨r, hr, by simpa using hr2⟩)
  have hzo : zout l ll x.p = true := by unfold zout; rw [outAt_iff.2 ⟨x.p, rfl, h1, h2⟩, hhas]; rfl
  have hzn : ¬ zout l ll x.p = false := by rw [hzo]; decide
  by_cases hk : 0 < x.o
  · have e1 : zfree l ll D c x.p = ⟨freeT l x.p, ll, D, 0, 0⟩ := by unfold zfree; rw [if_neg hcn, if_neg hzn, Int.toNat_natCast, if_pos (by rw [h3]; omega)]
    rw [e1]
    obtain ⟨k, c0, _, he⟩ := out_is h.zi.bi.va h1 h2
    exact ⟨rfl, h.big hk, (h.zi.bi.free h1 he).1.len, rfl⟩
  · have e1 : zfree l ll D c x.p = ⟨backL l (putA ll 6 c x.p), putL ll 6 c x.p, D.del (key x.p), 0, 0⟩ := by unfold zfree; rw [if_neg hcn, if_neg hzn, Int.toNat_natCast, if_neg (by rw [h3]; omega)]
    rw [e1]
    have hle := h.zi.bi.le
    have hpE : putE ll c x.p = 0 := putE_zero.2 ⟨hc, by omega, by omega, hhas⟩
    have hp := put_perm (cap := 6) hpE
    exact ⟨rfl, ZO.back ((h.near (by omega)).perm hp.symm), (backL_bi _ h.zi.bi).2, putLn⟩
theorem zdrain_plain {l : List T3} {ll : List (List Int)} {D : Dm} {out : List PO} (h : ZO l ll.flatten D out) {c : Int} (hc : inR ll c = true) :
    (zdrain l ll D c).e = 0 ∧ ZO (zdrain l ll D c).l (zdrain l ll D c).ll.flatten (zdrain l ll D c).D out ∧ (zdrain l ll D c).l.length = l.length ∧ (zdrain l ll D c).ll.length = ll.length := by
  have e1 : zdrain l ll D c = ⟨backL l (listIn ll c), drainL ll c, D, 0, 0⟩ := by unfold zdrain; rw [if_neg (by rw [hc]; decide)]
  rw [e1]
  exact ⟨rfl, ZO.back (h.perm drain_perm.symm), (backL_bi _ h.zi.bi).2, drainLn⟩
end Go.Proofs.Ytjkknjohmekeiaa
/- Rows of pairs; the chapter's zone is as the chapter says. No condition. -/
namespace Go.Proofs.Ytjkknjohmekeiaa
open Go.RowKit

def poCells1 (x : PO) : List Value := [.int .i64 (x.p : Nat), .int .i64 (x.o : Nat)]
def poCells (l : List PO) : List Value := l.flatMap poCells1
theorem po_len (l : List PO) : (poCells l).length = l.length * 2 := by
  induction l with
  | nil => rfl
  | cons c l ih => simp [poCells, poCells1] at *; omega
theorem po_at {l : List PO} {k i : Nat} (hk : k < l.length) (hi : i < 2) : (poCells l)[k * 2 + i]? = (poCells1 (nth l k))[i]? := by
  rw [nth_eq hk]; exact flat_at poCells1 2 (fun _ => rfl) l k i hk hi
theorem po_append (l m : List PO) : poCells (l ++ m) = poCells l ++ poCells m := by simp [poCells]
theorem po_set {l : List PO} {k : Nat} (hk : k < l.length) (x : PO) : ((poCells l).set (k * 2) (.int .i64 (x.p : Nat))).set (k * 2 + 1) (.int .i64 (x.o : Nat)) = poCells (l.set k x) := by
  induction l generalizing k with
  | nil => simp at hk
  | cons y l ih =>
    cases k with
    | zero => simp [poCells, poCells1]
    | succ k =>
      have h := ih (k := k) (by simpa using hk)
      have e : ∀ (l : List PO), poCells (y :: l) = .int .i64 (y.p : Nat) :: .int .i64 (y.o : Nat) :: poCells l := fun l => rfl
      rw [List.set_cons_succ, e, e, ← h]
      rw [show (k + 1) * 2 = k * 2 + 1 + 1 by omega]
      simp only [List.set_cons_succ]
theorem po_take (l : List PO) (m : Nat) : (poCells l).take (m * 2) = poCells (l.take m) := by
  induction l generalizing m with
  | nil => simp [poCells]
  | cons y l ih =>
    cases m with
    | zero => simp [poCells]
    | succ m =>
      have e : ∀ (l : List PO), poCells (y :: l) = .int .i64 (y.p : Nat) :: .int .i64 (y.o : Nat) :: poCells l := fun l => rfl
      rw [show (m + 1) * 2 = m * 2 + 1 + 1 by omega, List.take_succ_cons, e, e, List.take_succ_cons, List.take_succ_cons, ih m]
theorem own2_at {w : World} {base e n : Nat} {v : Value} {l : List PO} (h : w.ownsRow base e 2 v n (poCells l)) (hn : l.length = n) {k : Nat} (hk : k < n) :
    ∃ b cap, v = .slice (some ⟨b, 0, none⟩) n cap ∧ n ≤ cap ∧ cap ≤ 9223372036854775807 ∧ OwnOf v b ∧ b < w.heap.size ∧ base ≤ b ∧
      (w.cell? ⟨b, k * 2, none⟩ = some (.int .i64 ((nth l k).p : Nat)) ∧ w.cell? ⟨b, k * 2 + 1, none⟩ = some (.int .i64 ((nth l k).o : Nat))) ∧
      (∀ i, w.frozen? ⟨b, i, none⟩ = false) ∧
      ∀ x : PO, ((w.setCell ⟨b, k * 2, none⟩ (.int .i64 (x.p : Nat))).setCell ⟨b, k * 2 + 1, none⟩ (.int .i64 (x.o : Nat))).ownsRow base e 2 v n (poCells (l.set k x)) := by
  subst hn
  obtain ⟨hl, ⟨rfl, h0⟩ | ⟨g, cap, cur, rfl, hb, hg, hn, hm, hs, ht⟩⟩ := id h
  · omega
  · have hB : Blk w g cur.toList e := by unfold Blk; rw [hg]
    have hcur : cur.toList.take (l.length * 2) = poCells l := ht
    have hat : ∀ i, i < 2 → cur.toList[k * 2 + i]? = (poCells1 (nth l k))[i]? := by
      intro i hi
      have h1 := po_at hk hi
      rw [← hcur, List.getElem?_take, if_pos (by omega)] at h1
      exact h1
    refine ⟨g, cap, rfl, hn, by simpa [maxLen] using hm, rfl, hB.lt, hb, ⟨?_, ?_⟩, fun i => hB.frozen i, fun x => ?_⟩
    · have := hat 0 (by omega); exact hB.cell' (by simpa [poCells1] using this)
    · have := hat 1 (by omega); exact hB.cell' (by simpa [poCells1] using this)
    · have hB3 := (hB.set (k * 2) (.int .i64 (x.p : Nat))).set (k * 2 + 1) (.int .i64 (x.o : Nat))
      refine ⟨by rw [po_len, List.length_set], .inr ⟨g, cap, _, rfl, hb, hB3, hn, hm, by simp; exact hs, ?_⟩⟩
      rw [← po_set hk, ← hcur]
      simp only [List.take_set]
theorem own2_take {w : World} {base e n : Nat} {a : Option Addr} {cap : Nat} {l : List PO} (h : w.ownsRow base e 2 (.slice a n cap) n (poCells l)) {m : Nat} (hm : m ≤ n) (hn : 0 < n) : w.ownsRow base e 2 (.slice a m cap) m (poCells (l.take m)) := by
  obtain ⟨hl, ⟨h1, h2⟩ | ⟨g, cap', cur, h1, hb, hg, hc, hx, hs, ht⟩⟩ := h
  · omega
  · cases h1
    have hll : l.length = n := by rw [po_len] at hl; omega
    refine ⟨by rw [po_len, List.length_take]; omega, .inr ⟨g, cap, cur, rfl, hb, hg, by omega, hx, hs, ?_⟩⟩
    rw [← po_take, ← ht, List.take_take]
    congr 1; omega

/-! ### The chapter's zone -/
def A1 : List T3 := [⟨2, 0, 3⟩, ⟨0, 0, 0⟩, ⟨0, 1, 0⟩, inside, ⟨0, 2, 0⟩, inside, inside, inside]
def A3 : List T3 := [⟨2, 3, 1⟩, inside, inside, inside, inside, inside, inside, inside]
def A8 : List T3 := [⟨0, 3, 0⟩, inside, inside, inside, inside, inside, inside, inside]
theorem tC_is {D : Dm} {l : List T3} {ll : List (List Int)} {page : Int} {h : Nat} (hb : tB l ll page = true) (hh : headF l page = h) : tC D l ll page = tagF D l h := by
  unfold tC; rw [if_pos hb, hh, Int.toNat_natCast]

/-- Alloc, where what it leaves is known. -/
theorem zt_alloc' {w0 w : World} {z n : Nat} {Z : Nat → Prop} {l : List T3} {ll : List (List Int)} {D : Dm} (h : ZT w0 w z Z l ll D n) (hn : n < maxLen) (c o k : Int) {r : ZA} (hr : zalloc l ll D c o k = r) :
    Calls Try.prog 41 #[.pointer (some ⟨z, 0, none⟩), .int .i64 c, .int .i64 o, .int .i64 k] w fun e w' => e = .returned (.tuple #[.int .i64 r.x, .int .i64 r.e]) ∧ ZPost w0 w z Z w' r.l r.ll r.D (n + 1) := by
  subst hr; exact zt_alloc h hn c o k
theorem zt_free' {w0 w : World} {z n : Nat} {Z : Nat → Prop} {l : List T3} {ll : List (List Int)} {D : Dm} (h : ZT w0 w z Z l ll D n) (c page : Int) {r : ZA} (hr : zfree l ll D c page = r) :
    Calls Try.prog 55 #[.pointer (some ⟨z, 0, none⟩), .int .i64 c, .int .i64 page] w fun e w' => e = .returned (.int .i64 r.e) ∧ ZPost w0 w z Z w' r.l r.ll r.D n := by
  subst hr; exact zt_free h c page
theorem wk1 (D : Dm) : zalloc A8 [[], []] D 0 0 3 = ⟨A1, [[], []], D.put (key 0) (dat 3), 0, 0⟩ := by
  unfold zalloc
  rw [if_neg (by decide), if_neg (by decide), if_neg (by decide)]
  have hb : leastL A8 (0 : Int).toNat = some ⟨0, 3⟩ := by kernel_rfl
  rw [hb]
  have hl : allocL A8 (0 : Int).toNat (3 : Int).toNat = A1 := by decide
  rw [hl]; rfl
theorem wk2 (D : Dm) : zfree A1 [[], []] D 1 0 = ⟨A1, [[], [0]], D.del (key 0), 0, 0⟩ := by
  unfold zfree
  rw [if_neg (by decide), if_neg (by decide), if_neg (by decide)]
  have ha : putA [[], []] 6 1 0 = [] := by decide
  have hl : putL [[], []] 6 1 0 = [[], [0]] := by decide
  rw [ha, hl]; rfl
theorem wk3 (D : Dm) : zalloc A1 [[], [0]] D 0 3 1 = ⟨A3, [[], []], D, 0, 0⟩ := by
  unfold zalloc
  rw [if_neg (by decide), if_neg (by decide), if_neg (by decide)]
  have hb : leastL A1 (3 : Int).toNat = none := by kernel_rfl
  rw [hb]
  have h1 : backL A1 [[], [0]].flatten = A8 := by decide
  rw [h1]
  have hl : allocL A8 (3 : Int).toNat (1 : Int).toNat = A3 := by decide
  have hX : allocX A8 (3 : Int).toNat = 0 := by decide
  have hE : allocE A8 (3 : Int).toNat = 0 := by decide
  simp only [hl, hX, hE]
  rw [if_neg (by decide)]; rfl
theorem wk4 (D : Dm) : zfree A3 [[], []] D 0 5 = ⟨A3, [[], []], D, 0, 60⟩ := by
  unfold zfree
  rw [if_neg (by decide), if_pos (by decide)]
theorem wk5 (D : Dm) : zfree A3 [[], []] D 0 0 = ⟨A8, [[], []], D, 0, 0⟩ := by
  unfold zfree
  rw [if_neg (by decide), if_neg (by decide), if_pos (by decide)]
  have hl : freeT A3 (0 : Int).toNat = A8 := by decide
  rw [hl]
end Go.Proofs.Ytjkknjohmekeiaa
/- The chapter's zone; a zone to which calls are done: the walks. No condition. -/
namespace Go.Proofs.Ytjkknjohmekeiaa
open Go.RowKit

theorem zt_tag' {w0 w : World} {z n : Nat} {Z : Nat → Prop} {l : List T3} {ll : List (List Int)} {D : Dm} (h : ZT w0 w z Z l ll D n) (page : Int) {H O C : Int} {B : Bool} (hH : tH l ll page = H) (hO : tO l ll page = O) (hC : tC D l ll page = C) (hB : tB l ll page = B) :
    Calls Try.prog 42 #[.pointer (some ⟨z, 0, none⟩), .int .i64 page] w fun e w' => e = .returned (.tuple #[.agg #[.int .i64 H, .int .i64 O, .int .i64 C], .bool B]) ∧ Ext No w w' := by
  subst hH hO hC hB; exact zt_tag h page
theorem zt_near' {w0 w : World} {z n : Nat} {Z : Nat → Prop} {l : List T3} {ll : List (List Int)} {D : Dm} (h : ZT w0 w z Z l ll D n) (c : Int) {N : Int} (hN : ((listIn ll c).length : Int) = N) :
    Calls Try.prog 44 #[.pointer (some ⟨z, 0, none⟩), .int .i64 c] w fun e w' => e = .returned (.int .i64 N) ∧ Ext No w w' := by
  subst hN; exact zt_near h c
theorem zt_whole' {w0 w : World} {z n : Nat} {Z : Nat → Prop} {l : List T3} {ll : List (List Int)} {D : Dm} (h : ZT w0 w z Z l ll D n) {B : Bool} (hB : decide (l = full l.length) = B) :
    Calls Try.prog 57 #[.pointer (some ⟨z, 0, none⟩)] w fun e w' => e = .returned (.bool B) ∧ Ext No w w' := by
  subst hB; exact zt_whole h
theorem zt_left' {w0 w : World} {z n : Nat} {Z : Nat → Prop} {l : List T3} {ll : List (List Int)} {D : Dm} (h : ZT w0 w z Z l ll D n) {N : Int} (hN : frS l + ll.flatten.length = N) :
    Calls Try.prog 40 #[.pointer (some ⟨z, 0, none⟩)] w fun e w' => e = .returned (.int .i64 N) ∧ Ext No w w' := by
  subst hN; exact zt_left h

theorem wk6 : tC ((DataW.map [] : Dm).put (key 0) (dat 3)) A1 [[], []] 0 = 3 := by
  rw [tC_is (h := 0) (by decide) (by decide)]; exact tag_put Maps.isMap_empty A1 0 3
theorem wk7 (D : Dm) : tC (D.del (key 0)) A3 [[], []] 5 = 1 := by
  rw [tC_is (h := 0) (by decide) (by decide), tag_no (by exact Maps.has_del_same)]; rfl

set_option maxRecDepth 100000 in
set_option maxHeartbeats 6400000 in
theorem works43_spec (w : World) :
    Calls Try.prog 43 #[] w fun e w' => e = .returned (.bool true) ∧ Ext No w w' := by
  have hm0 : 0 < maxLen := by unfold maxLen; omega
  have hm1 : 0 + 1 < maxLen := by unfold maxLen; omega
  go_enter Try.func43, Try.ntmps43
  go_wp2_with fail
  refine (zt_new w w (Ext.refl _ _) 2 8 (by decide) (by decide) (by decide) (by decide)).mono ?_
  rintro e w1 ⟨z, Z, rfl, h1, _, _⟩
  have h1 : ZT w w1 z Z A8 [[], []] (.map []) 0 := by
    have e8 : full 8 = A8 := by decide
    rw [e8] at h1; exact h1
  go_wp2_with fail
  refine (zt_alloc' h1 hm0 0 0 3 (wk1 _)).mono ?_
  rintro e w2 ⟨rfl, Z2, h2, hM2⟩
  dsimp only at h2
  clear h1 hM2
  go_wp2_with fail
  refine (zt_tag' h2 0 (H := 0) (O := 0) (B := true) (by decide) (by decide) wk6 (by decide)).mono ?_
  rintro e w3 ⟨rfl, hx3⟩
  have h3 := h2.extNo (hx3.alloc (.cells #[.int .i64 0, .int .i64 0, .int .i64 3] 56))
  clear h2 hx3
  go_wp2_with fail
  refine (zt_left' h3 (N := 7) (by decide)).mono ?_
  rintro e w4 ⟨rfl, hx4⟩
  have h4 := h3.extNo hx4
  clear h3 hx4
  go_wp2_with fail
  refine (zt_free' h4 1 0 (wk2 _)).mono ?_
  rintro e w5 ⟨rfl, Z5, h5, hM5⟩
  dsimp only at h5
  clear h4 hM5
  obtain ⟨D5, hD5⟩ : ∃ D5, (DataW.put (DataW.map []) (key 0) (dat 3) : Dm) = D5 := ⟨_, rfl⟩
  rw [hD5] at h5
  clear hD5
  go_wp2_with fail
  refine (zt_near' h5 1 (N := 1) (by decide)).mono ?_
  rintro e w6 ⟨rfl, hx6⟩
  have h6 := h5.extNo hx6
  clear h5 hx6
  go_wp2_with fail
  refine (zt_left' h6 (N := 8) (by decide)).mono ?_
  rintro e w7 ⟨rfl, hx7⟩
  have h7 := h6.extNo hx7
  clear h6 hx7
  go_wp2_with fail
  refine (zt_whole' h7 (B := false) (by decide)).mono ?_
  rintro e w8 ⟨rfl, hx8⟩
  have h8 := h7.extNo hx8
  clear h7 hx8
  go_wp2_with fail
  refine (zt_alloc' h8 hm1 0 3 1 (wk3 _)).mono ?_
  rintro e w9 ⟨rfl, Z9, h9, hM9⟩
  dsimp only at h9
  clear h8 hM9
  go_wp2_with fail
  refine (zt_near' h9 1 (N := 0) (by decide)).mono ?_
  rintro e w10 ⟨rfl, hx10⟩
  have h10 := h9.extNo hx10
  clear h9 hx10
  go_wp2_with fail
  refine (zt_tag' h10 5 (H := 0) (O := 3) (B := true) (by decide) (by decide) (wk7 _) (by decide)).mono ?_
  rintro e w11 ⟨rfl, hx11⟩
  have h11 := h10.extNo (hx11.alloc (.cells #[.int .i64 0, .int .i64 3, .int .i64 1] 56))
  clear h10 hx11
  go_wp2_with fail
  refine (zt_free' h11 0 5 (wk4 _)).mono ?_
  rintro e w12 ⟨rfl, Z12, h12, hM12⟩
  dsimp only at h12
  clear h11 hM12
  go_wp2_with fail
  refine (zt_free' h12 0 0 (wk5 _)).mono ?_
  rintro e w13 ⟨rfl, Z13, h13, hM13⟩
  dsimp only at h13
  clear h12 hM13
  go_wp2_with fail
  refine (zt_whole' h13 (B := true) (by decide)).mono ?_
  rintro e w14 ⟨rfl, hx14⟩
  have h14 := h13.extNo hx14
  clear h13 hx14
  go_wp2_with fail
  go_ret
  exact ⟨rfl, h14.x⟩
end Go.Proofs.Ytjkknjohmekeiaa
/- A zone to which calls are done: the walk. No condition. -/
namespace Go.Proofs.Ytjkknjohmekeiaa
open Go.RowKit

theorem ty_po : SlTy 48 132 2 16 := .mk' (z := .agg #[.int .i64 0, .int .i64 0]) (by kernel_rfl) Try.underlying48 rfl (by decide)
/-- A row of pairs that lies beside a zone. -/
def Row2 (w0 w : World) (Z : Nat → Prop) (vo : Value) (out : List PO) : Prop :=
  (∃ base, w0.heap.size ≤ base ∧ base ≤ w.heap.size ∧ w.ownsRow base 132 2 vo out.length (poCells out)) ∧ ∀ x, OwnOf vo x → ¬ Z x
section
variable {w0 w w' : World} {Z Z' : Nat → Prop} {vo : Value} {out : List PO}
theorem Row2.move (h : Row2 w0 w Z vo out) (hM : Mv w Z w' Z') : Row2 w0 w' Z' vo out := by
  obtain ⟨⟨base, h1, h2, h3⟩, h4⟩ := h
  refine ⟨⟨base, h1, Nat.le_trans h2 hM.1.size, ownsRow_ext h3 hM.1 (fun k hk => h4 k hk)⟩, fun x hx hz => ?_⟩
  rcases hM.2 x hz with e | e
  · exact h4 x hx e
  · have := (h3.lt x hx).2; omega
theorem Row2.extNo (h : Row2 w0 w Z vo out) (hx : Ext No w w') : Row2 w0 w' Z vo out := h.move (.no hx Z)
theorem Row2.val (h : Row2 w0 w Z vo out) : ∃ a cap, vo = .slice a out.length cap ∧ out.length ≤ cap := by
  obtain ⟨⟨base, _, _, h3⟩, _⟩ := h
  exact ownsRow_val h3
theorem Row2.nil (w0 : World) (Z : Nat → Prop) (hx : Ext No w0 w) : Row2 w0 w Z (.slice none 0 0) [] :=
  ⟨⟨w.heap.size, hx.size, Nat.le_refl _, World.ownsRow_nil _ _ _ _⟩, fun x h => by simp [OwnOf, Value.ownBlock] at h⟩
end

set_option maxRecDepth 100000 in
set_option maxHeartbeats 6400000 in
theorem zplayed38_spec (w : World) (pages : Int) (vd : Value) (ds : List Cl) (G : Nat → Prop) (hv : RdC G w vd ds) :
    Calls Try.prog 38 #[.int .i64 pages, vd] w fun e w' => ∃ z Z l ll D n vo out, e = .returned (.tuple #[.pointer (some ⟨z, 0, none⟩), vo]) ∧ ZT w w' z Z l ll D n ∧ Row2 w w' Z vo out ∧ ZO l ll.flatten D out ∧ (l.length : Int) = 1 + pages % 150 ∧ ll.length = 3 ∧ n ≤ 60 ∧ out.length ≤ 60 := by
  obtain ⟨ad, cd, rfl, hcd, hcd2⟩ := Rd.val hv
  obtain ⟨m, hm, hm2⟩ := modn pages 150 (by decide)
  go_enter Try.func38, Try.ntmps38
  go_wp2_with fail
  refine (bring_spec w pages 150 (by decide) (by decide)).mono ?_
  rintro e w1 ⟨rfl, rfl⟩
  rw [hm]
  have hw1 : IntKind.i64.wrap (1 + (m : Int)) = ((1 + m : Nat) : Int) := by rw [IntKind.wrap_i64]; omega
  go_wp2_with fail
  refine (zt_new w w (Ext.refl _ _) 3 (1 + m) (by omega) (by omega) (by omega) (by omega)).mono ?_
  rintro e w1 ⟨z, Z, rfl, hB, _, hx1⟩
  have hR0 := Row2.nil w Z hx1
  have hO0 := zo_new (n := 1 + m) (c := 3) (by omega) (by omega)
  have hl0 : (full (1 + m)).length = 1 + m := full_len _
  clear hx1
  go_wp2_with fail
  go_loopg [8, 9] 60 (fun g vo i wr => ∃ (k : Nat) (Z : Nat → Prop) (l : List T3) (ll : List (List Int)) (D : Dm) (n : Nat) (out : List PO), 60 - k ≤ g ∧ k ≤ ds.length ∧ k ≤ 60 ∧ i = .int .i64 k ∧ ZT w wr z Z l ll D n ∧ Row2 w wr Z vo out ∧ ZO l ll.flatten D out ∧ out.length ≤ k ∧ l.length = 1 + m ∧ ll.length = 3 ∧ n ≤ k)
  case atStart => exact ⟨0, Z, _, _, _, 0, [], by omega, by omega, by omega, rfl, hB, hR0, hO0, by simp, hl0, by simp, by omega⟩
  case round =>
    clear hB hR0 hO0 hl0
    obtain ⟨k, Z, l, ll, D, n, out, hg, hk1, hk2, rfl, hB, hR, hO, hol, hll, hl3, hnk⟩ := hrel
    obtain ⟨wz, hwz⟩ : ∃ wz, wr = wz := ⟨_, rfl⟩
    rw [hwz] at hB hR ⊢
    clear hwz
    have hg' := Lib.hid hg
    clear hg
    obtain ⟨ao, co, rfl, hco⟩ := hR.val
    by_cases hlt : k < ds.length ∧ k < 60
    · obtain ⟨hlt1, hlt2⟩ := hlt
      have hd1 : decide ((k : Int) < ds.length) = true := decide_eq_true (by omega)
      have hd2 : decide ((k : Int) < 60) = true := decide_eq_true (by omega)
      have hmax : n < maxLen := by unfold maxLen; omega
      obtain ⟨b, off, rfl, hbl, _, x0, x1, x2, x3⟩ := RdC.at hv hlt1
      obtain ⟨d, hdd⟩ : ∃ d, nth ds k = d := ⟨_, rfl⟩
      rw [hdd] at x0 x1 x2 x3
      clear hdd
      have y0 := hB.x.cell x0 id
      have y1 := hB.x.cell x1 id
      have y2 := hB.x.cell x2 id
      have y3 := hB.x.cell x3 id
      obtain ⟨cc, hcc, hcc2⟩ := modn d.a 3 (by decide)
      obtain ⟨kd, hkd, hkd2⟩ := modn d.op 4 (by decide)
      have hin : inR ll cc = true := by unfold inR; rw [decide_eq_true (by omega), decide_eq_true (by omega)]; rfl
      go_wp2_with fail
      refine (bring_spec wz d.a 3 (by decide) (by decide)).mono ?_
      rintro e w2 ⟨rfl, rfl⟩
      rw [hcc]
      go_wp2_with fail
      refine (bring_spec wz d.op 4 (by decide) (by decide)).mono ?_
      rintro e w2 ⟨rfl, rfl⟩
      rw [hkd]
      by_cases h3 : kd = 3
      · have hq3 : ((kd : Int) == 3) = true := by rw [beq_iff_eq]; omega
        obtain ⟨_, hO2, hl2, hll2⟩ := zdrain_plain hO hin
        have hspec := zt_drain hB cc
        obtain ⟨r, hr⟩ : ∃ r, zdrain l ll D cc = r := ⟨_, rfl⟩
        rw [hr] at hO2 hl2 hll2 hspec
        clear hr hO
        go_wp2_with fail
        refine hspec.mono ?_
        rintro e w3 ⟨rfl, Z3, hB3, hM3⟩
        have hR3 := hR.move hM3
        clear hB hR hM3 hspec x0 x1 x2 x3 y0 y1 y2 y3
        go_wp2_with fail
        go_roundg (60 - (k + 1))
        case measure => have := hg'.out; omega
        case rel => exact ⟨k + 1, Z3, _, _, _, n, out, by omega, by omega, by omega, by go_num, hB3, hR3, hO2, by omega, by omega, by omega, by omega⟩
      · have hq3 : ((kd : Int) == 3) = false := by rw [beq_eq_false_iff_ne]; omega
        by_cases hal : kd = 0 ∨ out.length = 0
        · obtain ⟨o, ho, ho2⟩ := modn d.b 4 (by decide)
          obtain ⟨c, hc, hc2⟩ := modn d.c 9 (by decide)
          have hr : Hid (((kd : Int) == 0) = true ∨ (((kd : Int) == 0) = false ∧ ((out.length : Int) == 0) = true)) := by
            show _ ∨ _
            by_cases h0 : kd = 0
            · exact .inl (by rw [beq_iff_eq]; omega)
            · exact .inr ⟨by rw [beq_eq_false_iff_ne]; omega, by rw [beq_iff_eq]; omega⟩
          clear hal
          have hP := zalloc_plain hO hin (o := o) (k := c) (by omega) (by omega)
          have hspec := zt_alloc hB hmax cc o c
          obtain ⟨r, hrr⟩ : ∃ r, zalloc l ll D cc o c = r := ⟨_, rfl⟩
          rw [hrr] at hP hspec
          clear hrr hO
          have hPl := hP.len
          have hPll := hP.lln
          have hP' := Lib.hid hP
          clear hP
          rcases hr.out with hq0 | ⟨hq0, hq1⟩
          all_goals
            go_wp2_with fail
            refine (bring_spec wz d.b 4 (by decide) (by decide)).mono ?_
            rintro e w3 ⟨rfl, rfl⟩
            rw [ho]
            go_wp2_with fail
            refine (bring_spec wz d.c 9 (by decide) (by decide)).mono ?_
            rintro e w3 ⟨rfl, rfl⟩
            rw [hc]
            go_wp2_with fail
            refine hspec.mono ?_
            rintro e w3 ⟨rfl, Z3, hB3, hM3⟩
            have hR3 := hR.move hM3
            clear hspec hB hR hM3 x0 x1 x2 x3 y0 y1 y2 y3
            by_cases he : r.e = 0
            · obtain ⟨p, hpx, hO3, _⟩ := hP'.out.yes he
              have he' : (r.e == 0) = true := by rw [he]; rfl
              obtain ⟨⟨base, hb1, hb2, hown3⟩, hdis⟩ := hR3
              rw [hpx]
              go_wp2_with (at_builtin; refine stop_here ?_)
              refine Stop.mk ?_
              have hxa : Ext No w3 (w3.alloc (.cells #[.int .i64 p, .int .i64 o] 132)) := (Ext.refl _ _).alloc _
              refine wpList_app (v := .slice ao out.length co) (m := 1) ty_po rfl _ _ rfl rfl (ownsRow_ext hown3 hxa (fun _ _ => id)) rfl (Rd.of_blk (n := 1) (Blk.new' rfl) rfl (by decide)) (by simp [Value.oneCell']) (by omega) (by unfold maxLen; omega) (by simp only [World.size_alloc]; omega) ?_
              intro v' w4 hown4 hx4 _ hfr4
              have hown4' : w4.ownsRow base 132 2 v' (out ++ [PO.mk p o]).length (poCells (out ++ [PO.mk p o])) := by
                rw [po_append, List.length_append]; exact hown4
              have hlt3 := hB3.lt
              have hB4 := (hB3.extNo hxa).ext hx4 (fun x hx h => hdis x h hx) (fun x h => by have := (hown3.lt x h).1; omega)
              have hR4 : Row2 w w4 Z3 v' (out ++ [PO.mk p o]) := ⟨⟨base, hb1, by have := hx4.size; simp only [World.size_alloc] at this; omega, hown4'⟩, fun x hx => by
                rcases hfr4 x hx with h | h
                · exact hdis x h
                · simp only [World.size_alloc] at h
                  exact fun hz => by have := hlt3 x hz; omega⟩
              clear hown4 hown4' hx4 hfr4 hB3 hown3 hxa hdis
              go_wp2_with fail
              go_roundg (60 - (k + 1))
              case measure => have := hg'.out; omega
              case rel => exact ⟨k + 1, Z3, _, _, _, n + 1, _, by omega, by omega, by omega, by go_num, hB4, hR4, hO3, by simp; omega, by omega, by omega, by omega⟩
            · obtain ⟨_, _, hO3, _, _⟩ := hP'.out.no he
              have he' : (r.e == 0) = false := by rw [beq_eq_false_iff_ne]; exact he
              go_wp2_with fail
              go_roundg (60 - (k + 1))
              case measure => have := hg'.out; omega
              case rel => exact ⟨k + 1, Z3, _, _, _, n + 1, out, by omega, by omega, by omega, by go_num, hB3, hR3, hO3, by omega, by omega, by omega, by omega⟩
        · have hq0 : ((kd : Int) == 0) = false := by rw [beq_eq_false_iff_ne]; intro h; exact hal (.inl (by omega))
          have hne : out.length ≠ 0 := fun h => hal (.inr h)
          have hq1 : ((out.length : Int) == 0) = false := by rw [beq_eq_false_iff_ne]; omega
          clear hal
          obtain ⟨j, hj, hj2⟩ := modn d.b out.length (by omega)
          have hjl : j < out.length := by omega
          have hO1 := hO.out_perm (rmvG_perm hjl).symm
          obtain ⟨he, hO2, hl2, hll2⟩ := zfree_plain hO1 hin
          have hspec := zt_free hB cc ((nth out j).p : Nat)
          obtain ⟨r, hr⟩ : ∃ r, zfree l ll D cc ((nth out j).p : Nat) = r := ⟨_, rfl⟩
          rw [hr] at he hO2 hl2 hll2 hspec
          rw [he] at hspec
          clear hr hO hO1 he
          have hRR := hR
          obtain ⟨⟨base, hb1, hb2, hown⟩, hdis⟩ := hR
          obtain ⟨bo, co', e, _, _, _, _, _, ⟨cj, _⟩, _, _⟩ := own2_at hown rfl hjl
          cases e
          clear hown hdis
          go_wp2_with fail
          refine (bring_spec wz d.b out.length (by omega) (by omega)).mono ?_
          rintro e w2 ⟨rfl, rfl⟩
          rw [hj]
          go_wp2_with fail
          refine hspec.mono ?_
          rintro e w3 ⟨rfl, Z3, hB3, hM3⟩
          obtain ⟨⟨base, hb1, hb2, hown3⟩, hdis⟩ := hRR.move hM3
          clear hspec hRR hB hM3 cj x0 x1 x2 x3 y0 y1 y2 y3
          obtain ⟨bo2, co2, e, _, _, hob, hbol3, _, ⟨cj0, cj1⟩, fj, hst⟩ := own2_at hown3 rfl hjl
          cases e
          obtain ⟨bo3, co3, e, _, _, _, _, _, ⟨cl0, cl1⟩, _, _⟩ := own2_at (k := out.length - 1) hown3 rfl (by omega)
          cases e
          have f0 := fj (j * 2)
          have f1 := fj (j * 2 + 1)
          have hset := hst (nth out (out.length - 1))
          have hstx : Ext (One bo) w3 ((w3.setCell ⟨bo, j * 2, none⟩ (.int .i64 ((nth out (out.length - 1)).p : Nat))).setCell ⟨bo, j * 2 + 1, none⟩ (.int .i64 ((nth out (out.length - 1)).o : Nat))) := (Ext.set1 _ _ _ _).transSame (Ext.set1 _ _ _ _)
          have hB4 := hB3.ext hstx (fun x hx (e : x = bo) => hdis bo hob (e ▸ hx)) (fun x (e : x = bo) => by have := (hown3.lt bo hob).1; omega)
          have htk := own2_take hset (m := out.length - 1) (by omega) (by omega)
          have hR4 : Row2 w ((w3.setCell ⟨bo, j * 2, none⟩ (.int .i64 ((nth out (out.length - 1)).p : Nat))).setCell ⟨bo, j * 2 + 1, none⟩ (.int .i64 ((nth out (out.length - 1)).o : Nat))) Z3 (.slice (some ⟨bo, 0, none⟩) (out.length - 1) co) (rmvG out j) :=
            ⟨⟨base, hb1, by simpa using hb2, by rw [rmvG_len hjl]; exact htk⟩, fun x hx => hdis x hx⟩
          have hl1 : IntKind.i64.wrap ((out.length : Int) - 1) = ((out.length - 1 : Nat) : Int) := by rw [IntKind.wrap_i64]; omega
          have hrl := rmvG_len hjl
          clear hst hset hstx htk hB3 hown3 hdis
          go_wp2_with fail
          go_roundg (60 - (k + 1))
          case measure => have := hg'.out; omega
          case rel => exact ⟨k + 1, Z3, _, _, _, n, rmvG out j, by omega, by omega, by omega, by go_num, hB4, hR4, hO2, by omega, by omega, by omega, by omega⟩
    · have hex : ¬ k < ds.length ∨ (k < ds.length ∧ ¬ k < 60) := by omega
      rcases hex with h1 | ⟨h1, h2⟩
      · have hd1 : decide ((k : Int) < ds.length) = false := decide_eq_false (by omega)
        go_wp2_with fail
        go_ret2
        exact ⟨z, Z, l, ll, D, n, _, out, rfl, hB, hR, hO, by omega, hl3, by omega, by omega⟩
      · have hd1 : decide ((k : Int) < ds.length) = true := decide_eq_true (by omega)
        have hd2 : decide ((k : Int) < 60) = false := decide_eq_false (by omega)
        go_wp2_with fail
        go_ret2
        exact ⟨z, Z, l, ll, D, n, _, out, rfl, hB, hR, hO, by omega, hl3, by omega, by omega⟩
end Go.Proofs.Ytjkknjohmekeiaa
