/- The document's near pages: Put. No condition but that a list is no longer than 1024. -/
import Derived.Test.YtjkknjohmekeiaaNearK
import Derived.Deep.CutRange
namespace Go.Proofs.Ytjkknjohmekeiaa
open Go.RowKit

theorem rnear_put_range (w : World) (nb lb base : Nat) (vs : List Value) (ll : List (List Int)) (cap : Int) (h : RR w nb lb base vs ll cap) (c page : Int) (hi : inR ll c = false) :
    Calls Try.prog 97 #[.pointer (some ⟨nb, 0, none⟩), .int .i64 c, .int .i64 page] w fun e w' => e = .returned (.tuple #[.slice none 0 0, .int .i64 9]) ∧ w = w' := by
  have hi' := Lib.hid hi; clear hi
  go_enter Try.func97, Try.ntmps97
  go_wp2_with fail
  refine (rnear_has1 w nb lb base vs ll cap h c).mono ?_
  rintro e w1 ⟨rfl, rfl⟩
  rw [hi'.out]
  go_wp2_with fail
  go_ret2
  exact ⟨rfl, rfl⟩
theorem rnear_put_page (w : World) (nb lb base : Nat) (vs : List Value) (ll : List (List Int)) (cap : Int) (h : RR w nb lb base vs ll cap) (c page : Int) (hi : inR ll c = true) (hp : page < 0 ∨ 1024 ≤ page) :
    Calls Try.prog 97 #[.pointer (some ⟨nb, 0, none⟩), .int .i64 c, .int .i64 page] w fun e w' => e = .returned (.tuple #[.slice none 0 0, .int .i64 9]) ∧ w = w' := by
  have hi' := Lib.hid hi; clear hi
  by_cases h0 : page < 0
  · clear hp
    go_enter Try.func97, Try.ntmps97
    go_wp2_with fail
    refine (rnear_has1 w nb lb base vs ll cap h c).mono ?_
    rintro e w1 ⟨rfl, rfl⟩
    rw [hi'.out]
    go_wp2_with fail
    go_ret2
    exact ⟨rfl, rfl⟩
  · have h1 : 1024 ≤ page := by omega
    clear hp
    go_enter Try.func97, Try.ntmps97
    go_wp2_with fail
    refine (rnear_has1 w nb lb base vs ll cap h c).mono ?_
    rintro e w1 ⟨rfl, rfl⟩
    rw [hi'.out]
    go_wp2_with fail
    go_ret2
    exact ⟨rfl, rfl⟩
theorem rnear_put_has (w : World) (nb lb base : Nat) (vs : List Value) (ll : List (List Int)) (cap : Int) (h : RR w nb lb base vs ll cap) (c page : Int) (hi : inR ll c = true) (hp0 : 0 ≤ page) (hp1 : page < 1024) (hh : hasIn ll page = true) :
    Calls Try.prog 97 #[.pointer (some ⟨nb, 0, none⟩), .int .i64 c, .int .i64 page] w fun e w' => e = .returned (.tuple #[.slice none 0 0, .int .i64 60]) ∧ w = w' := by
  have hi' := Lib.hid hi; clear hi
  go_enter Try.func97, Try.ntmps97
  go_wp2_with fail
  refine (rnear_has1 w nb lb base vs ll cap h c).mono ?_
  rintro e w1 ⟨rfl, rfl⟩
  rw [hi'.out]
  go_wp2_with fail
  refine (rnear_has w nb lb base vs ll cap h page).mono ?_
  rintro e w1 ⟨rfl, rfl⟩
  rw [hh]
  go_wp2_with fail
  go_ret2
  exact ⟨rfl, rfl⟩

set_option maxRecDepth 100000 in
set_option maxHeartbeats 1600000 in
theorem rnear_put_fit (w : World) (nb lb base : Nat) (vs : List Value) (ll : List (List Int)) (cap : Int) (h : RR w nb lb base vs ll cap) (hb : base ≤ w.heap.size) (c : Nat) (hc : c < ll.length) (page : Int) (hp0 : 0 ≤ page) (hp1 : page < 1024) (hh : hasIn ll page = false)
    (hlen : (nth ll c).length ≤ 1024) (hfit : ((nth ll c).length : Int) + 1 ≤ cap) :
    Calls Try.prog 97 #[.pointer (some ⟨nb, 0, none⟩), .int .i64 c, .int .i64 page] w fun e w' => e = .returned (.tuple #[.slice none 0 0, .int .i64 0]) ∧
      (∃ v', RR w' nb lb base (vs.set c v') (ll.set c (nth ll c ++ [page])) cap ∧ ∀ x, OwnOf v' x → w.heap.size ≤ x) ∧ Ext (One lb) w w' := by
  have hi' : Hid (inR ll (c : Int) = true) := by show _ = _; unfold inR; simp [hc]
  have n0 := h.n.cell' (i := 0) rfl
  have hrow := h.rows c hc
  obtain ⟨av, cv, ev, hcv⟩ := ownsRow_val hrow
  have c0 := h.l.cell' (i := c) (v := nth vs c) (nth_some (by rw [h.len]; exact hc))
  rw [ev] at c0 hrow
  have hn := h.nums
  go_enter Try.func97, Try.ntmps97
  go_wp2_with fail
  refine (rnear_has1 w nb lb base vs ll cap h c).mono ?_
  rintro e w1 ⟨rfl, rfl⟩
  rw [hi'.out]
  go_wp2_with fail
  refine (rnear_has w nb lb base vs ll cap h page).mono ?_
  rintro e w1 ⟨rfl, rfl⟩
  rw [hh]
  go_wp2_with fail
  refine (copyInts_spec _ _ (nth ll c) _ (Rd.of_own hrow) (by omega)).mono ?_
  rintro e w2 ⟨r2, rfl, ⟨_, ho2⟩, hx2⟩
  obtain ⟨a2, c2, rfl, hcv2⟩ := ownsRow_val ho2
  clear n0 c0
  go_wp2_with (at_builtin; refine stop_here ?_)
  refine Stop.mk ?_
  have hxa : Ext No w2 (w2.alloc (.cells #[.int .i64 page] 3)) := (Ext.refl _ _).alloc _
  have hz2 := hx2.size
  refine wpList_app (v := .slice a2 (nth ll c).length c2) (m := 1) ty_int rfl _ _ rfl rfl (ownsRow_ext ho2 hxa (fun _ _ => id)) rfl (Rd.of_blk (n := 1) (Blk.new' rfl) rfl (by decide)) (by simp [Value.oneCell']) (by omega) (by unfold maxLen; omega) (by simp only [World.size_alloc]; omega) ?_
  intro v' w3 hown3 hx3 hnil hfr3
  obtain ⟨aw, cw, rfl, hcw⟩ := ownsRow_val hown3
  have e7 : (nth ll c).map int ++ [.int .i64 page] = (nth ll c ++ [page]).map int := by simp [int]
  rw [e7] at hown3
  have hX : Ext No w w3 := (hx2.transNo hxa).trans hx3 (fun x hx ho => by have := (ho2.lt x ho).1; omega)
  have h3 := h.ext hX (fun _ _ => id)
  have n3 := h3.n.cell' (i := 0) rfl
  have n31 := h3.n.cell' (i := 1) rfl
  have c3 := h3.l.cell' (i := c) (v := nth vs c) (nth_some (by rw [h.len]; exact hc))
  have f3 := h3.l.frozen c
  rw [ev] at c3
  have hnew : ∀ x, OwnOf (.slice aw ((nth ll c).length + 1) cw) x → w.heap.size ≤ x := fun x hx => by have := (hown3.lt x hx).1; omega
  have e1 : (nth ll c ++ [page]).length = (nth ll c).length + 1 := by simp
  have hput := h3.put c hc (.slice aw ((nth ll c).length + 1) cw) (nth ll c ++ [page]) (by rw [e1]; exact ownsRow_base hown3 (by omega)) (fun j x hj _ ho ho2 => by have := hnew x ho; have := ((h.rows j hj).lt x ho2).2; omega)
  have hput' := Lib.hid hput; clear hput
  have n31' : (w3.setCell ⟨lb, c, none⟩ (.slice aw ((nth ll c).length + 1) cw)).cell? ⟨nb, 1, none⟩ = some (.int .i64 cap) := (Ext.set1 w3 lb c (.slice aw ((nth ll c).length + 1) cw)).cell n31 (fun e => hn.1 e)
  clear e7 e1 ev
  go_wp2_with fail
  go_ret2
  exact ⟨rfl, ⟨_, hput'.out, hnew⟩, hX.of_no.trans (Ext.set1 _ _ _ _) (fun _ _ h => h)⟩

theorem NearR.extNo {w w' : World} {nb lb base : Nat} {vs : List Value} {ll : List (List Int)} {cap : Int} {T : TypeId} (h : NearR w nb lb base vs ll cap T) (hx : Ext No w w') : NearR w' nb lb base vs ll cap T := h.ext hx (fun _ _ => id)

set_option maxRecDepth 100000 in
set_option maxHeartbeats 3200000 in
theorem rnear_put_spill (w : World) (nb lb base : Nat) (vs : List Value) (ll : List (List Int)) (cap : Int) (h : RR w nb lb base vs ll cap) (hb : base ≤ w.heap.size) (c : Nat) (hc : c < ll.length) (page : Int) (hp0 : 0 ≤ page) (hp1 : page < 1024) (hh : hasIn ll page = false)
    (hlen : (nth ll c).length ≤ 1024) (hfit : cap < ((nth ll c).length : Int) + 1) (k : Nat) (hk : ((nth ll c).length + 2) / 2 = k) :
    Calls Try.prog 97 #[.pointer (some ⟨nb, 0, none⟩), .int .i64 c, .int .i64 page] w fun e w' => ∃ r, e = .returned (.tuple #[r, .int .i64 0]) ∧ w'.ownsRow w.heap.size 3 1 r k (((nth ll c ++ [page]).take k).map int) ∧
      (∃ v', RR w' nb lb base (vs.set c v') (ll.set c ((nth ll c ++ [page]).drop k)) cap ∧ (∀ x, OwnOf v' x → w.heap.size ≤ x) ∧ ∀ x, OwnOf r x → ¬ OwnOf v' x) ∧ Ext (One lb) w w' := by
  have hi' : Hid (inR ll (c : Int) = true) := by show _ = _; unfold inR; simp [hc]
  have n0 := h.n.cell' (i := 0) rfl
  have hrow := h.rows c hc
  obtain ⟨av, cv, ev, hcv⟩ := ownsRow_val hrow
  have c0 := h.l.cell' (i := c) (v := nth vs c) (nth_some (by rw [h.len]; exact hc))
  rw [ev] at c0 hrow
  have hn := h.nums
  go_enter Try.func97, Try.ntmps97
  go_wp2_with fail
  refine (rnear_has1 w nb lb base vs ll cap h c).mono ?_
  rintro e w1 ⟨rfl, rfl⟩
  rw [hi'.out]
  go_wp2_with fail
  refine (rnear_has w nb lb base vs ll cap h page).mono ?_
  rintro e w1 ⟨rfl, rfl⟩
  rw [hh]
  go_wp2_with fail
  refine (copyInts_spec _ _ (nth ll c) _ (Rd.of_own hrow) (by omega)).mono ?_
  rintro e w2 ⟨r2, rfl, ⟨_, ho2⟩, hx2⟩
  obtain ⟨a2, c2, rfl, hcv2⟩ := ownsRow_val ho2
  clear n0 c0
  go_wp2_with (at_builtin; refine stop_here ?_)
  refine Stop.mk ?_
  have hxa : Ext No w2 (w2.alloc (.cells #[.int .i64 page] 3)) := (Ext.refl _ _).alloc _
  have hz2 := hx2.size
  refine wpList_app (v := .slice a2 (nth ll c).length c2) (m := 1) ty_int rfl _ _ rfl rfl (ownsRow_ext ho2 hxa (fun _ _ => id)) rfl (Rd.of_blk (n := 1) (Blk.new' rfl) rfl (by decide)) (by simp [Value.oneCell']) (by omega) (by unfold maxLen; omega) (by simp only [World.size_alloc]; omega) ?_
  intro v' w3 hown3 hx3 hnil hfr3
  obtain ⟨aw, cw, rfl, hcw⟩ := ownsRow_val hown3
  have e7 : (nth ll c).map int ++ [.int .i64 page] = (nth ll c ++ [page]).map int := by simp [int]
  rw [e7] at hown3
  have hX : Ext No w w3 := (hx2.transNo hxa).trans hx3 (fun x hx ho => by have := (ho2.lt x ho).1; omega)
  have h3 := h.extNo hX
  have n3 := h3.n.cell' (i := 0) rfl
  have n31 := h3.n.cell' (i := 1) rfl
  have c3 := h3.l.cell' (i := c) (v := nth vs c) (nth_some (by rw [h.len]; exact hc))
  have f3 := h3.l.frozen c
  rw [ev] at c3
  have hkn : k ≤ (nth ll c).length + 1 := by omega
  obtain ⟨ab, rfl, hob, hcw2, hcw3, hsub⟩ := own_sub2 (k := k) hown3 (by omega) hkn
  have hnew : ∀ x, OwnOf (.slice (some ⟨ab, 0, none⟩) ((nth ll c).length + 1) cw) x → w.heap.size ≤ x := fun x hx => by have := (hown3.lt x hx).1; omega
  have e1 : (nth ll c ++ [page]).length = (nth ll c).length + 1 := by simp
  have hput := h3.put c hc (.slice (some ⟨ab, 0, none⟩) ((nth ll c).length + 1) cw) (nth ll c ++ [page]) (by rw [e1]; exact ownsRow_base hown3 (by omega)) (fun j x hj _ ho ho2 => by have := hnew x ho; have := ((h.rows j hj).lt x ho2).2; omega)
  have hset4 : Ext (One lb) w3 (w3.setCell ⟨lb, c, none⟩ (.slice (some ⟨ab, 0, none⟩) ((nth ll c).length + 1) cw)) := Ext.set1 _ _ _ _
  have hab : ab ≠ lb := fun e => by have := hnew ab hob; omega
  have hsub4 := hsub.ext hset4 (fun x (e : x = ab) (e2 : x = lb) => hab (e ▸ e2))
  have hrow4 := ownsRow_ext hown3 hset4 (fun x hx (e : x = lb) => by have := hnew x hx; omega)
  clear e7 e1 ev hsub hown3 n31
  go_upto_region 7 with (fail)
  obtain ⟨W4, hW4⟩ : ∃ W4, w3.setCell ⟨lb, c, none⟩ (.slice (some ⟨ab, 0, none⟩) ((nth ll c).length + 1) cw) = W4 := ⟨_, rfl⟩
  rw [hW4] at hput hset4 hsub4 hrow4 ⊢
  have h4 := hput
  have n40 : W4.cell? ⟨nb, 0, none⟩ = some (.slice (some ⟨lb, 0, none⟩) ll.length ll.length) := by have := h4.n.cell' (i := 0) rfl; simpa using this
  have n41 := h4.n.cell' (i := 1) rfl
  have c4 : W4.cell? ⟨lb, c, none⟩ = some (.slice (some ⟨ab, 0, none⟩) ((nth ll c).length + 1) cw) := by rw [← hW4]; exact (h3.l.set c _).cell' (by rw [List.getElem?_set_self (by rw [h.len]; exact hc)])
  have f4 := h4.l.frozen c
  clear hW4 hput c3 f3 n3
  by_cases hck : cw = k
  · have hdr : Hid ((nth ll c ++ [page]).drop k = []) := by show _ = _; apply List.drop_of_length_le; simp; omega
    have hck1 : cw - k = 0 := by omega
    have hsubE : RdI (One ab) W4 (.slice (some ⟨ab, 0, none⟩) 0 0) ((nth ll c ++ [page]).drop k) := by
      have e0 : ((nth ll c ++ [page]).drop k).length = 0 := by rw [hdr.out]; rfl
      unfold RdI
      rw [e0]
      refine ⟨_, _, rfl, by simp; omega, by omega, by unfold maxLen; omega, fun hne => absurd (by rw [hdr.out]; rfl) hne⟩
    have hck' : k = cw := hck.symm
    clear hck hck1
    subst hck'
    go_wp2_with fail
    have ek : ((nth ll c).length + 1 + 1 : Int) / 2 = (k : Int) := by omega
    have hk0 : (0 : Int) ≤ (k : Int) := by omega
    have hk1 : (k : Int) ≤ (nth ll c).length + 1 := by omega
    rw [ek]
    have ek' := Lib.hid ek; clear ek
    have hxS : Ext No W4 W4.drew := (Ext.refl No W4).drew
    refine anyZ_begin 10 (fun w' => w'.cell? ⟨nb, 0, none⟩ = some (.slice (some ⟨lb, 0, none⟩) ll.length ll.length)) (by kernel_rfl) ?_
    have hC : (fun w' : World => w'.cell? ⟨nb, 0, none⟩ = some (.slice (some ⟨lb, 0, none⟩) ll.length ll.length)) W4.drew := n40
    refine anyZ_take 0 (v := ?_) rfl (by kernel_rfl) (by kernel_rfl) (by kernel_rfl) (by kernel_rfl) (fun _ _ _ h => h) hC (Or.inl ⟨by rfl, ?_⟩) ?_
    rotate_left
    · (intro wq hq; (try dsimp only at hq); go_simp; with_reducible rfl)
    simp only [Act.put, List.setIfInBounds_toArray, List.set_cons_zero, List.set_cons_succ]
    refine anyZ_take 1 (v := ?_) rfl (by kernel_rfl) (by kernel_rfl) (by kernel_rfl) (by kernel_rfl) (fun _ _ _ h => h) hC (Or.inl ⟨by rfl, ?_⟩) ?_
    rotate_left
    · (intro wq hq; (try dsimp only at hq); go_simp; with_reducible rfl)
    simp only [Act.put, List.setIfInBounds_toArray, List.set_cons_zero, List.set_cons_succ]
    refine anyZ_take 2 (v := ?_) rfl (by kernel_rfl) (by kernel_rfl) (by kernel_rfl) (by kernel_rfl) (fun _ _ _ h => h) hC (Or.inl ⟨by rfl, ?_⟩) ?_
    rotate_left
    · (intro wq hq; (try dsimp only at hq); go_simp; with_reducible rfl)
    simp only [Act.put, List.setIfInBounds_toArray, List.set_cons_zero, List.set_cons_succ]
    refine anyZ_take 3 (v := ?_) rfl (by kernel_rfl) (by kernel_rfl) (by kernel_rfl) (by kernel_rfl) (fun _ _ _ h => h) hC (Or.inl ⟨by rfl, ?_⟩) ?_
    rotate_left
    · (intro wq hq; (try dsimp only at hq); go_simp; with_reducible rfl)
    simp only [Act.put, List.setIfInBounds_toArray, List.set_cons_zero, List.set_cons_succ]
    refine anyZ_take 4 (v := ?_) rfl (by kernel_rfl) (by kernel_rfl) (by kernel_rfl) (by kernel_rfl) (fun _ _ _ h => h) hC (Or.inl ⟨by rfl, ?_⟩) ?_
    rotate_left
    · (intro wq hq; (try dsimp only at hq); go_simp; with_reducible rfl)
    simp only [Act.put, List.setIfInBounds_toArray, List.set_cons_zero, List.set_cons_succ]
    refine anyZ_take 5 (v := ?_) rfl (by kernel_rfl) (by kernel_rfl) (by kernel_rfl) (by kernel_rfl) (fun _ _ _ h => h) hC (Or.inl ⟨by rfl, ?_⟩) ?_
    rotate_left
    · (intro wq hq; (try dsimp only at hq); go_simp; with_reducible rfl)
    simp only [Act.put, List.setIfInBounds_toArray, List.set_cons_zero, List.set_cons_succ]
    refine anyZ_take 6 (v := ?_) rfl (by kernel_rfl) (by kernel_rfl) (by kernel_rfl) (by kernel_rfl) (fun _ _ _ h => h) hC (Or.inl ⟨by rfl, ?_⟩) ?_
    rotate_left
    · (intro wq hq; (try dsimp only at hq); go_simp; with_reducible rfl)
    simp only [Act.put, List.setIfInBounds_toArray, List.set_cons_zero, List.set_cons_succ]
    refine anyZ_take 7 (v := ?_) rfl (by kernel_rfl) (by kernel_rfl) (by kernel_rfl) (by kernel_rfl) (fun _ _ _ h => h) hC (Or.inl ⟨by rfl, ?_⟩) ?_
    rotate_left
    · (intro wq hq; (try dsimp only at hq); go_simp; with_reducible rfl)
    simp only [Act.put, List.setIfInBounds_toArray, List.set_cons_zero, List.set_cons_succ]
    refine anyZ_step 8 rfl (by kernel_rfl) (fun K hK => ?_)
    go_simp
    refine (copyInts_spec _ _ ((nth ll c ++ [page]).drop k) _ (hsubE.extNo hxS) (by simp; omega)).mono ?_
    rintro e w5 ⟨r5, rfl, ⟨_, ho5⟩, hx5⟩
    obtain ⟨a5, c5, rfl, hcv5⟩ := ownsRow_val ho5
    have hx5 := hxS.transNo hx5
    have hC5 : (fun w' : World => w'.cell? ⟨nb, 0, none⟩ = some (.slice (some ⟨lb, 0, none⟩) ll.length ll.length)) w5 := hx5.cell n40 id
    have h5 := h4.extNo hx5
    have f5 := h5.l.frozen c
    have c5' : w5.cell? ⟨lb, c, none⟩ = some (.slice (some ⟨ab, 0, none⟩) ((nth ll c).length + 1) k) := hx5.cell c4 id
    refine hK _ _ hC5 ?_
    clear hK K
    try simp only [Act.put, List.setIfInBounds_toArray, List.set_cons_zero, List.set_cons_succ]
    refine anyZ_take 9 (v := ?_) rfl (by kernel_rfl) (by kernel_rfl) (by kernel_rfl) (by kernel_rfl) (fun _ _ _ h => h) hC5 (Or.inl ⟨by rfl, ?_⟩) ?_
    rotate_left
    · (intro wq hq; (try dsimp only at hq); go_simp; with_reducible rfl)
    simp only [Act.put, List.setIfInBounds_toArray, List.set_cons_zero, List.set_cons_succ]
    refine anyZ_last rfl (by kernel_rfl) (fun K hK => ?_)
    go_simp
    refine hK _ _ ?_
    clear hK K
    try simp only [Act.put, List.setIfInBounds_toArray, List.set_cons_zero, List.set_cons_succ]
    refine anyZ_done (by kernel_rfl) ?_ _
    have hsz5 : w.heap.size ≤ w5.heap.size := by have := hX.size; have := hx5.size; have := hset4.size; omega
    have hw4 : w.heap.size ≤ W4.heap.size := by have := hX.size; have := hset4.size; omega
    have hnew5 : ∀ x, OwnOf (.slice a5 ((nth ll c ++ [page]).drop k).length c5) x → w.heap.size ≤ x := fun x hx => by have := (ho5.lt x hx).1; simp only [World.size_drew] at this; omega
    have hput5 := h5.put c (by simpa using hc) (.slice a5 ((nth ll c ++ [page]).drop k).length c5) ((nth ll c ++ [page]).drop k) (ownsRow_base ho5 (by simp only [World.size_drew]; omega)) (fun j x hj hjc ho ho2 => by
      rw [List.length_set] at hj
      rw [nth_set_ne _ (by rw [h.len]; exact hj) hjc] at ho2
      have := hnew5 x ho; have := ((h.rows j hj).lt x ho2).2; omega)
    rw [List.set_set, List.set_set] at hput5
    have e6 : ((nth ll c ++ [page]).drop k).length = 0 := by rw [hdr.out]; rfl
    have hset5 : Ext (One lb) w5 (w5.setCell ⟨lb, c, none⟩ (.slice a5 ((nth ll c ++ [page]).drop k).length c5)) := Ext.set1 _ _ _ _
    have hrow6 := ownsRow_ext (ownsRow_ext hrow4 hx5 (fun _ _ => id)) hset5 (fun x hx (e : x = lb) => by have := (hrow4.lt x hx).1; omega)
    have hsh := own_shrink hrow6 hkn (by simp)
    rw [← List.map_take] at hsh
    have e8 : ((nth ll c ++ [page]).take k).length = k := by simp; omega
    rw [e6] at hput5 hset5 hnew5 hsh
    have hput5' := Lib.hid hput5
    have hX5 : Hid (Ext (One lb) w (w5.setCell ⟨lb, c, none⟩ (.slice a5 0 c5))) := ((hX.of_no.trans hset4 (fun _ _ h => h)).transNo hx5).trans hset5 (fun _ _ h => h)
    have hkcw : (k : Int) ≤ k := Int.le_refl _
    clear hput5 hC5 hC e6 hx5 f5 c5' hset4 hset5
    go_wp2_with fail
    refine (copyInts_spec _ _ ((nth ll c ++ [page]).take k) _ (by have := Rd.of_own hsh; rw [show (nth ll c ++ [page]).take k = (nth ll c ++ [page]).take k from rfl]; unfold RdI; rw [e8]; exact this) (by rw [e8]; omega)).mono ?_
    rintro e w7 ⟨r7, rfl, ⟨_, ho7⟩, hx7⟩
    go_wp2_with fail
    go_ret2
    rw [e8] at ho7
    refine ⟨_, rfl, ownsRow_base ho7 (by have := hX5.out.size; omega), ⟨_, hput5'.out.extNo hx7, hnew5, fun x hx ho => ?_⟩, hX5.out.transNo hx7⟩
    have h1 := (ho7.lt x hx).1
    have h2 := (ho5.lt x (by rw [hdr.out]; exact ho)).2
    simp only [World.size_setCell] at h1
    omega
  have hck2 : 0 < cw - k := by omega
  go_wp2_with fail
  have ek : ((nth ll c).length + 1 + 1 : Int) / 2 = (k : Int) := by omega
  have hk0 : (0 : Int) ≤ (k : Int) := by omega
  have hk1 : (k : Int) ≤ (nth ll c).length + 1 := by omega
  rw [ek]
  have ek' := Lib.hid ek; clear ek
  have hxS : Ext No W4 W4.drew := (Ext.refl No W4).drew
  refine anyZ_begin 10 (fun w' => w'.cell? ⟨nb, 0, none⟩ = some (.slice (some ⟨lb, 0, none⟩) ll.length ll.length)) (by kernel_rfl) ?_
  have hC : (fun w' : World => w'.cell? ⟨nb, 0, none⟩ = some (.slice (some ⟨lb, 0, none⟩) ll.length ll.length)) W4.drew := n40
  refine anyZ_take 0 (v := ?_) rfl (by kernel_rfl) (by kernel_rfl) (by kernel_rfl) (by kernel_rfl) (fun _ _ _ h => h) hC (Or.inl ⟨by rfl, ?_⟩) ?_
  rotate_left
  · (intro wq hq; (try dsimp only at hq); go_simp; with_reducible rfl)
  simp only [Act.put, List.setIfInBounds_toArray, List.set_cons_zero, List.set_cons_succ]
  refine anyZ_take 1 (v := ?_) rfl (by kernel_rfl) (by kernel_rfl) (by kernel_rfl) (by kernel_rfl) (fun _ _ _ h => h) hC (Or.inl ⟨by rfl, ?_⟩) ?_
  rotate_left
  · (intro wq hq; (try dsimp only at hq); go_simp; with_reducible rfl)
  simp only [Act.put, List.setIfInBounds_toArray, List.set_cons_zero, List.set_cons_succ]
  refine anyZ_take 2 (v := ?_) rfl (by kernel_rfl) (by kernel_rfl) (by kernel_rfl) (by kernel_rfl) (fun _ _ _ h => h) hC (Or.inl ⟨by rfl, ?_⟩) ?_
  rotate_left
  · (intro wq hq; (try dsimp only at hq); go_simp; with_reducible rfl)
  simp only [Act.put, List.setIfInBounds_toArray, List.set_cons_zero, List.set_cons_succ]
  refine anyZ_take 3 (v := ?_) rfl (by kernel_rfl) (by kernel_rfl) (by kernel_rfl) (by kernel_rfl) (fun _ _ _ h => h) hC (Or.inl ⟨by rfl, ?_⟩) ?_
  rotate_left
  · (intro wq hq; (try dsimp only at hq); go_simp; with_reducible rfl)
  simp only [Act.put, List.setIfInBounds_toArray, List.set_cons_zero, List.set_cons_succ]
  refine anyZ_take 4 (v := ?_) rfl (by kernel_rfl) (by kernel_rfl) (by kernel_rfl) (by kernel_rfl) (fun _ _ _ h => h) hC (Or.inl ⟨by rfl, ?_⟩) ?_
  rotate_left
  · (intro wq hq; (try dsimp only at hq); go_simp; with_reducible rfl)
  simp only [Act.put, List.setIfInBounds_toArray, List.set_cons_zero, List.set_cons_succ]
  refine anyZ_take 5 (v := ?_) rfl (by kernel_rfl) (by kernel_rfl) (by kernel_rfl) (by kernel_rfl) (fun _ _ _ h => h) hC (Or.inl ⟨by rfl, ?_⟩) ?_
  rotate_left
  · (intro wq hq; (try dsimp only at hq); go_simp; with_reducible rfl)
  simp only [Act.put, List.setIfInBounds_toArray, List.set_cons_zero, List.set_cons_succ]
  refine anyZ_take 6 (v := ?_) rfl (by kernel_rfl) (by kernel_rfl) (by kernel_rfl) (by kernel_rfl) (fun _ _ _ h => h) hC (Or.inl ⟨by rfl, ?_⟩) ?_
  rotate_left
  · (intro wq hq; (try dsimp only at hq); go_simp; with_reducible rfl)
  simp only [Act.put, List.setIfInBounds_toArray, List.set_cons_zero, List.set_cons_succ]
  refine anyZ_take 7 (v := ?_) rfl (by kernel_rfl) (by kernel_rfl) (by kernel_rfl) (by kernel_rfl) (fun _ _ _ h => h) hC (Or.inl ⟨by rfl, ?_⟩) ?_
  rotate_left
  · (intro wq hq; (try dsimp only at hq); go_simp; with_reducible rfl)
  simp only [Act.put, List.setIfInBounds_toArray, List.set_cons_zero, List.set_cons_succ]
  refine anyZ_step 8 rfl (by kernel_rfl) (fun K hK => ?_)
  go_simp
  refine (copyInts_spec _ _ ((nth ll c ++ [page]).drop k) _ (hsub4.extNo hxS) (by simp; omega)).mono ?_
  rintro e w5 ⟨r5, rfl, ⟨_, ho5⟩, hx5⟩
  obtain ⟨a5, c5, rfl, hcv5⟩ := ownsRow_val ho5
  have hx5 := hxS.transNo hx5
  have hC5 : (fun w' : World => w'.cell? ⟨nb, 0, none⟩ = some (.slice (some ⟨lb, 0, none⟩) ll.length ll.length)) w5 := hx5.cell n40 id
  have h5 := h4.extNo hx5
  have f5 := h5.l.frozen c
  have c5' : w5.cell? ⟨lb, c, none⟩ = some (.slice (some ⟨ab, 0, none⟩) ((nth ll c).length + 1) cw) := hx5.cell c4 id
  refine hK _ _ hC5 ?_
  clear hK K
  try simp only [Act.put, List.setIfInBounds_toArray, List.set_cons_zero, List.set_cons_succ]
  refine anyZ_take 9 (v := ?_) rfl (by kernel_rfl) (by kernel_rfl) (by kernel_rfl) (by kernel_rfl) (fun _ _ _ h => h) hC5 (Or.inl ⟨by rfl, ?_⟩) ?_
  rotate_left
  · (intro wq hq; (try dsimp only at hq); go_simp; with_reducible rfl)
  simp only [Act.put, List.setIfInBounds_toArray, List.set_cons_zero, List.set_cons_succ]
  refine anyZ_last rfl (by kernel_rfl) (fun K hK => ?_)
  go_simp
  refine hK _ _ ?_
  clear hK K
  try simp only [Act.put, List.setIfInBounds_toArray, List.set_cons_zero, List.set_cons_succ]
  refine anyZ_done (by kernel_rfl) ?_ _
  have hsz5 : w.heap.size ≤ w5.heap.size := by have := hX.size; have := hx5.size; have := hset4.size; omega
  have hw4 : w.heap.size ≤ W4.heap.size := by have := hX.size; have := hset4.size; omega
  have hnew5 : ∀ x, OwnOf (.slice a5 ((nth ll c ++ [page]).drop k).length c5) x → w.heap.size ≤ x := fun x hx => by have := (ho5.lt x hx).1; simp only [World.size_drew] at this; omega
  have hput5 := h5.put c (by simpa using hc) (.slice a5 ((nth ll c ++ [page]).drop k).length c5) ((nth ll c ++ [page]).drop k) (ownsRow_base ho5 (by simp only [World.size_drew]; omega)) (fun j x hj hjc ho ho2 => by
    rw [List.length_set] at hj
    rw [nth_set_ne _ (by rw [h.len]; exact hj) hjc] at ho2
    have := hnew5 x ho; have := ((h.rows j hj).lt x ho2).2; omega)
  rw [List.set_set, List.set_set] at hput5
  have e6 : ((nth ll c ++ [page]).drop k).length = (nth ll c).length + 1 - k := by simp
  have hset5 : Ext (One lb) w5 (w5.setCell ⟨lb, c, none⟩ (.slice a5 ((nth ll c ++ [page]).drop k).length c5)) := Ext.set1 _ _ _ _
  have hrow6 := ownsRow_ext (ownsRow_ext hrow4 hx5 (fun _ _ => id)) hset5 (fun x hx (e : x = lb) => by have := (hrow4.lt x hx).1; omega)
  have hsh := own_shrink hrow6 hkn (by simp)
  rw [← List.map_take] at hsh
  have e8 : ((nth ll c ++ [page]).take k).length = k := by simp; omega
  rw [e6] at hput5 hset5 hnew5 hsh
  have hput5' := Lib.hid hput5
  have hX5 : Hid (Ext (One lb) w (w5.setCell ⟨lb, c, none⟩ (.slice a5 ((nth ll c).length + 1 - k) c5))) := ((hX.of_no.trans hset4 (fun _ _ h => h)).transNo hx5).trans hset5 (fun _ _ h => h)
  have hkcw : (k : Int) ≤ cw := by omega
  clear hput5 hC5 hC e6 hx5 f5 c5' hset4 hset5
  go_wp2_with fail
  refine (copyInts_spec _ _ ((nth ll c ++ [page]).take k) _ (by have := Rd.of_own hsh; rw [show (nth ll c ++ [page]).take k = (nth ll c ++ [page]).take k from rfl]; unfold RdI; rw [e8]; exact this) (by rw [e8]; omega)).mono ?_
  rintro e w7 ⟨r7, rfl, ⟨_, ho7⟩, hx7⟩
  go_wp2_with fail
  go_ret2
  rw [e8] at ho7
  refine ⟨_, rfl, ownsRow_base ho7 (by have := hX5.out.size; omega), ⟨_, hput5'.out.extNo hx7, hnew5, fun x hx ho => ?_⟩, hX5.out.transNo hx7⟩
  have h1 := (ho7.lt x hx).1
  have h2 := (ho5.lt x (by rw [show ((nth ll c ++ [page]).drop k).length = (nth ll c).length + 1 - k by simp]; exact ho)).2
  simp only [World.size_setCell] at h1
  omega
end Go.Proofs.Ytjkknjohmekeiaa
