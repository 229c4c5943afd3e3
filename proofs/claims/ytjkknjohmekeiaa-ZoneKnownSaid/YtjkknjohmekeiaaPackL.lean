/- Texts of ours, one behind the other (NearL, NearM, NearN, NearQ): each says in its own first lines what it proves. No condition. -/
import Derived.Test.YtjkknjohmekeiaaPackK
import Derived.Deep.CutRange
/- The document's near pages: Put. No condition but that a list is no longer than 1024. -/
namespace Go.Proofs.Ytjkknjohmekeiaa
open Go.RowKit

theorem rnear_put_range (w : World) (nb lb base : Nat) (vs : List Value) (ll : List (List Int)) (cap : Int) (h : RR w nb lb base vs ll cap) (c page : Int) (hi : inR ll c = false) :
    Calls Try.prog 97 #[.pointer (some ⟨nb, 0, none⟩), .int .i64 c, .int .i64 page] w fun e w' => e = .returned (.tuple #[.slice none 0 0, .int .i64 9]) ∧ w = w' := by
  have hi' := Lib.hid hi; clear hi
  go_enter Try.func97, Try.ntmps97
  go_wp2_with fail
  refine (rnear_has1 w nb lb base vs ll cap h c).mono ?_
  rintro e w1 ⟨rfl, rfl⟩
  rw [hi'.out]
  go_wp2_with fail
  go_ret2
  exact ⟨rfl, rfl⟩
theorem rnear_put_page (w : World) (nb lb base : Nat) (vs : List Value) (ll : List (List Int)) (cap : Int) (h : RR w nb lb base vs ll cap) (c page : Int) (hi : inR ll c = true) (hp : page < 0 ∨ 1024 ≤ page) :
    Calls Try.prog 97 #[.pointer (some ⟨nb, 0, none⟩), .int .i64 c, .int .i64 page] w fun e w' => e = .returned (.tuple #[.slice none 0 0, .int .i64 9]) ∧ w = w' := by
  have hi' := Lib.hid hi; clear hi
  by_cases h0 : page < 0
  · clear hp
    go_enter Try.func97, Try.ntmps97
    go_wp2_with fail
    refine (rnear_has1 w nb lb base vs ll cap h c).mono ?_
    rintro e w1 ⟨rfl, rfl⟩
    rw [hi'.out]
    go_wp2_with fail
    go_ret2
    exact ⟨rfl, rfl⟩
  · have h1 : 1024 ≤ page := by omega
    clear hp
    go_enter Try.func97, Try.ntmps97
    go_wp2_with fail
    refine (rnear_has1 w nb lb base vs ll cap h c).mono ?_
    rintro e w1 ⟨rfl, rfl⟩
    rw [hi'.out]
    go_wp2_with fail
    go_ret2
    exact ⟨rfl, rfl⟩
theorem rnear_put_has (w : World) (nb lb base : Nat) (vs : List Value) (ll : List (List Int)) (cap : Int) (h : RR w nb lb base vs ll cap) (c page : Int) (hi : inR ll c = true) (hp0 : 0 ≤ page) (hp1 : page < 1024) (hh : hasIn ll page = true) :
    Calls Try.prog 97 #[.pointer (some ⟨nb, 0, none⟩), .int .i64 c, .int .i64 page] w fun e w' => e = .returned (.tuple #[.slice none 0 0, .int .i64 60]) ∧ w = w' := by
  have hi' := Lib.hid hi; clear hi
  go_enter Try.func97, Try.ntmps97
  go_wp2_with fail
  refine (rnear_has1 w nb lb base vs ll cap h c).mono ?_
  rintro e w1 ⟨rfl, rfl⟩
  rw [hi'.out]
  go_wp2_with fail
  refine (rnear_has w nb lb base vs ll cap h page).mono ?_
  rintro e w1 ⟨rfl, rfl⟩
  rw [hh]
  go_wp2_with fail
  go_ret2
  exact ⟨rfl, rfl⟩

set_option maxRecDepth 100000 in
set_option maxHeartbeats 1600000 in
theorem rnear_put_fit (w : World) (nb lb base : Nat) (vs : List Value) (ll : List (List Int)) (cap : Int) (h : RR w nb lb base vs ll cap) (hb : base ≤ w.heap.size) (c : Nat) (hc : c < ll.length) (page : Int) (hp0 : 0 ≤ page) (hp1 : page < 1024) (hh : hasIn ll page = false)
    (hlen : (nth ll c).length ≤ 1024) (hfit : ((nth ll c).length : Int) + 1 ≤ cap) :
    Calls Try.prog 97 #[.pointer (some ⟨nb, 0, none⟩), .int .i64 c, .int .i64 page] w fun e w' => e = .returned (.tuple #[.slice none 0 0, .int .i64 0]) ∧
      (∃ v', RR w' nb lb base (vs.set c v') (ll.set c (nth ll c ++ [page])) cap ∧ ∀ x, OwnOf v' x → w.heap.size ≤ x) ∧ Ext (One lb) w w' := by
  have hi' : Hid (inR ll (c : Int) = true) := by show _ = _; unfold inR; simp [hc]
  have n0 := h.n.cell' (i := 0) rfl
  have hrow := h.rows c hc
  obtain ⟨av, cv, ev, hcv⟩ := ownsRow_val hrow
  have c0 := h.l.cell' (i := c) (v := nth vs c) (nth_some (by rw [h.len]; exact hc))
  rw [ev] at c0 hrow
  have hn := h.nums
  go_enter Try.func97, Try.ntmps97
  go_wp2_with fail
  refine (rnear_has1 w nb lb base vs ll cap h c).mono ?_
  rintro e w1 ⟨rfl, rfl⟩
  rw [hi'.out]
  go_wp2_with fail
  refine (rnear_has w nb lb base vs ll cap h page).mono ?_
  rintro e w1 ⟨rfl, rfl⟩
  rw [hh]
  go_wp2_with fail
  refine (copyInts_spec _ _ (nth ll c) _ (Rd.of_own hrow) (by omega)).mono ?_
  rintro e w2 ⟨r2, rfl, ⟨_, ho2⟩, hx2⟩
  obtain ⟨a2, c2, rfl, hcv2⟩ := ownsRow_val ho2
  clear n0 c0
  go_wp2_with (at_builtin; refine stop_here ?_)
  refine Stop.mk ?_
  have hxa : Ext No w2 (w2.alloc (.cells #[.int .i64 page] 3)) := (Ext.refl _ _).alloc _
  have hz2 := hx2.size
  refine wpList_app (v := .slice a2 (nth ll c).length c2) (m := 1) ty_int rfl _ _ rfl rfl (ownsRow_ext ho2 hxa (fun _ _ => id)) rfl (Rd.of_blk (n := 1) (Blk.new' rfl) rfl (by decide)) (by simp [Value.oneCell']) (by omega) (by unfold maxLen; omega) (by simp only [World.size_alloc]; omega) ?_
  intro v' w3 hown3 hx3 hnil hfr3
  obtain ⟨aw, cw, rfl, hcw⟩ := ownsRow_val hown3
  have e7 : (nth ll c).map int ++ [.int .i64 page] = (nth ll c ++ [page]).map int := by simp [int]
  rw [e7] at hown3
  have hX : Ext No w w3 := (hx2.transNo hxa).trans hx3 (fun x hx ho => by have := (ho2.lt x ho).1; omega)
  have h3 := h.ext hX (fun _ _ => id)
  have n3 := h3.n.cell' (i := 0) rfl
  have n31 := h3.n.cell' (i := 1) rfl
  have c3 := h3.l.cell' (i := c) (v := nth vs c) (nth_some (by rw [h.len]; exact hc))
  have f3 := h3.l.frozen c
  rw [ev] at c3
  have hnew : ∀ x, OwnOf (.slice aw ((nth ll c).length + 1) cw) x → w.heap.size ≤ x := fun x hx => by have := (hown3.lt x hx).1; omega
  have e1 : (nth ll c ++ [page]).length = (nth ll c).length + 1 := by simp
  have hput := h3.put c hc (.slice aw ((nth ll c).length + 1) cw) (nth ll c ++ [page]) (by rw [e1]; exact ownsRow_base hown3 (by omega)) (fun j x hj _ ho ho2 => by have := hnew x ho; have := ((h.rows j hj).lt x ho2).2; omega)
  have hput' := Lib.hid hput; clear hput
  have n31' : (w3.setCell ⟨lb, c, none⟩ (.slice aw ((nth ll c).length + 1) cw)).cell? ⟨nb, 1, none⟩ = some (.int .i64 cap) := (Ext.set1 w3 lb c (.slice aw ((nth ll c).length + 1) cw)).cell n31 (fun e => hn.1 e)
  clear e7 e1 ev
  go_wp2_with fail
  go_ret2
  exact ⟨rfl, ⟨_, hput'.out, hnew⟩, hX.of_no.trans (Ext.set1 _ _ _ _) (fun _ _ h => h)⟩

theorem NearR.extNo {w w' : World} {nb lb base : Nat} {vs : List Value} {ll : List (List Int)} {cap : Int} {T : TypeId} (h : NearR w nb lb base vs ll cap T) (hx : Ext No w w') : NearR w' nb lb base vs ll cap T := h.ext hx (fun _ _ => id)

set_option maxRecDepth 100000 in
set_option maxHeartbeats 3200000 in
theorem rnear_put_spill (w : World) (nb lb base : Nat) (vs : List Value) (ll : List (List Int)) (cap : Int) (h : RR w nb lb base vs ll cap) (hb : base ≤ w.heap.size) (c : Nat) (hc : c < ll.length) (page : Int) (hp0 : 0 ≤ page) (hp1 : page < 1024) (hh : hasIn ll page = false)
    (hlen : (nth ll c).length ≤ 1024) (hfit : cap < ((nth ll c).length : Int) + 1) (k : Nat) (hk : ((nth ll c).length + 2) / 2 = k) :
    Calls Try.prog 97 #[.pointer (some ⟨nb, 0, none⟩), .int .i64 c, .int .i64 page] w fun e w' => ∃ r, e = .returned (.tuple #[r, .int .i64 0]) ∧ w'.ownsRow w.heap.size 3 1 r k (((nth ll c ++ [page]).take k).map int) ∧
      (∃ v', RR w' nb lb base (vs.set c v') (ll.set c ((nth ll c ++ [page]).drop k)) cap ∧ (∀ x, OwnOf v' x → w.heap.size ≤ x) ∧ ∀ x, OwnOf r x → ¬ OwnOf v' x) ∧ Ext (One lb) w w' := by
  have hi' : Hid (inR ll (c : Int) = true) := by show _ = _; unfold inR; simp [hc]
  have n0 := h.n.cell' (i := 0) rfl
  have hrow := h.rows c hc
  obtain ⟨av, cv, ev, hcv⟩ := ownsRow_val hrow
  have c0 := h.l.cell' (i := c) (v := nth vs c) (nth_some (by rw [h.len]; exact hc))
  rw [ev] at c0 hrow
  have hn := h.nums
  go_enter Try.func97, Try.ntmps97
  go_wp2_with fail
  refine (rnear_has1 w nb lb base vs ll cap h c).mono ?_
  rintro e w1 ⟨rfl, rfl⟩
  rw [hi'.out]
  go_wp2_with fail
  refine (rnear_has w nb lb base vs ll cap h page).mono ?_
  rintro e w1 ⟨rfl, rfl⟩
  rw [hh]
  go_wp2_with fail
  refine (copyInts_spec _ _ (nth ll c) _ (Rd.of_own hrow) (by omega)).mono ?_
  rintro e w2 ⟨r2, rfl, ⟨_, ho2⟩, hx2⟩
  obtain ⟨a2, c2, rfl, hcv2⟩ := ownsRow_val ho2
  clear n0 c0
  go_wp2_with (at_builtin; refine stop_here ?_)
  refine Stop.mk ?_
  have hxa : Ext No w2 (w2.alloc (.cells #[.int .i64 page] 3)) := (Ext.refl _ _).alloc _
  have hz2 := hx2.size
  refine wpList_app (v := .slice a2 (nth ll c).length c2) (m := 1) ty_int rfl _ _ rfl rfl (ownsRow_ext ho2 hxa (fun _ _ => id)) rfl (Rd.of_blk (n := 1) (Blk.new' rfl) rfl (by decide)) (by simp [Value.oneCell']) (by omega) (by unfold maxLen; omega) (by simp only [World.size_alloc]; omega) ?_
  intro v' w3 hown3 hx3 hnil hfr3
  obtain ⟨aw, cw, rfl, hcw⟩ := ownsRow_val hown3
  have e7 : (nth ll c).map int ++ [.int .i64 page] = (nth ll c ++ [page]).map int := by simp [int]
  rw [e7] at hown3
  have hX : Ext No w w3 := (hx2.transNo hxa).trans hx3 (fun x hx ho => by have := (ho2.lt x ho).1; omega)
  have h3 := h.extNo hX
  have n3 := h3.n.cell' (i := 0) rfl
  have n31 := h3.n.cell' (i := 1) rfl
  have c3 := h3.l.cell' (i := c) (v := nth vs c) (nth_some (by rw [h.len]; exact hc))
  have f3 := h3.l.frozen c
  rw [ev] at c3
  have hkn : k ≤ (nth ll c).length + 1 := by omega
  obtain ⟨ab, rfl, hob, hcw2, hcw3, hsub⟩ := own_sub2 (k := k) hown3 (by omega) hkn
  have hnew : ∀ x, OwnOf (.slice (some ⟨ab, 0, none⟩) ((nth ll c).length + 1) cw) x → w.heap.size ≤ x := fun x hx => by have := (hown3.lt x hx).1; omega
  have e1 : (nth ll c ++ [page]).length = (nth ll c).length + 1 := by simp
  have hput := h3.put c hc (.slice (some ⟨ab, 0, none⟩) ((nth ll c).length + 1) cw) (nth ll c ++ [page]) (by rw [e1]; exact ownsRow_base hown3 (by omega)) (fun j x hj _ ho ho2 => by have := hnew x ho; have := ((h.rows j hj).lt x ho2).2; omega)
  have hset4 : Ext (One lb) w3 (w3.setCell ⟨lb, c, none⟩ (.slice (some ⟨ab, 0, none⟩) ((nth ll c).length + 1) cw)) := Ext.set1 _ _ _ _
  have hab : ab ≠ lb := fun e => by have := hnew ab hob; omega
  have hsub4 := hsub.ext hset4 (fun x (e : x = ab) (e2 : x = lb) => hab (e ▸ e2))
  have hrow4 := ownsRow_ext hown3 hset4 (fun x hx (e : x = lb) => by have := hnew x hx; omega)
  clear e7 e1 ev hsub hown3 n31
  go_upto_region 7 with (fail)
  obtain ⟨W4, hW4⟩ : ∃ W4, w3.setCell ⟨lb, c, none⟩ (.slice (some ⟨ab, 0, none⟩) ((nth ll c).length + 1) cw) = W4 := ⟨_, rfl⟩
  rw [hW4] at hput hset4 hsub4 hrow4 ⊢
  have h4 := hput
  have n40 : W4.cell? ⟨nb, 0, none⟩ = some (.slice (some ⟨lb, 0, none⟩) ll.length ll.length) := by have := h4.n.cell' (i := 0) rfl; simpa using this
  have n41 := h4.n.cell' (i := 1) rfl
  have c4 : W4.cell? ⟨lb, c, none⟩ = some (.slice (some ⟨ab, 0, none⟩) ((nth ll c).length + 1) cw) := by rw [← hW4]; exact (h3.l.set c _).cell' (by rw [List.getElem?_set_self (by rw [h.len]; exact hc)])
  have f4 := h4.l.frozen c
  clear hW4 hput c3 f3 n3
  by_cases hck : cw = k
  · have hdr : Hid ((nth ll c ++ [page]).drop k = []) := by show _ = _; apply List.drop_of_length_le; simp; omega
    have hck1 : cw - k = 0 := by omega
    have hsubE : RdI (One ab) W4 (.slice (some ⟨ab, 0, none⟩) 0 0) ((nth ll c ++ [page]).drop k) := by
      have e0 : ((nth ll c ++ [page]).drop k).length = 0 := by rw [hdr.out]; rfl
      unfold RdI
      rw [e0]
      refine ⟨_, _, rfl, by simp; omega, by omega, by unfold maxLen; omega, fun hne => absurd (by rw [hdr.out]; rfl) hne⟩
    have hck' : k = cw := hck.symm
    clear hck hck1
    subst hck'
    go_wp2_with fail
    have ek : ((nth ll c).length + 1 + 1 : Int) / 2 = (k : Int) := by omega
    have hk0 : (0 : Int) ≤ (k : Int) := by omega
    have hk1 : (k : Int) ≤ (nth ll c).length + 1 := by omega
    rw [ek]
    have ek' := Lib.hid ek; clear ek
    have hxS : Ext No W4 W4.drew := (Ext.refl No W4).drew
    refine anyZ_begin 10 (fun w' => w'.cell? ⟨nb, 0, none⟩ = some (.slice (some ⟨lb, 0, none⟩) ll.length ll.length)) (by kernel_rfl) ?_
    have hC : (fun w' : World => w'.cell? ⟨nb, 0, none⟩ = some (.slice (some ⟨lb, 0, none⟩) ll.length ll.length)) W4.drew := n40
    refine anyZ_take 0 (v := ?_) rfl (by kernel_rfl) (by kernel_rfl) (by kernel_rfl) (by kernel_rfl) (fun _ _ _ h => h) hC (Or.inl ⟨by rfl, ?_⟩) ?_
    rotate_left
    · (intro wq hq; (try dsimp only at hq); go_simp; with_reducible rfl)
    simp only [Act.put, List.setIfInBounds_toArray, List.set_cons_zero, List.set_cons_succ]
    refine anyZ_take 1 (v := ?_) rfl (by kernel_rfl) (by kernel_rfl) (by kernel_rfl) (by kernel_rfl) (fun _ _ _ h => h) hC (Or.inl ⟨by rfl, ?_⟩) ?_
    rotate_left
    · (intro wq hq; (try dsimp only at hq); go_simp; with_reducible rfl)
    simp only [Act.put, List.setIfInBounds_toArray, List.set_cons_zero, List.set_cons_succ]
    refine anyZ_take 2 (v := ?_) rfl (by kernel_rfl) (by kernel_rfl) (by kernel_rfl) (by kernel_rfl) (fun _ _ _ h => h) hC (Or.inl ⟨by rfl, ?_⟩) ?_
    rotate_left
    · (intro wq hq; (try dsimp only at hq); go_simp; with_reducible rfl)
    simp only [Act.put, List.setIfInBounds_toArray, List.set_cons_zero, List.set_cons_succ]
    refine anyZ_take 3 (v := ?_) rfl (by kernel_rfl) (by kernel_rfl) (by kernel_rfl) (by kernel_rfl) (fun _ _ _ h => h) hC (Or.inl ⟨by rfl, ?_⟩) ?_
    rotate_left
    · (intro wq hq; (try dsimp only at hq); go_simp; with_reducible rfl)
    simp only [Act.put, List.setIfInBounds_toArray, List.set_cons_zero, List.set_cons_succ]
    refine anyZ_take 4 (v := ?_) rfl (by kernel_rfl) (by kernel_rfl) (by kernel_rfl) (by kernel_rfl) (fun _ _ _ h => h) hC (Or.inl ⟨by rfl, ?_⟩) ?_
    rotate_left
    · (intro wq hq; (try dsimp only at hq); go_simp; with_reducible rfl)
    simp only [Act.put, List.setIfInBounds_toArray, List.set_cons_zero, List.set_cons_succ]
    refine anyZ_take 5 (v := ?_) rfl (by kernel_rfl) (by kernel_rfl) (by kernel_rfl) (by kernel_rfl) (fun _ _ _ h => h) hC (Or.inl ⟨by rfl, ?_⟩) ?_
    rotate_left
    · (intro wq hq; (try dsimp only at hq); go_simp; with_reducible rfl)
    simp only [Act.put, List.setIfInBounds_toArray, List.set_cons_zero, List.set_cons_succ]
    refine anyZ_take 6 (v := ?_) rfl (by kernel_rfl) (by kernel_rfl) (by kernel_rfl) (by kernel_rfl) (fun _ _ _ h => h) hC (Or.inl ⟨by rfl, ?_⟩) ?_
    rotate_left
    · (intro wq hq; (try dsimp only at hq); go_simp; with_reducible rfl)
    simp only [Act.put, List.setIfInBounds_toArray, List.set_cons_zero, List.set_cons_succ]
    refine anyZ_take 7 (v := ?_) rfl (by kernel_rfl) (by kernel_rfl) (by kernel_rfl) (by kernel_rfl) (fun _ _ _ h => h) hC (Or.inl ⟨by rfl, ?_⟩) ?_
    rotate_left
    · (intro wq hq; (try dsimp only at hq); go_simp; with_reducible rfl)
    simp only [Act.put, List.setIfInBounds_toArray, List.set_cons_zero, List.set_cons_succ]
    refine anyZ_step 8 rfl (by kernel_rfl) (fun K hK => ?_)
    go_simp
    refine (copyInts_spec _ _ ((nth ll c ++ [page]).drop k) _ (hsubE.extNo hxS) (by simp; omega)).mono ?_
    rintro e w5 ⟨r5, rfl, ⟨_, ho5⟩, hx5⟩
    obtain ⟨a5, c5, rfl, hcv5⟩ := ownsRow_val ho5
    have hx5 := hxS.transNo hx5
    have hC5 : (fun w' : World => w'.cell? ⟨nb, 0, none⟩ = some (.slice (some ⟨lb, 0, none⟩) ll.length ll.length)) w5 := hx5.cell n40 id
    have h5 := h4.extNo hx5
    have f5 := h5.l.frozen c
    have c5' : w5.cell? ⟨lb, c, none⟩ = some (.slice (some ⟨ab, 0, none⟩) ((nth ll c).length + 1) k) := hx5.cell c4 id
    refine hK _ _ hC5 ?_
    clear hK K
    try simp only [Act.put, List.setIfInBounds_toArray, List.set_cons_zero, List.set_cons_succ]
    refine anyZ_take 9 (v := ?_) rfl (by kernel_rfl) (by kernel_rfl) (by kernel_rfl) (by kernel_rfl) (fun _ _ _ h => h) hC5 (Or.inl ⟨by rfl, ?_⟩) ?_
    rotate_left
    · (intro wq hq; (try dsimp only at hq); go_simp; with_reducible rfl)
    simp only [Act.put, List.setIfInBounds_toArray, List.set_cons_zero, List.set_cons_succ]
    refine anyZ_last rfl (by kernel_rfl) (fun K hK => ?_)
    go_simp
    refine hK _ _ ?_
    clear hK K
    try simp only [Act.put, List.setIfInBounds_toArray, List.set_cons_zero, List.set_cons_succ]
    refine anyZ_done (by kernel_rfl) ?_ _
    have hsz5 : w.heap.size ≤ w5.heap.size := by have := hX.size; have := hx5.size; have := hset4.size; omega
    have hw4 : w.heap.size ≤ W4.heap.size := by have := hX.size; have := hset4.size; omega
    have hnew5 : ∀ x, OwnOf (.slice a5 ((nth ll c ++ [page]).drop k).length c5) x → w.heap.size ≤ x := fun x hx => by have := (ho5.lt x hx).1; simp only [World.size_drew] at this; omega
    have hput5 := h5.put c (by simpa using hc) (.slice a5 ((nth ll c ++ [page]).drop k).length c5) ((nth ll c ++ [page]).drop k) (ownsRow_base ho5 (by simp only [World.size_drew]; omega)) (fun j x hj hjc ho ho2 => by
      rw [List.length_set] at hj
      rw [nth_set_ne _ (by rw [h.len]; exact hj) hjc] at ho2
      have := hnew5 x ho; have := ((h.rows j hj).lt x ho2).2; omega)
    rw [List.set_set, List.set_set] at hput5
    have e6 : ((nth ll c ++ [page]).drop k).length = 0 := by rw [hdr.out]; rfl
    have hset5 : Ext (One lb) w5 (w5.setCell ⟨lb, c, none⟩ (.slice a5 ((nth ll c ++ [page]).drop k).length c5)) := Ext.set1 _ _ _ _
    have hrow6 := ownsRow_ext (ownsRow_ext hrow4 hx5 (fun _ _ => id)) hset5 (fun x hx (e : x = lb) => by have := (hrow4.lt x hx).1; omega)
    have hsh := own_shrink hrow6 hkn (by simp)
    rw [← List.map_take] at hsh
    have e8 : ((nth ll c ++ [page]).take k).length = k := by simp; omega
    rw [e6] at hput5 hset5 hnew5 hsh
    have hput5' := Lib.hid hput5
    have hX5 : Hid (Ext (One lb) w (w5.setCell ⟨lb, c, none⟩ (.slice a5 0 c5))) := ((hX.of_no.trans hset4 (fun _ _ h => h)).transNo hx5).trans hset5 (fun _ _ h => h)
    have hkcw : (k : Int) ≤ k := Int.le_refl _
    clear hput5 hC5 hC e6 hx5 f5 c5' hset4 hset5
    go_wp2_with fail
    refine (copyInts_spec _ _ ((nth ll c ++ [page]).take k) _ (by have := Rd.of_own hsh; rw [show (nth ll c ++ [page]).take k = (nth ll c ++ [page]).take k from rfl]; unfold RdI; rw [e8]; exact this) (by rw [e8]; omega)).mono ?_
    rintro e w7 ⟨r7, rfl, ⟨_, ho7⟩, hx7⟩
    go_wp2_with fail
    go_ret2
    rw [e8] at ho7
    refine ⟨_, rfl, ownsRow_base ho7 (by have := hX5.out.size; omega), ⟨_, hput5'.out.extNo hx7, hnew5, fun x hx ho => ?_⟩, hX5.out.transNo hx7⟩
    have h1 := (ho7.lt x hx).1
    have h2 := (ho5.lt x (by rw [hdr.out]; exact ho)).2
    simp only [World.size_setCell] at h1
    omega
  have hck2 : 0 < cw - k := by omega
  go_wp2_with fail
  have ek : ((nth ll c).length + 1 + 1 : Int) / 2 = (k : Int) := by omega
  have hk0 : (0 : Int) ≤ (k : Int) := by omega
  have hk1 : (k : Int) ≤ (nth ll c).length + 1 := by omega
  rw [ek]
  have ek' := Lib.hid ek; clear ek
  have hxS : Ext No W4 W4.drew := (Ext.refl No W4).drew
  refine anyZ_begin 10 (fun w' => w'.cell? ⟨nb, 0, none⟩ = some (.slice (some ⟨lb, 0, none⟩) ll.length ll.length)) (by kernel_rfl) ?_
  have hC : (fun w' : World => w'.cell? ⟨nb, 0, none⟩ = some (.slice (some ⟨lb, 0, none⟩) ll.length ll.length)) W4.drew := n40
  refine anyZ_take 0 (v := ?_) rfl (by kernel_rfl) (by kernel_rfl) (by kernel_rfl) (by kernel_rfl) (fun _ _ _ h => h) hC (Or.inl ⟨by rfl, ?_⟩) ?_
  rotate_left
  · (intro wq hq; (try dsimp only at hq); go_simp; with_reducible rfl)
  simp only [Act.put, List.setIfInBounds_toArray, List.set_cons_zero, List.set_cons_succ]
  refine anyZ_take 1 (v := ?_) rfl (by kernel_rfl) (by kernel_rfl) (by kernel_rfl) (by kernel_rfl) (fun _ _ _ h => h) hC (Or.inl ⟨by rfl, ?_⟩) ?_
  rotate_left
  · (intro wq hq; (try dsimp only at hq); go_simp; with_reducible rfl)
  simp only [Act.put, List.setIfInBounds_toArray, List.set_cons_zero, List.set_cons_succ]
  refine anyZ_take 2 (v := ?_) rfl (by kernel_rfl) (by kernel_rfl) (by kernel_rfl) (by kernel_rfl) (fun _ _ _ h => h) hC (Or.inl ⟨by rfl, ?_⟩) ?_
  rotate_left
  · (intro wq hq; (try dsimp only at hq); go_simp; with_reducible rfl)
  simp only [Act.put, List.setIfInBounds_toArray, List.set_cons_zero, List.set_cons_succ]
  refine anyZ_take 3 (v := ?_) rfl (by kernel_rfl) (by kernel_rfl) (by kernel_rfl) (by kernel_rfl) (fun _ _ _ h => h) hC (Or.inl ⟨by rfl, ?_⟩) ?_
  rotate_left
  · (intro wq hq; (try dsimp only at hq); go_simp; with_reducible rfl)
  simp only [Act.put, List.setIfInBounds_toArray, List.set_cons_zero, List.set_cons_succ]
  refine anyZ_take 4 (v := ?_) rfl (by kernel_rfl) (by kernel_rfl) (by kernel_rfl) (by kernel_rfl) (fun _ _ _ h => h) hC (Or.inl ⟨by rfl, ?_⟩) ?_
  rotate_left
  · (intro wq hq; (try dsimp only at hq); go_simp; with_reducible rfl)
  simp only [Act.put, List.setIfInBounds_toArray, List.set_cons_zero, List.set_cons_succ]
  refine anyZ_take 5 (v := ?_) rfl (by kernel_rfl) (by kernel_rfl) (by kernel_rfl) (by kernel_rfl) (fun _ _ _ h => h) hC (Or.inl ⟨by rfl, ?_⟩) ?_
  rotate_left
  · (intro wq hq; (try dsimp only at hq); go_simp; with_reducible rfl)
  simp only [Act.put, List.setIfInBounds_toArray, List.set_cons_zero, List.set_cons_succ]
  refine anyZ_take 6 (v := ?_) rfl (by kernel_rfl) (by kernel_rfl) (by kernel_rfl) (by kernel_rfl) (fun _ _ _ h => h) hC (Or.inl ⟨by rfl, ?_⟩) ?_
  rotate_left
  · (intro wq hq; (try dsimp only at hq); go_simp; with_reducible rfl)
  simp only [Act.put, List.setIfInBounds_toArray, List.set_cons_zero, List.set_cons_succ]
  refine anyZ_take 7 (v := ?_) rfl (by kernel_rfl) (by kernel_rfl) (by kernel_rfl) (by kernel_rfl) (fun _ _ _ h => h) hC (Or.inl ⟨by rfl, ?_⟩) ?_
  rotate_left
  · (intro wq hq; (try dsimp only at hq); go_simp; with_reducible rfl)
  simp only [Act.put, List.setIfInBounds_toArray, List.set_cons_zero, List.set_cons_succ]
  refine anyZ_step 8 rfl (by kernel_rfl) (fun K hK => ?_)
  go_simp
  refine (copyInts_spec _ _ ((nth ll c ++ [page]).drop k) _ (hsub4.extNo hxS) (by simp; omega)).mono ?_
  rintro e w5 ⟨r5, rfl, ⟨_, ho5⟩, hx5⟩
  obtain ⟨a5, c5, rfl, hcv5⟩ := ownsRow_val ho5
  have hx5 := hxS.transNo hx5
  have hC5 : (fun w' : World => w'.cell? ⟨nb, 0, none⟩ = some (.slice (some ⟨lb, 0, none⟩) ll.length ll.length)) w5 := hx5.cell n40 id
  have h5 := h4.extNo hx5
  have f5 := h5.l.frozen c
  have c5' : w5.cell? ⟨lb, c, none⟩ = some (.slice (some ⟨ab, 0, none⟩) ((nth ll c).length + 1) cw) := hx5.cell c4 id
  refine hK _ _ hC5 ?_
  clear hK K
  try simp only [Act.put, List.setIfInBounds_toArray, List.set_cons_zero, List.set_cons_succ]
  refine anyZ_take 9 (v := ?_) rfl (by kernel_rfl) (by kernel_rfl) (by kernel_rfl) (by kernel_rfl) (fun _ _ _ h => h) hC5 (Or.inl ⟨by rfl, ?_⟩) ?_
  rotate_left
  · (intro wq hq; (try dsimp only at hq); go_simp; with_reducible rfl)
  simp only [Act.put, List.setIfInBounds_toArray, List.set_cons_zero, List.set_cons_succ]
  refine anyZ_last rfl (by kernel_rfl) (fun K hK => ?_)
  go_simp
  refine hK _ _ ?_
  clear hK K
  try simp only [Act.put, List.setIfInBounds_toArray, List.set_cons_zero, List.set_cons_succ]
  refine anyZ_done (by kernel_rfl) ?_ _
  have hsz5 : w.heap.size ≤ w5.heap.size := by have := hX.size; have := hx5.size; have := hset4.size; omega
  have hw4 : w.heap.size ≤ W4.heap.size := by have := hX.size; have := hset4.size; omega
  have hnew5 : ∀ x, OwnOf (.slice a5 ((nth ll c ++ [page]).drop k).length c5) x → w.heap.size ≤ x := fun x hx => by have := (ho5.lt x hx).1; simp only [World.size_drew] at this; omega
  have hput5 := h5.put c (by simpa using hc) (.slice a5 ((nth ll c ++ [page]).drop k).length c5) ((nth ll c ++ [page]).drop k) (ownsRow_base ho5 (by simp only [World.size_drew]; omega)) (fun j x hj hjc ho ho2 => by
    rw [List.length_set] at hj
    rw [nth_set_ne _ (by rw [h.len]; exact hj) hjc] at ho2
    have := hnew5 x ho; have := ((h.rows j hj).lt x ho2).2; omega)
  rw [List.set_set, List.set_set] at hput5
  have e6 : ((nth ll c ++ [page]).drop k).length = (nth ll c).length + 1 - k := by simp
  have hset5 : Ext (One lb) w5 (w5.setCell ⟨lb, c, none⟩ (.slice a5 ((nth ll c ++ [page]).drop k).length c5)) := Ext.set1 _ _ _ _
  have hrow6 := ownsRow_ext (ownsRow_ext hrow4 hx5 (fun _ _ => id)) hset5 (fun x hx (e : x = lb) => by have := (hrow4.lt x hx).1; omega)
  have hsh := own_shrink hrow6 hkn (by simp)
  rw [← List.map_take] at hsh
  have e8 : ((nth ll c ++ [page]).take k).length = k := by simp; omega
  rw [e6] at hput5 hset5 hnew5 hsh
  have hput5' := Lib.hid hput5
  have hX5 : Hid (Ext (One lb) w (w5.setCell ⟨lb, c, none⟩ (.slice a5 ((nth ll c).length + 1 - k) c5))) := ((hX.of_no.trans hset4 (fun _ _ h => h)).transNo hx5).trans hset5 (fun _ _ h => h)
  have hkcw : (k : Int) ≤ cw := by omega
  clear hput5 hC5 hC e6 hx5 f5 c5' hset4 hset5
  go_wp2_with fail
  refine (copyInts_spec _ _ ((nth ll c ++ [page]).take k) _ (by have := Rd.of_own hsh; rw [show (nth ll c ++ [page]).take k = (nth ll c ++ [page]).take k from rfl]; unfold RdI; rw [e8]; exact this) (by rw [e8]; omega)).mono ?_
  rintro e w7 ⟨r7, rfl, ⟨_, ho7⟩, hx7⟩
  go_wp2_with fail
  go_ret2
  rw [e8] at ho7
  refine ⟨_, rfl, ownsRow_base ho7 (by have := hX5.out.size; omega), ⟨_, hput5'.out.extNo hx7, hnew5, fun x hx ho => ?_⟩, hX5.out.transNo hx7⟩
  have h1 := (ho7.lt x hx).1
  have h2 := (ho5.lt x (by rw [show ((nth ll c ++ [page]).drop k).length = (nth ll c).length + 1 - k by simp]; exact ho)).2
  simp only [World.size_setCell] at h1
  omega
end Go.Proofs.Ytjkknjohmekeiaa
/- The document's near pages as a state with a footprint. No condition. -/
namespace Go.Proofs.Ytjkknjohmekeiaa
open Go.RowKit

theorem rs_new (w : World) (cpus cap : Int) :
    Calls Try.prog 46 #[.int .i64 cpus, .int .i64 cap] w fun e w' =>
      if (1 ≤ cpus ∧ cpus ≤ 8) ∧ 0 ≤ cap ∧ cap ≤ 64 then
        ∃ p F, e = .returned (.tuple #[.pointer (some ⟨p, 0, none⟩), .int .i64 0]) ∧ NS w' p F (List.replicate cpus.toNat []) cap 148 ∧ (∀ x, F x → w.heap.size ≤ x) ∧ w.heap.size ≤ p ∧ Ext No w w'
      else e = .returned (.tuple #[.pointer none, .int .i64 2]) ∧ w = w' := by
  refine (rnear_new w cpus cap).mono ?_
  intro e w' h
  split at h
  · rename_i hc
    obtain ⟨⟨nb, lb, h1, h2, h3, h4⟩, h5⟩ := h
    rw [if_pos hc]
    refine ⟨nb, _, h1, ⟨NOk.new (by omega) (by omega) hc.2.1 hc.2.2, lb, _, _, h2, Nat.le_refl _, rfl⟩, fun x hx => ?_, h3, h5⟩
    rcases hx with h | h | ⟨i, hi, ho⟩
    · omega
    · omega
    · rw [nth_eq hi] at ho
      simp [OwnOf, Value.ownBlock] at ho
  · rename_i hc
    rw [if_neg hc]; exact h

theorem rs_has (w : World) (p : Nat) (F : Nat → Prop) (ll : List (List Int)) (cap : Int) (h : NS w p F ll cap 148) (x : Int) :
    Calls Try.prog 100 #[.pointer (some ⟨p, 0, none⟩), .int .i64 x] w fun e w' => e = .returned (.bool (hasIn ll x)) ∧ w = w' := by
  obtain ⟨_, lb, base, vs, h1, h2, _⟩ := h
  exact rnear_has w p lb base vs ll cap h1 x

theorem rs_list (w : World) (p : Nat) (F : Nat → Prop) (ll : List (List Int)) (cap : Int) (h : NS w p F ll cap 148) (c : Int) :
    Calls Try.prog 49 #[.pointer (some ⟨p, 0, none⟩), .int .i64 c] w fun e w' => ∃ r, e = .returned r ∧ Ans w' r (listIn ll c) (fun b => w.heap.size ≤ b) ∧ Ext No w w' := by
  obtain ⟨h0, lb, base, vs, h1, h2, _⟩ := h
  refine (rnear_list w p lb base vs ll cap h1 c (fun l hl => by have := h0.lens l hl; have := h0.cap1; omega)).mono ?_
  rintro e w' ⟨r, he, ho, hx⟩
  exact ⟨r, he, (Ans.of_own ho).mono (fun b hb => (ho.lt b hb).1), hx⟩

theorem rs_drain (w : World) (p : Nat) (F : Nat → Prop) (ll : List (List Int)) (cap : Int) (h : NS w p F ll cap 148) (c : Int) :
    Calls Try.prog 99 #[.pointer (some ⟨p, 0, none⟩), .int .i64 c] w fun e w' => ∃ r, e = .returned r ∧ NPost w p F (drainL ll c) cap w' (fun F' => Ans w' r (listIn ll c) (fun b => ¬ F' b ∧ F b)) 148 := by
  have hok := h
  obtain ⟨h0, lb, base, vs, h1, h2, rfl⟩ := h
  have hn := h1.nums
  cases hi : inR ll c
  · obtain ⟨e0, hc⟩ := listIn_out hi
    have e1 : drainL ll c = ll := by unfold drainL; rw [hi]; simp
    refine (rnear_drain_out w p lb base vs ll cap h1 c hi).mono ?_
    rintro e w' ⟨he, rfl⟩
    refine ⟨_, he, NearF p lb vs, ?_, Ext.refl _ _, fun x hx => .inl hx, ?_⟩
    · rw [e1]; exact hok
    · rw [e0]; exact Ans.nil _ _
  · obtain ⟨e0, hk, ek⟩ := listIn_in hi
    have hD := rnear_drain w p lb base vs ll cap h1 c.toNat hk
    rw [ek] at hD
    refine hD.mono ?_
    rintro e w' ⟨he, hw, hN, hrow⟩
    have hx : Ext (One lb) w w' := by rw [hw]; exact Ext.set1 _ _ _ _
    have e1 : drainL ll c = ll.set c.toNat [] := by unfold drainL; rw [hi]; simp
    refine ⟨_, he, NearF p lb (vs.set c.toNat (.slice none 0 0)), ⟨h0.drain c, lb, base, _, e1 ▸ hN, Nat.le_trans h2 hx.size, rfl⟩, hx.mono (fun x _ (e : x = lb) => .inr (.inl e)), nearF_set (fun x hx => by simp [OwnOf, Value.ownBlock] at hx), ?_⟩
    rw [e0]
    refine (Ans.of_own hrow).mono (fun b hb => ⟨fun hN => ?_, .inr (.inr ⟨c.toNat, by rw [h1.len]; exact hk, hb⟩)⟩)
    have hbb := (hrow.lt b hb).1
    rcases hN with h | h | ⟨i, hi, ho⟩
    · omega
    · omega
    · rw [List.length_set] at hi
      by_cases hic : i = c.toNat
      · subst hic
        rw [nth_set_eq _ hi] at ho
        simp [OwnOf, Value.ownBlock] at ho
      · rw [nth_set_ne _ hi hic] at ho
        exact hic (h1.apart i c.toNat b (by rw [← h1.len]; exact hi) hk ho hb)

theorem rs_take (w : World) (p : Nat) (F : Nat → Prop) (ll : List (List Int)) (cap : Int) (h : NS w p F ll cap 148) (c : Int) :
    Calls Try.prog 98 #[.pointer (some ⟨p, 0, none⟩), .int .i64 c] w fun e w' => e = .returned (.tuple #[.int .i64 (takeX ll c), .bool (takeB ll c)]) ∧ NPost w p F (dropL ll c) cap w' (fun _ => True) 148 := by
  have hok := h
  obtain ⟨h0, lb, base, vs, h1, h2, rfl⟩ := h
  have hn := h1.nums
  cases hi : inR ll c
  · obtain ⟨e0, hc⟩ := listIn_out hi
    have e1 : dropL ll c = ll := by unfold dropL; rw [hi]; simp
    refine (rnear_take_none w p lb base vs ll cap h1 c hi).mono ?_
    rintro e w' ⟨he, rfl⟩
    refine ⟨by unfold takeX takeB; rw [e0]; exact he, NearF p lb vs, ?_, Ext.refl _ _, fun x hx => .inl hx, trivial⟩
    rw [e1]; exact hok
  · obtain ⟨e0, hk, ek⟩ := listIn_in hi
    have e1 : dropL ll c = ll.set c.toNat (nth ll c.toNat).dropLast := by unfold dropL; rw [hi, e0]; simp
    obtain ⟨g1, _⟩ := h0.list c
    rw [e0] at g1
    have hcap := h0.cap1
    rcases Nat.eq_zero_or_pos (nth ll c.toNat).length with hz | hz
    · have hz' : nth ll c.toNat = [] := List.eq_nil_of_length_eq_zero hz
      have hT := rnear_take_empty w p lb base vs ll cap h1 c.toNat hk hz'
      rw [ek] at hT
      refine hT.mono ?_
      rintro e w' ⟨he, rfl⟩
      refine ⟨by unfold takeX takeB; rw [e0, hz']; exact he, NearF p lb vs, ?_, Ext.refl _ _, fun x hx => .inl hx, trivial⟩
      have e2 : ll.set c.toNat [] = ll := by
        have : nth ll c.toNat = [] := hz'
        rw [nth_eq hk] at this
        rw [← this]; exact List.set_getElem_self hk
      rw [e1, hz', List.dropLast_nil, e2]; exact hok
    · obtain ⟨n, hn1⟩ : ∃ n, (nth ll c.toNat).length = n + 1 := ⟨(nth ll c.toNat).length - 1, by omega⟩
      have hT := rnear_take_at w p lb base vs ll cap h1 c.toNat hk n hn1 (by omega)
      rw [ek] at hT
      refine hT.mono ?_
      rintro e w' ⟨he, hx, v', hN, hfr⟩
      have e3 : (nth ll c.toNat).take n = (nth ll c.toNat).dropLast := by rw [List.dropLast_eq_take, hn1]; rfl
      rw [e3] at hN
      refine ⟨?_, NearF p lb (vs.set c.toNat v'), ⟨h0.dropL c, lb, base, _, e1 ▸ hN, Nat.le_trans h2 hx.size, rfl⟩, hx.mono (fun x _ (e : x = lb) => .inr (.inl e)), nearF_set (fun x hx => .inl (.inr (.inr ⟨c.toNat, by rw [h1.len]; exact hk, hfr x hx⟩))), trivial⟩
      rw [he]
      unfold takeX takeB
      rw [e0]
      have hne : nth ll c.toNat ≠ [] := by intro e; rw [e] at hn1; simp at hn1
      have e4 : nth (nth ll c.toNat) n = (nth ll c.toNat).getLastD 0 := by
        have e6 : (nth ll c.toNat).length - 1 = n := by omega
        have e7 : (nth ll c.toNat)[n]? = some (nth (nth ll c.toNat) n) := nth_some (by omega)
        rw [List.getLastD_eq_getLast?, List.getLast?_eq_getElem?, e6, e7]
        rfl
      have e5 : (nth ll c.toNat).isEmpty = false := by simpa using hne
      rw [e4, e5]; rfl

theorem rs_put (w : World) (p : Nat) (F : Nat → Prop) (ll : List (List Int)) (cap : Int) (h : NS w p F ll cap 148) (c page : Int) :
    Calls Try.prog 97 #[.pointer (some ⟨p, 0, none⟩), .int .i64 c, .int .i64 page] w fun e w' => ∃ r, e = .returned (.tuple #[r, .int .i64 (putE ll c page)]) ∧
      NPost w p F (putL ll cap c page) cap w' (fun F' => Ans w' r (putA ll cap c page) (fun b => ¬ F' b ∧ w.heap.size ≤ b)) 148 := by
  have hok := h
  obtain ⟨h0, lb, base, vs, h1, h2, rfl⟩ := h
  have hn := h1.nums
  have hsame : putE ll c page ≠ 0 → ∀ (w' : World), Ext No w w' → NPost w p (NearF p lb vs) (putL ll cap c page) cap w' (fun F' => Ans w' (.slice none 0 0) (putA ll cap c page) (fun b => ¬ F' b ∧ w.heap.size ≤ b)) 148 := by
    intro hne w' hx
    unfold putL putA
    rw [if_neg hne, if_neg hne]
    exact ⟨NearF p lb vs, hok.extNo hx, hx.of_no, fun x hx => .inl hx, Ans.nil _ _⟩
  cases hi : inR ll c
  · have e9 : putE ll c page = 9 := by unfold putE; rw [hi]; simp
    refine (rnear_put_range w p lb base vs ll cap h1 c page hi).mono ?_
    rintro e w' ⟨he, rfl⟩
    exact ⟨_, by rw [e9]; exact he, hsame (by rw [e9]; decide) _ (Ext.refl _ _)⟩
  · obtain ⟨e0, hk, ek⟩ := listIn_in hi
    obtain ⟨g1, _⟩ := h0.list c
    rw [e0] at g1
    have hcap := h0.cap1
    by_cases hp : 0 ≤ page ∧ page < 1024
    · cases hh : hasIn ll page
      · have ez : putE ll c page = 0 := putE_zero.2 ⟨hi, hp.1, hp.2, hh⟩
        by_cases hfit : ((nth ll c.toNat).length : Int) + 1 ≤ cap
        · have ek0 : putK (nth ll c.toNat).length cap = 0 := by unfold putK; rw [if_pos hfit]
          have eL : putL ll cap c page = ll.set c.toNat (nth ll c.toNat ++ [page]) := by unfold putL; rw [if_pos ez, e0, ek0]; rfl
          have eA : putA ll cap c page = [] := by unfold putA; rw [if_pos ez, e0, ek0]; rfl
          have hP := rnear_put_fit w p lb base vs ll cap h1 h2 c.toNat hk page hp.1 hp.2 hh (by omega) hfit
          rw [ek] at hP
          refine hP.mono ?_
          rintro e w' ⟨he, ⟨v', hN, hfr⟩, hx⟩
          refine ⟨_, by rw [ez]; exact he, NearF p lb (vs.set c.toNat v'), ⟨h0.put c page, lb, base, _, eL ▸ hN, Nat.le_trans h2 hx.size, rfl⟩, hx.mono (fun x _ (e : x = lb) => .inr (.inl e)), nearF_set (fun x hx => .inr (hfr x hx)), ?_⟩
          rw [eA]
          exact Ans.nil _ _
        · have ek0 : putK (nth ll c.toNat).length cap = ((nth ll c.toNat).length + 2) / 2 := by unfold putK; rw [if_neg hfit]
          obtain ⟨k, hk2⟩ : ∃ k, ((nth ll c.toNat).length + 2) / 2 = k := ⟨_, rfl⟩
          rw [hk2] at ek0
          have eL : putL ll cap c page = ll.set c.toNat ((nth ll c.toNat ++ [page]).drop k) := by unfold putL; rw [if_pos ez, e0, ek0]
          have eA : putA ll cap c page = (nth ll c.toNat ++ [page]).take k := by unfold putA; rw [if_pos ez, e0, ek0]
          have elen : ((nth ll c.toNat ++ [page]).take k).length = k := by simp; omega
          have hP := rnear_put_spill w p lb base vs ll cap h1 h2 c.toNat hk page hp.1 hp.2 hh (by omega) (by omega) k hk2
          rw [ek] at hP
          refine hP.mono ?_
          rintro e w' ⟨r, he, hrow, ⟨v', hN, hfr, hnot⟩, hx⟩
          refine ⟨r, by rw [ez]; exact he, NearF p lb (vs.set c.toNat v'), ⟨h0.put c page, lb, base, _, eL ▸ hN, Nat.le_trans h2 hx.size, rfl⟩, hx.mono (fun x _ (e : x = lb) => .inr (.inl e)), nearF_set (fun x hx => .inr (hfr x hx)), ?_⟩
          rw [eA]
          have hA := Ans.of_own (l := (nth ll c.toNat ++ [page]).take k) (by rw [elen]; exact hrow)
          refine hA.mono (fun b hb => ⟨fun hF => ?_, (hrow.lt b hb).1⟩)
          have hbb := (hrow.lt b hb).1
          rcases hF with h | h | ⟨i, hi2, ho⟩
          · omega
          · omega
          · rw [List.length_set] at hi2
            by_cases hic : i = c.toNat
            · subst hic
              rw [nth_set_eq _ hi2] at ho
              exact hnot b hb ho
            · rw [nth_set_ne _ hi2 hic] at ho
              have := ((h1.rows i (by rw [← h1.len]; exact hi2)).lt b ho).2
              omega
      · have e60 : putE ll c page = 60 := by unfold putE; rw [hi, hh]; simp [hp]
        refine (rnear_put_has w p lb base vs ll cap h1 c page hi hp.1 hp.2 hh).mono ?_
        rintro e w' ⟨he, rfl⟩
        exact ⟨_, by rw [e60]; exact he, hsame (by rw [e60]; decide) _ (Ext.refl _ _)⟩
    · have e9 : putE ll c page = 9 := by unfold putE; rw [hi]; simp; omega
      refine (rnear_put_page w p lb base vs ll cap h1 c page hi (by omega)).mono ?_
      rintro e w' ⟨he, rfl⟩
      exact ⟨_, by rw [e9]; exact he, hsame (by rw [e9]; decide) _ (Ext.refl _ _)⟩

/-! ### Both, side by side -/
/-- The program's near pages and the document's, with the same lists, in blocks of their own that are new since w0. -/
def NB (w0 w : World) (p q : Nat) (F G : Nat → Prop) (ll : List (List Int)) (cap : Int) : Prop :=
  NT w0 w p F ll cap ∧ NT w0 w q G ll cap 148 ∧ ∀ x, F x → ¬ G x
section
variable {w0 w w' : World} {p q : Nat} {F G : Nat → Prop} {ll L : List (List Int)} {cap : Int}
theorem NB.ext {S : Nat → Prop} (h : NB w0 w p q F G ll cap) (hx : Ext S w w') (hS : ∀ x, S x → ¬ F x ∧ ¬ G x ∧ w0.heap.size ≤ x) : NB w0 w' p q F G ll cap :=
  ⟨h.1.ext hx (fun x hf hs => (hS x hs).1 hf) (fun x hs => (hS x hs).2.2), h.2.1.ext hx (fun x hf hs => (hS x hs).2.1 hf) (fun x hs => (hS x hs).2.2), h.2.2⟩
theorem NB.extNo (h : NB w0 w p q F G ll cap) (hx : Ext No w w') : NB w0 w' p q F G ll cap := h.ext hx (fun _ h => h.elim)
/-- A step of the program's. -/
theorem NB.left {F' : Nat → Prop} (h : NB w0 w p q F G ll cap) (_h1 : NT w0 w' p F' L cap) (hx : Ext F w w') (hg : Grows w F F') : NT w0 w' q G ll cap 148 ∧ ∀ x, F' x → ¬ G x :=
  ⟨h.2.1.ext hx (fun x hG hF => h.2.2 x hF hG) h.1.f, fun x hx hG => by
    rcases hg x hx with h1 | h1
    · exact h.2.2 x h1 hG
    · have := h.2.1.s.lt x hG; omega⟩
end
end Go.Proofs.Ytjkknjohmekeiaa
/- A call of both near pages. No condition. -/
namespace Go.Proofs.Ytjkknjohmekeiaa
open Go.RowKit

section
variable {w0 w w' : World} {p q : Nat} {F G : Nat → Prop} {ll : List (List Int)} {cap : Int}
theorem NB.right {G' : Nat → Prop} {L : List (List Int)} (h1 : NT w0 w p F L cap) (hd : ∀ x, F x → ¬ G x) (h2 : NT w0 w' q G' L cap 148) (hx : Ext G w w') (hg : Grows w G G') (hf : ∀ x, G x → w0.heap.size ≤ x) : NB w0 w' p q F G' L cap :=
  ⟨h1.ext hx hd hf, h2, fun x hF hG => by
    rcases hg x hG with h | h
    · exact hd x hF h
    · have := h1.s.lt x hF; omega⟩
theorem rt_put (h : NT w0 w q G ll cap 148) (c page : Int) {E : Int} {L : List (List Int)} {A : List Int} (hE : putE ll c page = E) (hL : putL ll cap c page = L) (hA : putA ll cap c page = A) :
    Calls Try.prog 97 #[.pointer (some ⟨q, 0, none⟩), .int .i64 c, .int .i64 page] w fun e w' => ∃ r G', e = .returned (.tuple #[r, .int .i64 E]) ∧
      NT w0 w' q G' L cap 148 ∧ Ans w' r A (OutF w0 G') ∧ Ext G w w' ∧ Grows w G G' := by
  subst hE hL hA
  refine (rs_put w q G ll cap h.s c page).mono ?_
  rintro e w' ⟨r, he, hp⟩
  obtain ⟨F', g1, g2, g3, g4⟩ := h.post hp
  exact ⟨r, F', he, g1, g4.mono (fun b hb => ⟨hb.1, by have := h.x.size; have := hb.2; omega⟩), g2, g3⟩
theorem rt_take (h : NT w0 w q G ll cap 148) (c : Int) {X : Int} {B : Bool} {L : List (List Int)} (hX : takeX ll c = X) (hB : takeB ll c = B) (hL : dropL ll c = L) :
    Calls Try.prog 98 #[.pointer (some ⟨q, 0, none⟩), .int .i64 c] w fun e w' => ∃ G', e = .returned (.tuple #[.int .i64 X, .bool B]) ∧
      NT w0 w' q G' L cap 148 ∧ Ext G w w' ∧ Grows w G G' := by
  subst hX hB hL
  refine (rs_take w q G ll cap h.s c).mono ?_
  rintro e w' ⟨he, hp⟩
  obtain ⟨F', g1, g2, g3, _⟩ := h.post hp
  exact ⟨F', he, g1, g2, g3⟩
theorem rt_drain (h : NT w0 w q G ll cap 148) (c : Int) {A : List Int} {L : List (List Int)} (hA : listIn ll c = A) (hL : drainL ll c = L) :
    Calls Try.prog 99 #[.pointer (some ⟨q, 0, none⟩), .int .i64 c] w fun e w' => ∃ r G', e = .returned r ∧
      NT w0 w' q G' L cap 148 ∧ Ans w' r A (OutF w0 G') ∧ Ext G w w' ∧ Grows w G G' := by
  subst hA hL
  refine (rs_drain w q G ll cap h.s c).mono ?_
  rintro e w' ⟨r, he, hp⟩
  obtain ⟨F', g1, g2, g3, g4⟩ := h.post hp
  exact ⟨r, F', he, g1, g4.mono (fun b hb => ⟨hb.1, h.f b hb.2⟩), g2, g3⟩
theorem rt_list (h : NT w0 w q G ll cap 148) (c : Int) {A : List Int} (hA : listIn ll c = A) :
    Calls Try.prog 49 #[.pointer (some ⟨q, 0, none⟩), .int .i64 c] w fun e w' => ∃ r, e = .returned r ∧ Ans w' r A (fun b => w.heap.size ≤ b) ∧ Ext No w w' := by
  subst hA
  exact rs_list w q G ll cap h.s c
end

/-- Both stand. -/
def StepQ (w0 w : World) (p q : Nat) (cap : Int) : Prop := ∃ F G ll, NB w0 w p q F G ll cap

/-- An answer's cells may all be written: what that leaves of both. -/
theorem blk_len {cs : List Value} {n : Nat} {l : List Int} (h : cs.take n = l.map int) (hn : n = l.length) : n ≤ cs.length := by
  have := congrArg List.length h
  simp only [List.length_take, List.length_map] at this
  omega

set_option maxRecDepth 100000 in
set_option maxHeartbeats 3200000 in
theorem step47_spec (w0 w : World) (p q : Nat) (F G : Nat → Prop) (ll : List (List Int)) (cap : Int) (h : NB w0 w p q F G ll cap) (d : T3) :
    Calls Try.prog 47 #[.pointer (some ⟨p, 0, none⟩), .pointer (some ⟨q, 0, none⟩), .agg #[.int .i64 d.a, .int .i64 d.b, .int .i64 d.c]] w fun e w' => e = .returned (.bool true) ∧ StepQ w0 w' p q cap := by
  have k0 := Int.emod_nonneg d.a (show (4 : Int) ≠ 0 by omega)
  have k1 := Int.emod_lt_of_pos d.a (show (0 : Int) < 4 by omega)
  obtain ⟨kd, hkd⟩ : ∃ kd, d.a % 4 = kd := ⟨_, rfl⟩
  rw [hkd] at k0 k1
  have hkd' := Lib.hid hkd; clear hkd
  have hkk : Hid (kd = 0 ∨ kd = 1 ∨ kd = 2 ∨ kd = 3) := by show _ ∨ _; omega
  go_enter Try.func47, Try.ntmps47
  go_wp2_with fail
  refine (bring_spec _ _ _ (by decide) (by decide)).mono ?_
  rintro e w1 ⟨rfl, rfl⟩
  rw [hkd'.out]
  obtain ⟨W, hW⟩ : ∃ W, w.alloc (.cells #[.int .i64 d.a, .int .i64 d.b, .int .i64 d.c] 70) = W := ⟨_, rfl⟩
  obtain ⟨db, hdb⟩ : ∃ db, w.heap.size = db := ⟨_, rfl⟩
  have hD : Blk W db [.int .i64 d.a, .int .i64 d.b, .int .i64 d.c] 70 := by rw [← hW]; exact Blk.new' hdb.symm
  have hxW : Ext No w W := by rw [← hW]; exact (Ext.refl _ _).alloc _
  have hFd : ¬ F db := fun hf => by have := h.1.s.lt db hf; omega
  have hGd : ¬ G db := fun hf => by have := h.2.1.s.lt db hf; omega
  have hdlt : db < W.heap.size := hD.lt
  have h := h.extNo hxW
  rw [hW, hdb]
  clear hW hdb hxW
  have d1 := hD.cell' (i := 1) rfl
  have d2 := hD.cell' (i := 2) rfl
  obtain ⟨hp, hq, hd⟩ := h
  rcases hkk.out with rfl | rfl | rfl | rfl
  · go_wp2_with fail
    refine (nt_put hp d.b d.c rfl rfl rfl).mono ?_
    rintro e w2 ⟨r2, F2, rfl, h2, a2, x2, g2⟩
    obtain ⟨hq2, hd2⟩ := NB.left ⟨hp, hq, hd⟩ h2 x2 g2
    have d1 := x2.cell d1 hFd
    have d2 := x2.cell d2 hFd
    have a2 : Ans w2 r2 (putA ll cap d.b d.c) (fun b => ¬ F2 b ∧ ¬ G b ∧ w0.heap.size ≤ b) := a2.mono (fun b hb => ⟨hb.1.1, fun hg => by
      rcases hb.2 with h | h
      · exact hd b h hg
      · have := hq.s.lt b hg; omega, hb.1.2⟩)
    go_wp2_with fail
    refine (rt_put hq2 d.b d.c rfl rfl rfl).mono ?_
    rintro e w3 ⟨r3, G3, rfl, h3, a3, x3, g3⟩
    have hB3 := NB.right h2 hd2 h3 x3 g3 hq2.f
    have a2 : Ans w3 r2 (putA ll cap d.b d.c) (fun b => ¬ F2 b ∧ ¬ G3 b ∧ w0.heap.size ≤ b) := by
      rcases a2 with a2 | ⟨b, cs, cp, g0, g1, g2', g3', g4, g5, g6, g7⟩
      · exact .inl a2
      · refine .inr ⟨b, cs, cp, g0, g1, g2', g3'.ext x3 g6, g4, g5, fun hg => ?_, g7⟩
        rcases g3 b hg with h | h
        · exact g6 h
        · have := g3'.lt; omega
    go_wp2_with fail
    refine (eqInts_spec _ _ _ _ _ _ _ a2.rd a3.rd).mono ?_
    rintro e w4 ⟨rfl, n4, rfl⟩
    rw [decide_eq_true (rfl : putA ll cap d.b d.c = putA ll cap d.b d.c)]
    have hB4 := hB3.extNo ((Ext.refl No w3).drewN n4)
    have a2 := a2.keepNo ((Ext.refl No w3).drewN n4)
    obtain ⟨W4, hW4⟩ : ∃ W4, w3.drewN n4 = W4 := ⟨_, rfl⟩
    rw [hW4] at hB4 a2 ⊢
    clear hW4 hB3 a3 x3 g3 hq2 hd2 h2 h3 d1 d2 x2 g2 hp hq hd hD
    rcases a2 with ⟨aa, ca, rfl, hA, _⟩ | ⟨b, cs, cp, rfl, hl1, hl2, hBk, htk, hf1, hf2, hf3⟩
    · go_wp2_with fail
      go_loopg [11] 0 (fun g i wr => i = .int .i64 0 ∧ wr = W4)
      case atStart => exact ⟨rfl, rfl⟩
      case round =>
        obtain ⟨rfl, rfl⟩ := hrel
        go_wp2_with fail
        go_ret
        exact ⟨rfl, _, _, _, hB4⟩
    · obtain ⟨n, hn⟩ : ∃ n, (putA ll cap d.b d.c).length = n := ⟨_, rfl⟩
      rw [hn] at hl1 htk ⊢
      have hcl : n ≤ cs.length := blk_len htk hn.symm
      unfold maxLen at hl2
      clear htk hn
      go_wp2_with fail
      go_loopg [11] n (fun g i wr => ∃ k : Nat, k + g = n ∧ i = .int .i64 k ∧ Ext (One b) W4 wr ∧ ∃ cs' : List Value, Blk wr b cs' 3 ∧ cs'.length = cs.length)
      case atStart => exact ⟨0, by omega, rfl, Ext.refl _ _, cs, hBk, rfl⟩
      case round =>
        obtain ⟨k, hk, rfl, hx, cs', hB', hl'⟩ := hrel
        have hk' := Lib.hid hk
        have hkn : k ≤ n := by omega
        have hl'' := Lib.hid hl'
        clear hk hl'
        by_cases hlt : k < n
        · obtain ⟨u, hu⟩ : ∃ u, cs'[k]? = some u := ⟨_, List.getElem?_eq_getElem (by rw [hl''.out]; omega)⟩
          have ck := hB'.cell' hu
          have fk := hB'.frozen k
          have hBn := Lib.hid (hB'.set k (.int .i64 (-1)))
          have hu' := Lib.hid hu; clear hu
          go_wp2_with fail
          go_roundg (n - (k + 1))
          case measure => have := hk'.out; omega
          case rel => exact ⟨k + 1, by omega, by go_num, hx.trans (Ext.set1 _ _ _ _) (fun _ _ h => h), _, hBn.out, by rw [List.length_set]; exact hl''.out⟩
        · have hBe := hB4.ext hx (fun x (e : x = b) => by subst e; exact ⟨hf1, hf2, hf3⟩)
          go_wp2_with fail
          go_ret
          exact ⟨rfl, _, _, _, hBe⟩
  · go_wp2_with fail
    refine (nt_take hp d.b rfl rfl rfl).mono ?_
    rintro e w2 ⟨F2, rfl, h2, x2, g2⟩
    obtain ⟨hq2, hd2⟩ := NB.left ⟨hp, hq, hd⟩ h2 x2 g2
    have d1 := x2.cell d1 hFd
    go_wp2_with fail
    refine (rt_take hq2 d.b rfl rfl rfl).mono ?_
    rintro e w3 ⟨G3, rfl, h3, x3, g3⟩
    have hB3 := NB.right h2 hd2 h3 x3 g3 hq2.f
    clear hp hq hd h2 h3 hq2 hd2 d1 d2 x2 x3
    go_wp2_with fail
    go_ret
    exact ⟨rfl, _, _, _, hB3⟩
  · go_wp2_with fail
    have hxd : Ext No W W.drew := (Ext.refl No W).drew
    refine anyZ_begin 9 (fun w' => w'.cell? ⟨db, 1, none⟩ = some (.int .i64 d.b)) (by kernel_rfl) ?_
    have hC : (fun w' : World => w'.cell? ⟨db, 1, none⟩ = some (.int .i64 d.b)) W.drew := d1
    refine anyZ_take 0 (v := ?_) rfl (by kernel_rfl) (by kernel_rfl) (by kernel_rfl) (by kernel_rfl) (fun _ _ _ h => h) hC (Or.inl ⟨by rfl, ?_⟩) ?_
    rotate_left
    · (intro wq hq; (try dsimp only at hq); go_simp; with_reducible rfl)
    simp only [Act.put, List.setIfInBounds_toArray, List.set_cons_zero, List.set_cons_succ]
    refine anyZ_take 1 (v := ?_) rfl (by kernel_rfl) (by kernel_rfl) (by kernel_rfl) (by kernel_rfl) (fun _ _ _ h => h) hC (Or.inl ⟨by rfl, ?_⟩) ?_
    rotate_left
    · (intro wq hq; (try dsimp only at hq); go_simp; with_reducible rfl)
    simp only [Act.put, List.setIfInBounds_toArray, List.set_cons_zero, List.set_cons_succ]
    refine anyZ_take 2 (v := ?_) rfl (by kernel_rfl) (by kernel_rfl) (by kernel_rfl) (by kernel_rfl) (fun _ _ _ h => h) hC (Or.inl ⟨by rfl, ?_⟩) ?_
    rotate_left
    · (intro wq hq; (try dsimp only at hq); go_simp; with_reducible rfl)
    simp only [Act.put, List.setIfInBounds_toArray, List.set_cons_zero, List.set_cons_succ]
    refine anyZ_take 4 (v := ?_) rfl (by kernel_rfl) (by kernel_rfl) (by kernel_rfl) (by kernel_rfl) (fun _ _ _ h => h) hC (Or.inl ⟨by rfl, ?_⟩) ?_
    rotate_left
    · (intro wq hq; (try dsimp only at hq); go_simp; with_reducible rfl)
    simp only [Act.put, List.setIfInBounds_toArray, List.set_cons_zero, List.set_cons_succ]
    refine anyZ_take 5 (v := ?_) rfl (by kernel_rfl) (by kernel_rfl) (by kernel_rfl) (by kernel_rfl) (fun _ _ _ h => h) hC (Or.inl ⟨by rfl, ?_⟩) ?_
    rotate_left
    · (intro wq hq; (try dsimp only at hq); go_simp; with_reducible rfl)
    simp only [Act.put, List.setIfInBounds_toArray, List.set_cons_zero, List.set_cons_succ]
    refine anyZ_take 6 (v := ?_) rfl (by kernel_rfl) (by kernel_rfl) (by kernel_rfl) (by kernel_rfl) (fun _ _ _ h => h) hC (Or.inl ⟨by rfl, ?_⟩) ?_
    rotate_left
    · (intro wq hq; (try dsimp only at hq); go_simp; with_reducible rfl)
    simp only [Act.put, List.setIfInBounds_toArray, List.set_cons_zero, List.set_cons_succ]
    refine anyZ_step 3 rfl (by kernel_rfl) (fun K hK => ?_)
    go_simp
    have hp := hp.extNo hxd
    have hq := hq.extNo hxd
    refine (nt_drain hp d.b rfl rfl).mono ?_
    rintro e w2 ⟨r2, F2, rfl, h2, a2, x2, g2⟩
    obtain ⟨hq2, hd2⟩ := NB.left ⟨hp, hq, hd⟩ h2 x2 g2
    have hC2 : (fun w' : World => w'.cell? ⟨db, 1, none⟩ = some (.int .i64 d.b)) w2 := x2.cell d1 hFd
    have a2 : Ans w2 r2 (listIn ll d.b) (fun b => ¬ G b) := a2.mono (fun b hb hg => by
      rcases hb.2 with h | h
      · exact hd b h hg
      · have := hq.s.lt b hg; omega)
    refine hK _ _ hC2 ?_
    clear hK K
    try simp only [Act.put, List.setIfInBounds_toArray, List.set_cons_zero, List.set_cons_succ]
    refine anyZ_step 7 rfl (by kernel_rfl) (fun K hK => ?_)
    go_simp
    refine (rt_drain hq2 d.b rfl rfl).mono ?_
    rintro e w3 ⟨r3, G3, rfl, h3, a3, x3, g3⟩
    have hB3 := NB.right h2 hd2 h3 x3 g3 hq2.f
    have a2 := a2.ext x3 (fun x hx hg => hx hg)
    have hC3 : (fun w' : World => w'.cell? ⟨db, 1, none⟩ = some (.int .i64 d.b)) w3 := x3.cell hC2 hGd
    refine hK _ _ hC3 ?_
    clear hK K
    try simp only [Act.put, List.setIfInBounds_toArray, List.set_cons_zero, List.set_cons_succ]
    refine anyZ_step 8 rfl (by kernel_rfl) (fun K hK => ?_)
    go_simp
    refine (eqInts_spec _ _ _ _ _ _ _ a2.rd a3.rd).mono ?_
    rintro e w4 ⟨rfl, n4, rfl⟩
    rw [decide_eq_true (rfl : listIn ll d.b = listIn ll d.b)]
    have hB4 := hB3.extNo ((Ext.refl No w3).drewN n4)
    have hC4 : (fun w' : World => w'.cell? ⟨db, 1, none⟩ = some (.int .i64 d.b)) (w3.drewN n4) := ((Ext.refl No w3).drewN n4).cell hC3 id
    refine hK _ _ hC4 ?_
    clear hK K
    try simp only [Act.put, List.setIfInBounds_toArray, List.set_cons_zero, List.set_cons_succ]
    clear hB3 a2 a3 h2 h3 hq2 hd2 x2 x3 hp hq hd d1 d2 hC hC2 hC3
    refine anyZ_last rfl (by kernel_rfl) (fun K hK => ?_)
    go_simp
    refine hK _ _ ?_
    clear hK K
    try simp only [Act.put, List.setIfInBounds_toArray, List.set_cons_zero, List.set_cons_succ]
    refine anyZ_done (by kernel_rfl) ?_ _
    go_wp2_with fail
    go_ret
    exact ⟨rfl, _, _, _, hB4⟩
  · go_wp2_with fail
    have hxd : Ext No W W.drew := (Ext.refl No W).drew
    refine anyZ_begin 9 (fun w' => w'.cell? ⟨db, 2, none⟩ = some (.int .i64 d.c)) (by kernel_rfl) ?_
    have hC : (fun w' : World => w'.cell? ⟨db, 2, none⟩ = some (.int .i64 d.c)) W.drew := d2
    refine anyZ_take 0 (v := ?_) rfl (by kernel_rfl) (by kernel_rfl) (by kernel_rfl) (by kernel_rfl) (fun _ _ _ h => h) hC (Or.inl ⟨by rfl, ?_⟩) ?_
    rotate_left
    · (intro wq hq; (try dsimp only at hq); go_simp; with_reducible rfl)
    simp only [Act.put, List.setIfInBounds_toArray, List.set_cons_zero, List.set_cons_succ]
    refine anyZ_take 1 (v := ?_) rfl (by kernel_rfl) (by kernel_rfl) (by kernel_rfl) (by kernel_rfl) (fun _ _ _ h => h) hC (Or.inl ⟨by rfl, ?_⟩) ?_
    rotate_left
    · (intro wq hq; (try dsimp only at hq); go_simp; with_reducible rfl)
    simp only [Act.put, List.setIfInBounds_toArray, List.set_cons_zero, List.set_cons_succ]
    refine anyZ_take 2 (v := ?_) rfl (by kernel_rfl) (by kernel_rfl) (by kernel_rfl) (by kernel_rfl) (fun _ _ _ h => h) hC (Or.inl ⟨by rfl, ?_⟩) ?_
    rotate_left
    · (intro wq hq; (try dsimp only at hq); go_simp; with_reducible rfl)
    simp only [Act.put, List.setIfInBounds_toArray, List.set_cons_zero, List.set_cons_succ]
    refine anyZ_take 4 (v := ?_) rfl (by kernel_rfl) (by kernel_rfl) (by kernel_rfl) (by kernel_rfl) (fun _ _ _ h => h) hC (Or.inl ⟨by rfl, ?_⟩) ?_
    rotate_left
    · (intro wq hq; (try dsimp only at hq); go_simp; with_reducible rfl)
    simp only [Act.put, List.setIfInBounds_toArray, List.set_cons_zero, List.set_cons_succ]
    refine anyZ_take 5 (v := ?_) rfl (by kernel_rfl) (by kernel_rfl) (by kernel_rfl) (by kernel_rfl) (fun _ _ _ h => h) hC (Or.inl ⟨by rfl, ?_⟩) ?_
    rotate_left
    · (intro wq hq; (try dsimp only at hq); go_simp; with_reducible rfl)
    simp only [Act.put, List.setIfInBounds_toArray, List.set_cons_zero, List.set_cons_succ]
    refine anyZ_take 6 (v := ?_) rfl (by kernel_rfl) (by kernel_rfl) (by kernel_rfl) (by kernel_rfl) (fun _ _ _ h => h) hC (Or.inl ⟨by rfl, ?_⟩) ?_
    rotate_left
    · (intro wq hq; (try dsimp only at hq); go_simp; with_reducible rfl)
    simp only [Act.put, List.setIfInBounds_toArray, List.set_cons_zero, List.set_cons_succ]
    refine anyZ_step 3 rfl (by kernel_rfl) (fun K hK => ?_)
    go_simp
    have hB := NB.extNo ⟨hp, hq, hd⟩ hxd
    refine (nt_has hB.1 d.c rfl).mono ?_
    rintro e w2 ⟨rfl, _, x2⟩
    have hC2 : (fun w' : World => w'.cell? ⟨db, 2, none⟩ = some (.int .i64 d.c)) w2 := x2.cell d2 id
    have hB := hB.extNo x2
    refine hK _ _ hC2 ?_
    clear hK K
    try simp only [Act.put, List.setIfInBounds_toArray, List.set_cons_zero, List.set_cons_succ]
    refine anyZ_step 7 rfl (by kernel_rfl) (fun K hK => ?_)
    go_simp
    refine (rs_has _ _ _ _ _ hB.2.1.s d.c).mono ?_
    rintro e w3 ⟨rfl, rfl⟩
    refine hK _ _ hC2 ?_
    clear hK K
    try simp only [Act.put, List.setIfInBounds_toArray, List.set_cons_zero, List.set_cons_succ]
    refine anyZ_take 8 (v := ?_) rfl (by kernel_rfl) (by kernel_rfl) (by kernel_rfl) (by kernel_rfl) (fun _ _ _ h => h) hC2 (Or.inl ⟨by rfl, ?_⟩) ?_
    rotate_left
    · (intro wq hq; (try dsimp only at hq); go_simp; with_reducible rfl)
    simp only [Act.put, List.setIfInBounds_toArray, List.set_cons_zero, List.set_cons_succ]
    clear hp hq hd d1 d2 hC hC2 x2
    refine anyZ_last rfl (by kernel_rfl) (fun K hK => ?_)
    go_simp
    refine hK _ _ ?_
    clear hK K
    try simp only [Act.put, List.setIfInBounds_toArray, List.set_cons_zero, List.set_cons_succ]
    refine anyZ_done (by kernel_rfl) ?_ _
    go_wp2_with fail
    go_ret
    exact ⟨rfl, _, _, _, hB⟩
end Go.Proofs.Ytjkknjohmekeiaa
/- The law NearPlays, walked. No condition. -/
namespace Go.Proofs.Ytjkknjohmekeiaa
open Go.RowKit

theorem rt_new (w0 w : World) (hx : Ext No w0 w) (cpus cap : Int) (h1 : 1 ≤ cpus) (h2 : cpus ≤ 8) (h3 : 0 ≤ cap) (h4 : cap ≤ 64) (L : List (List Int)) (hL : List.replicate cpus.toNat [] = L) :
    Calls Try.prog 46 #[.int .i64 cpus, .int .i64 cap] w fun e w' => ∃ p F, e = .returned (.tuple #[.pointer (some ⟨p, 0, none⟩), .int .i64 0]) ∧ NT w0 w' p F L cap 148 ∧ (∀ x, F x → w.heap.size ≤ x) ∧ Ext No w w' := by
  refine (rs_new w cpus cap).mono ?_
  intro e w' h
  rw [if_pos ⟨⟨h1, h2⟩, h3, h4⟩, hL] at h
  obtain ⟨p, F, e1, e2, e3, e4, e5⟩ := h
  exact ⟨p, F, e1, ⟨hx.transNo e5, e2, fun x h => by have := e3 x h; have := hx.size; omega⟩, e3, e5⟩
theorem n_new_bad (w : World) (cpus cap : Int) (h : ¬ ((1 ≤ cpus ∧ cpus ≤ 8) ∧ 0 ≤ cap ∧ cap ≤ 64)) :
    Calls Try.prog 45 #[.int .i64 cpus, .int .i64 cap] w fun e w' => e = .returned (.tuple #[.pointer none, .int .i64 2]) ∧ w = w' := by
  refine (ns_new w cpus cap).mono ?_
  intro e w' h1
  rw [if_neg h] at h1; exact h1
theorem r_new_bad (w : World) (cpus cap : Int) (h : ¬ ((1 ≤ cpus ∧ cpus ≤ 8) ∧ 0 ≤ cap ∧ cap ≤ 64)) :
    Calls Try.prog 46 #[.int .i64 cpus, .int .i64 cap] w fun e w' => e = .returned (.tuple #[.pointer none, .int .i64 2]) ∧ w = w' := by
  refine (rs_new w cpus cap).mono ?_
  intro e w' h1
  rw [if_neg h] at h1; exact h1

set_option maxRecDepth 100000 in
set_option maxHeartbeats 3200000 in
theorem nearPlays_core (w : World) (cpus limit : Int) (v : Value) (l : List T3) (G0 : Nat → Prop) (hv : RdT G0 w v l) :
    Calls Try.prog 10 #[.int .i64 cpus, .int .i64 limit, v] w fun e w' => e = .returned (.bool true) ∧ Ext No w w' := by
  obtain ⟨a, cpa, rfl, _, _⟩ := hv.val
  by_cases hok : (1 ≤ cpus ∧ cpus ≤ 8) ∧ 0 ≤ limit ∧ limit ≤ 64
  · obtain ⟨⟨o1, o2⟩, o3, o4⟩ := hok
    go_enter Try.func10, Try.ntmps10
    go_wp2_with fail
    refine (nt_new w w (Ext.refl _ _) cpus limit o1 o2 o3 o4 _ rfl).mono ?_
    rintro e w1 ⟨p, F, rfl, h1, hF1, hp, x1⟩
    go_wp2_with fail
    refine (rt_new w w1 x1 cpus limit o1 o2 o3 o4 _ rfl).mono ?_
    rintro e w2 ⟨q, G, rfl, h2, hG2, x2⟩
    have hB : StepQ w w2 p q limit := ⟨F, G, _, h1.extNo x2, h2, fun x hF hG => by have := h1.s.lt x hF; have := hG2 x hG; omega⟩
    clear h1 h2 hF1 hG2 x1 x2 hp
    go_wp2_with fail
    go_loopg [11] l.length (fun g i wr => ∃ k : Nat, k + g = l.length ∧ i = .int .i64 k ∧ StepQ w wr p q limit)
    case atStart => exact ⟨0, by omega, rfl, hB⟩
    case round =>
      clear hB
      obtain ⟨k, hk, rfl, F, G, ll, hB⟩ := hrel
      have hk' := Lib.hid hk
      have hkn : k ≤ l.length := by omega
      clear hk
      have X := hB.1.x
      by_cases hlt : k < l.length
      · by_cases h150 : k < 150
        · obtain ⟨b, off, rfl, _, _, x0, x1, x2⟩ := (hv.extNo X).at hlt
          clear X
          go_wp2_with fail
          refine (step47_spec w wr p q F G ll limit hB (nth l k)).mono ?_
          rintro e w3 ⟨rfl, hB3⟩
          clear hB x0 x1 x2
          go_wp2_with fail
          go_loopg [12] 10 (fun g i wr => ∃ c : Int, -1 ≤ c ∧ c + (g : Int) = 9 ∧ i = .int .i64 c ∧ StepQ w wr p q limit)
          case atStart => exact ⟨-1, by omega, by omega, rfl, hB3⟩
          case round =>
            clear hB3
            obtain ⟨c, hc0, hcg, rfl, F, G, ll, hB⟩ := hrel
            have hcg' := Lib.hid hcg
            have hc9 : c ≤ 9 := by omega
            clear hcg
            by_cases hc : c < 9
            · go_wp2_with fail
              refine (nt_list hB.1 c rfl).mono ?_
              rintro e w4 ⟨r4, rfl, _, a4, x4⟩
              have hB4 := hB.extNo x4
              have a4 : Ans w4 r4 (listIn ll c) (fun b => ¬ F b ∧ ¬ G b ∧ w.heap.size ≤ b) := a4.mono (fun b hb => ⟨hb.1.1, fun hg => by have := hB.2.1.s.lt b hg; have := hb.2; omega, hb.1.2⟩)
              go_wp2_with fail
              refine (rt_list hB4.2.1 c rfl).mono ?_
              rintro e w5 ⟨r5, rfl, a5, x5⟩
              have hB5 := hB4.extNo x5
              have a4 := a4.keepNo x5
              go_wp2_with fail
              refine (eqInts_spec _ _ _ _ _ _ _ a4.rd a5.rd).mono ?_
              rintro e w6 ⟨rfl, n6, rfl⟩
              rw [decide_eq_true (rfl : listIn ll c = listIn ll c)]
              have hB6 := hB5.extNo ((Ext.refl No w5).drewN n6)
              have a4 := a4.keepNo ((Ext.refl No w5).drewN n6)
              obtain ⟨W4, hW4⟩ : ∃ W4, w5.drewN n6 = W4 := ⟨_, rfl⟩
              rw [hW4] at hB6 a4 ⊢
              clear hW4 hB5 hB4 hB x4 x5 a5
              rcases a4 with ⟨aa, ca, rfl, hA, _⟩ | ⟨b4, cs, cp, rfl, hl1, hl2, hBk, htk, hf1, hf2, hf3⟩
              · go_wp2_with fail
                go_loopg [14] 0 (fun g i wr => i = .int .i64 0 ∧ wr = W4)
                case atStart => exact ⟨rfl, rfl⟩
                case round =>
                  obtain ⟨rfl, rfl⟩ := hrel
                  go_wp2_with fail
                  go_roundg ((9 - (c + 1)).toNat)
                  case measure => have := hcg'.out; omega
                  case rel => exact ⟨c + 1, by omega, by omega, by go_num, F, G, ll, hB6⟩
              · obtain ⟨n, hn⟩ : ∃ n, (listIn ll c).length = n := ⟨_, rfl⟩
                rw [hn] at hl1 htk ⊢
                have hcl : n ≤ cs.length := blk_len htk hn.symm
                unfold maxLen at hl2
                clear htk hn
                go_wp2_with fail
                go_loopg [14] n (fun g i wr => ∃ k : Nat, k + g = n ∧ i = .int .i64 k ∧ Ext (One b4) W4 wr ∧ ∃ cs' : List Value, Blk wr b4 cs' 3 ∧ cs'.length = cs.length)
                case atStart => exact ⟨0, by omega, rfl, Ext.refl _ _, cs, hBk, rfl⟩
                case round =>
                  obtain ⟨m, hm, rfl, hx, cs', hB', hl'⟩ := hrel
                  have hm' := Lib.hid hm
                  have hmn : m ≤ n := by omega
                  have hl'' := Lib.hid hl'
                  clear hm hl'
                  by_cases hlt : m < n
                  · obtain ⟨u, hu⟩ : ∃ u, cs'[m]? = some u := ⟨_, List.getElem?_eq_getElem (by rw [hl''.out]; omega)⟩
                    have ck := hB'.cell' hu
                    have fk := hB'.frozen m
                    have hBn := Lib.hid (hB'.set m (.int .i64 (-1)))
                    have hu' := Lib.hid hu; clear hu
                    go_wp2_with fail
                    go_roundg (n - (m + 1))
                    case measure => have := hm'.out; omega
                    case rel => exact ⟨m + 1, by omega, by go_num, hx.trans (Ext.set1 _ _ _ _) (fun _ _ h => h), _, hBn.out, by rw [List.length_set]; exact hl''.out⟩
                  · have hBe := hB6.ext hx (fun x (e : x = b4) => by subst e; exact ⟨hf1, hf2, hf3⟩)
                    go_wp2_with fail
                    go_roundg ((9 - (c + 1)).toNat)
                    case measure => have := hcg'.out; omega
                    case rel => exact ⟨c + 1, by omega, by omega, by go_num, F, G, ll, hBe⟩
            · have hBq : StepQ w wr p q limit := ⟨F, G, ll, hB⟩
              clear hB
              go_wp2_with fail
              go_roundg (l.length - (k + 1))
              case measure => have := hk'.out; omega
              case rel => exact ⟨k + 1, by omega, by go_num, hBq⟩
        · clear hB
          go_wp2_with fail
          refine (works50_spec _).mono ?_
          rintro e w2 ⟨rfl, x2⟩
          go_wp2_with fail
          go_ret
          exact ⟨rfl, X.transNo x2⟩
      · clear hB
        go_wp2_with fail
        refine (works50_spec _).mono ?_
        rintro e w2 ⟨rfl, x2⟩
        go_wp2_with fail
        go_ret
        exact ⟨rfl, X.transNo x2⟩
  · have hok' := Lib.hid hok
    clear hok
    go_enter Try.func10, Try.ntmps10
    go_wp2_with fail
    refine (n_new_bad w cpus limit hok'.out).mono ?_
    rintro e w1 ⟨rfl, rfl⟩
    go_wp2_with fail
    refine (r_new_bad w cpus limit hok'.out).mono ?_
    rintro e w1 ⟨rfl, rfl⟩
    go_wp2_with fail
    go_loopg [11] 0 (fun g i wr => i = .int .i64 0 ∧ wr = w)
    case atStart => exact ⟨rfl, rfl⟩
    case round =>
      obtain ⟨rfl, rfl⟩ := hrel
      by_cases hl : 0 < l.length
      · go_wp2_with fail
        refine (works50_spec _).mono ?_
        rintro e w2 ⟨rfl, x2⟩
        go_wp2_with fail
        go_ret
        exact ⟨rfl, x2⟩
      · go_wp2_with fail
        refine (works50_spec _).mono ?_
        rintro e w2 ⟨rfl, x2⟩
        go_wp2_with fail
        go_ret
        exact ⟨rfl, x2⟩

theorem nearPlays_walk (w : World) (cpus : Int) (_ : (Lit.int .i64 cpus).wf = true) (limit : Int) (_ : (Lit.int .i64 limit).wf = true) (v : Value) (l : List T3) (hv : RdT (Iv 0 w.heap.size) w v l) (_ : l.length * 24 ≤ reachBytes ∧ ∀ x ∈ l, T3wf x) :
    Calls Try.prog 10 #[.int .i64 cpus, .int .i64 limit, v] w fun e w' => e = .returned (.bool true) ∧ Below w.heap.size w w' :=
  (nearPlays_core w cpus limit v l _ hv).mono fun _ _ ⟨h1, h2⟩ => ⟨h1, h2.belowNo⟩
end Go.Proofs.Ytjkknjohmekeiaa
