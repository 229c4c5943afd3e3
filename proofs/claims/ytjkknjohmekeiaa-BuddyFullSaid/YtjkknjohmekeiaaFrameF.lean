/- Set of a table. No condition. -/
import Derived.Test.YtjkknjohmekeiaaFrameE
import Derived.Test.YtjkknjohmekeiaaAny
namespace Go.Proofs.Ytjkknjohmekeiaa
open Go.RowKit

/-! ### A row of triples that is owned: one stored anew -/
theorem t3s_set {l : List T3} {k : Nat} (hk : k < l.length) (x : T3) : (((t3sCells l).set (k * 3) (.int .i64 x.a)).set (k * 3 + 1) (.int .i64 x.b)).set (k * 3 + 2) (.int .i64 x.c) = t3sCells (l.set k x) := by
  induction l generalizing k with
  | nil => simp at hk
  | cons y l ih =>
    cases k with
    | zero => simp [t3sCells, t3Cells]
    | succ k =>
      have h := ih (k := k) (by simpa using hk)
      have e : ∀ (l : List T3), t3sCells (y :: l) = .int .i64 y.a :: .int .i64 y.b :: .int .i64 y.c :: t3sCells l := fun l => rfl
      rw [List.set_cons_succ, e, e, ← h]
      rw [show (k + 1) * 3 = k * 3 + 1 + 1 + 1 by omega]
      simp only [List.set_cons_succ]
theorem own3_at {w : World} {base e : Nat} {v : Value} {l : List T3} (h : w.ownsRow base e 3 v l.length (t3sCells l)) {k : Nat} (hk : k < l.length) :
    ∃ b cap, v = .slice (some ⟨b, 0, none⟩) l.length cap ∧ l.length ≤ cap ∧ cap ≤ 9223372036854775807 ∧ OwnOf v b ∧ b < w.heap.size ∧ base ≤ b ∧
      (w.cell? ⟨b, k * 3, none⟩ = some (.int .i64 (nth l k).a) ∧ w.cell? ⟨b, k * 3 + 1, none⟩ = some (.int .i64 (nth l k).b) ∧ w.cell? ⟨b, k * 3 + 2, none⟩ = some (.int .i64 (nth l k).c)) ∧
      (∀ i, w.frozen? ⟨b, i, none⟩ = false) ∧
      ∀ x : T3, (((w.setCell ⟨b, k * 3, none⟩ (.int .i64 x.a)).setCell ⟨b, k * 3 + 1, none⟩ (.int .i64 x.b)).setCell ⟨b, k * 3 + 2, none⟩ (.int .i64 x.c)).ownsRow base e 3 v (l.set k x).length (t3sCells (l.set k x)) := by
  obtain ⟨hl, ⟨rfl, h0⟩ | ⟨g, cap, cur, rfl, hb, hg, hn, hm, hs, ht⟩⟩ := id h
  · omega
  · have hB : Blk w g cur.toList e := by unfold Blk; rw [hg]
    have hcur : cur.toList.take (l.length * 3) = t3sCells l := ht
    have hat : ∀ i, i < 3 → cur.toList[k * 3 + i]? = (t3Cells (nth l k))[i]? := by
      intro i hi
      have h1 := t3sCells_at hk hi
      rw [← hcur, List.getElem?_take, if_pos (by omega)] at h1
      exact h1
    refine ⟨g, cap, rfl, hn, by simpa [maxLen] using hm, rfl, hB.lt, hb, ⟨?_, ?_, ?_⟩, fun i => hB.frozen i, fun x => ?_⟩
    · have := hat 0 (by omega); exact hB.cell' (by simpa [t3Cells] using this)
    · have := hat 1 (by omega); exact hB.cell' (by simpa [t3Cells] using this)
    · have := hat 2 (by omega); exact hB.cell' (by simpa [t3Cells] using this)
    · have hB3 := ((hB.set (k * 3) (.int .i64 x.a)).set (k * 3 + 1) (.int .i64 x.b)).set (k * 3 + 2) (.int .i64 x.c)
      refine ⟨by rw [t3sCells_len], .inr ⟨g, cap, _, by rw [List.length_set], hb, hB3, by rw [List.length_set]; exact hn, hm, by simp; exact hs, ?_⟩⟩
      rw [List.length_set, ← t3s_set hk, ← hcur]
      simp only [List.take_set]

theorem own3_at2 {w : World} {base e n : Nat} {v : Value} {l : List T3} (h : w.ownsRow base e 3 v n (t3sCells l)) (hn : l.length = n) {k : Nat} (hk : k < n) :
    ∃ b cap, v = .slice (some ⟨b, 0, none⟩) n cap ∧ n ≤ cap ∧ cap ≤ 9223372036854775807 ∧ OwnOf v b ∧ b < w.heap.size ∧ base ≤ b ∧
      (w.cell? ⟨b, k * 3, none⟩ = some (.int .i64 (nth l k).a) ∧ w.cell? ⟨b, k * 3 + 1, none⟩ = some (.int .i64 (nth l k).b) ∧ w.cell? ⟨b, k * 3 + 2, none⟩ = some (.int .i64 (nth l k).c)) ∧
      (∀ i, w.frozen? ⟨b, i, none⟩ = false) ∧
      ∀ x : T3, (((w.setCell ⟨b, k * 3, none⟩ (.int .i64 x.a)).setCell ⟨b, k * 3 + 1, none⟩ (.int .i64 x.b)).setCell ⟨b, k * 3 + 2, none⟩ (.int .i64 x.c)).ownsRow base e 3 v n (t3sCells (l.set k x)) := by
  subst hn
  obtain ⟨b, cap, h1, h2, h3, h4, h5, h6, h7, h8, h9⟩ := own3_at h hk
  exact ⟨b, cap, h1, h2, h3, h4, h5, h6, h7, h8, fun x => by have := h9 x; rw [List.length_set] at this; exact this⟩
theorem Ext.set3 (w : World) (b i j k : Nat) (u v x : Value) : Ext (One b) w (((w.setCell ⟨b, i, none⟩ u).setCell ⟨b, j, none⟩ v).setCell ⟨b, k, none⟩ x) :=
  ((Ext.set1 w b i u).transSame (Ext.set1 _ b j v)).transSame (Ext.set1 _ b k x)

/-! ### Set -/
def setE (l : List T3) (page : Int) (p : T3) : Int :=
  if tabOk l then if headB p then if 0 ≤ page ∧ page % sz p = 0 ∧ page + sz p ≤ l.length then if p.b < (nth l (headF l page).toNat).b then 50 else 0 else 9 else 2 else 50
/-- A block laid as far as k pages behind its head. -/
def setK (l : List T3) (i : Nat) (p : T3) (k : Nat) : List T3 := l.take i ++ (p :: List.replicate k inside) ++ l.drop (i + 1 + k)
theorem setK_len {l : List T3} {i k : Nat} {p : T3} (h : i + 1 + k ≤ l.length) : (setK l i p k).length = l.length := by
  unfold setK; simp; omega
theorem setK_zero {l : List T3} {i : Nat} {p : T3} (h : i < l.length) : l.set i p = setK l i p 0 := by
  unfold setK
  rw [List.set_eq_take_append_cons_drop, if_pos h]
  simp
theorem setK_succ {l : List T3} {i k : Nat} {p : T3} (h : i + 1 + k < l.length) : (setK l i p k).set (i + 1 + k) inside = setK l i p (k + 1) := by
  unfold setK
  have h1 : (l.take i ++ (p :: List.replicate k inside)).length = i + 1 + k := by simp; omega
  rw [List.set_append_right _ _ (by omega), h1, Nat.sub_self, List.drop_eq_getElem_cons h, List.set_cons_zero]
  rw [List.replicate_succ']
  simp [Nat.add_assoc]
theorem setK_all {l : List T3} {i : Nat} {p : T3} : setK l i p (sz p - 1) = setL l i p := by
  have := sz_pos p
  unfold setK setL
  rw [show i + 1 + (sz p - 1) = i + sz p by omega]

set_option maxRecDepth 100000 in
set_option maxHeartbeats 3200000 in
theorem set60_good (w : World) (v : Value) (l : List T3) (G : Nat → Prop) (hv : RdT G w v l) (i : Nat) (p : T3) (ht : tabOk l = true) (hp : headB p = true) (h1 : i % sz p = 0) (h2 : i + sz p ≤ l.length) (h3 : (nth l (headF l i).toNat).b ≤ p.b) :
    Calls Try.prog 60 #[v, .int .i64 i, .agg #[.int .i64 p.a, .int .i64 p.b, .int .i64 p.c]] w fun e w' => ∃ r, e = .returned (.tuple #[r, .int .i64 0]) ∧ w'.ownsRow w.heap.size 98 3 r l.length (t3sCells (setL l i p)) ∧ Ext No w w' := by
  obtain ⟨a, cap, rfl, _, hcap⟩ := hv.val
  obtain ⟨t0, t1, hva⟩ := tab_iff.1 ht
  have hc := Lib.hid (chk_ok ht)
  have ht' := Lib.hid ht
  have hp' := Lib.hid hp
  obtain ⟨hsh, z1, z2⟩ := shl_ord hp
  have hm := and_mask i p (by omega) hp
  rw [h1] at hm
  obtain ⟨z, hz⟩ : ∃ z, sz p = z := ⟨_, rfl⟩
  have hz' := Lib.hid hz
  rw [hz] at hsh z1 z2 hm h1 h2
  obtain ⟨hd, hhd⟩ := hd_ex hva (show i < l.length by omega)
  have hdf := headF_eq hva (show i < l.length by omega) hhd
  have hdl := hhd.hlt (show i < l.length by omega)
  rw [hdf, Int.toNat_natCast] at h3
  have hdf' := Lib.hid hdf
  have g1 : (i : Int) + z ≤ l.length := by omega
  have g2 : decide ((l.length : Int) < i + z) = false := decide_eq_false (by omega)
  have g3 : decide (p.b < (nth l hd).b) = false := decide_eq_false (by omega)
  clear ht hp hz hdf h1
  go_enter Try.func60, Try.ntmps60
  go_wp2_with fail
  have hxa : Ext No w (w.alloc (.cells #[.int .i64 p.a, .int .i64 p.b, .int .i64 p.c] 98)) := (Ext.refl _ _).alloc _
  obtain ⟨A, hA⟩ : ∃ A, w.heap.size = A := ⟨_, rfl⟩
  have hP : Blk (w.alloc (.cells #[.int .i64 p.a, .int .i64 p.b, .int .i64 p.c] 98)) A [.int .i64 p.a, .int .i64 p.b, .int .i64 p.c] 98 := Blk.new' hA.symm
  rw [hA]
  refine (check61_spec _ _ l G (hv.extNo hxa)).mono ?_
  rintro e w1 ⟨rfl, hx1⟩
  rw [hc.out]
  have hX1 := hxa.transNo hx1
  have hP1 := hP.extNo hx1
  have p0 := hP1.cell' (i := 0) rfl
  have p1 := hP1.cell' (i := 1) rfl
  have p2 := hP1.cell' (i := 2) rfl
  clear hP hx1
  go_wp2_with fail
  refine (headed_spec _ p).mono ?_
  rintro e w2 ⟨rfl, hx2⟩
  rw [hp'.out]
  have hX2 := hX1.transNo hx2
  have hP2 := hP1.extNo hx2
  clear p0 p1 p2
  have p0 := hP2.cell' (i := 0) rfl
  have p1 := hP2.cell' (i := 1) rfl
  have p2 := hP2.cell' (i := 2) rfl
  clear hP1 hX1 hx2
  go_wp2_with fail
  obtain ⟨b, off, rfl, _, _, y0, y1, y2⟩ := hv.at hdl
  have hxd : Ext No w2 w2.drew := (Ext.refl No w2).drew
  have y1' := Lib.hid y1
  clear y0 y1 y2
  refine anyZ_begin 10 (fun w' => w'.cell? ⟨b, off + hd * 3 + 1, none⟩ = some (.int .i64 (nth l hd).b) ∧ w'.cell? ⟨A, 1, none⟩ = some (.int .i64 p.b)) (by kernel_rfl) ?_
  have hC : (fun w' : World => w'.cell? ⟨b, off + hd * 3 + 1, none⟩ = some (.int .i64 (nth l hd).b) ∧ w'.cell? ⟨A, 1, none⟩ = some (.int .i64 p.b)) w2.drew := ⟨(hX2.transNo hxd).cell y1'.out id, p1⟩
  refine anyZ_take 0 (v := ?_) rfl (by kernel_rfl) (by kernel_rfl) (by kernel_rfl) (by kernel_rfl) (fun _ _ _ h => h) hC (Or.inl ⟨by rfl, ?_⟩) ?_
  rotate_left
  · (intro wq hq; (try dsimp only at hq); go_simp; with_reducible rfl)
  simp only [Act.put, List.setIfInBounds_toArray, List.set_cons_zero, List.set_cons_succ]
  refine anyZ_take 1 (v := ?_) rfl (by kernel_rfl) (by kernel_rfl) (by kernel_rfl) (by kernel_rfl) (fun _ _ _ h => h) hC (Or.inl ⟨by rfl, ?_⟩) ?_
  rotate_left
  · (intro wq hq; (try dsimp only at hq); go_simp; with_reducible rfl)
  simp only [Act.put, List.setIfInBounds_toArray, List.set_cons_zero, List.set_cons_succ]
  refine anyZ_take 2 (v := ?_) rfl (by kernel_rfl) (by kernel_rfl) (by kernel_rfl) (by kernel_rfl) (fun _ _ _ h => h) hC (Or.inl ⟨by rfl, ?_⟩) ?_
  rotate_left
  · (intro wq hq; (try dsimp only at hq); go_simp; with_reducible rfl)
  simp only [Act.put, List.setIfInBounds_toArray, List.set_cons_zero, List.set_cons_succ]
  refine anyZ_take 7 (v := ?_) rfl (by kernel_rfl) (by kernel_rfl) (by kernel_rfl) (by kernel_rfl) (fun _ _ _ h => h) hC (Or.inl ⟨by rfl, ?_⟩) ?_
  rotate_left
  · (intro wq hq; (try dsimp only at hq); go_simp; with_reducible rfl)
  simp only [Act.put, List.setIfInBounds_toArray, List.set_cons_zero, List.set_cons_succ]
  refine anyZ_take 8 (v := ?_) rfl (by kernel_rfl) (by kernel_rfl) (by kernel_rfl) (by kernel_rfl) (fun _ _ _ h => h) hC (Or.inl ⟨by rfl, ?_⟩) ?_
  rotate_left
  · (intro wq hq; (try dsimp only at hq); go_simp; with_reducible rfl)
  simp only [Act.put, List.setIfInBounds_toArray, List.set_cons_zero, List.set_cons_succ]
  refine anyZ_step 3 rfl (by kernel_rfl) (fun K hK => ?_)
  go_simp
  refine (head109_spec _ _ l G (hv.extNo (hX2.transNo hxd)) ht'.out i).mono ?_
  rintro e w3 ⟨rfl, hx3⟩
  rw [hdf'.out]
  have hX3 := (hX2.transNo hxd).transNo hx3
  have hP3 := hP2.extNo (hxd.transNo hx3)
  have hC3 : (fun w' : World => w'.cell? ⟨b, off + hd * 3 + 1, none⟩ = some (.int .i64 (nth l hd).b) ∧ w'.cell? ⟨A, 1, none⟩ = some (.int .i64 p.b)) w3 := ⟨hX3.cell y1'.out id, hP3.cell' (i := 1) rfl⟩
  refine hK _ _ hC3 ?_
  clear hK K
  try simp only [Act.put, List.setIfInBounds_toArray, List.set_cons_zero, List.set_cons_succ]
  refine anyZ_take 4 (v := ?_) rfl (by kernel_rfl) (by kernel_rfl) (by kernel_rfl) (by kernel_rfl) (fun _ _ _ h => h) hC3 (Or.inl ⟨by rfl, ?_⟩) ?_
  rotate_left
  · (intro wq hq; (try dsimp only at hq); go_simp; with_reducible rfl)
  simp only [Act.put, List.setIfInBounds_toArray, List.set_cons_zero, List.set_cons_succ]
  refine anyZ_take 5 (v := ?_) rfl (by kernel_rfl) (by kernel_rfl) (by kernel_rfl) (by kernel_rfl) (fun _ _ _ h => h) hC3 (Or.inl ⟨by rfl, ?_⟩) ?_
  rotate_left
  · (intro wq hq; (try dsimp only at hq); go_simp; with_reducible rfl)
  simp only [Act.put, List.setIfInBounds_toArray, List.set_cons_zero, List.set_cons_succ]
  refine anyZ_take 6 (v := ?_) rfl (by kernel_rfl) (by kernel_rfl) (by kernel_rfl) (by kernel_rfl) (fun _ _ _ h => h) hC3 (Or.inl ⟨by rfl, ?_⟩) ?_
  rotate_left
  · (intro wq hq; (try dsimp only at hq); go_simp; with_reducible rfl)
  simp only [Act.put, List.setIfInBounds_toArray, List.set_cons_zero, List.set_cons_succ]
  refine anyZ_take 9 (v := ?_) rfl (by kernel_rfl) (by kernel_rfl) (by kernel_rfl) (by kernel_rfl) (fun _ _ _ h => h) hC3 (Or.inl ⟨by rfl, ?_⟩) ?_
  rotate_left
  · (intro wq hq; (try dsimp only at hq); go_simp; with_reducible rfl)
  simp only [Act.put, List.setIfInBounds_toArray, List.set_cons_zero, List.set_cons_succ]
  refine anyZ_done (by kernel_rfl) ?_ _
  clear p0 p1 p2 hC hC3
  have q0 := hP3.cell' (i := 0) rfl
  have q1 := hP3.cell' (i := 1) rfl
  have q2 := hP3.cell' (i := 2) rfl
  go_wp2_with fail
  refine (clone110_spec _ _ l G (hv.extNo hX3) (by omega)).mono ?_
  rintro e w4 ⟨r4, rfl, ho4, hx4⟩
  obtain ⟨ob, oc, rfl, o1, o2, o3, o4, o5, ⟨o6, o7, o8⟩, o9, o10⟩ := own3_at (base := w3.heap.size) ho4 (k := i) (by omega)
  have hP4 := hP3.extNo hx4
  clear q0 q1 q2
  have q0 := hP4.cell' (i := 0) rfl
  have q1 := hP4.cell' (i := 1) rfl
  have q2 := hP4.cell' (i := 2) rfl
  have f0 := o9 (i * 3)
  have f1 := o9 (i * 3 + 1)
  have f2 := o9 (i * 3 + 2)
  have o10' := Lib.hid (o10 p)
  have o9' := Lib.hid o9
  clear o9 o10
  go_wp2_with fail
  have hzz : Hid (sz p - 1 = z - 1) := by show _ = _; rw [hz'.out]
  have hX4 := hX3.transNo hx4
  have hst := Ext.set3 w4 ob (i * 3) (i * 3 + 1) (i * 3 + 2) (.int .i64 p.a) (.int .i64 p.b) (.int .i64 p.c)
  obtain ⟨W, hW⟩ : ∃ W, ((w4.setCell ⟨ob, i * 3, none⟩ (.int .i64 p.a)).setCell ⟨ob, i * 3 + 1, none⟩ (.int .i64 p.b)).setCell ⟨ob, i * 3 + 2, none⟩ (.int .i64 p.c) = W := ⟨_, rfl⟩
  rw [hW] at o10' hst ⊢
  have hO : W.ownsRow w3.heap.size 98 3 (.slice (some ⟨ob, 0, none⟩) l.length oc) l.length (t3sCells (setK l i p 0)) := by
    have := o10'.out
    rw [List.length_set, setK_zero (by omega)] at this
    exact this
  clear hW o10' o9' q0 q1 q2 f0 f1 f2 o6 o7 o8 ho4 hP4 hP3
  go_loopg [58] (z - 1) (fun g u wr => ∃ k : Nat, k + g = z - 1 ∧ u = .int .i64 k ∧ wr.ownsRow w3.heap.size 98 3 (.slice (some ⟨ob, 0, none⟩) l.length oc) l.length (t3sCells (setK l i p k)) ∧ Ext (One ob) w4 wr)
  case atStart => exact ⟨0, by omega, rfl, hO, hst⟩
  case round =>
    clear hO hst
    obtain ⟨k, hk, rfl, hO, hx⟩ := hrel
    have hk' := Lib.hid hk
    have hkn : k ≤ z - 1 := by omega
    clear hk
    by_cases hlt : k < z - 1
    · obtain ⟨ob', oc', e9, _, _, _, _, _, ⟨y0, y1, y2⟩, f0, hset⟩ := own3_at2 hO (setK_len (by omega)) (k := i + 1 + k) (by omega)
      cases e9
      have f1 := f0 ((i + 1 + k) * 3)
      have f2 := f0 ((i + 1 + k) * 3 + 1)
      have f3 := f0 ((i + 1 + k) * 3 + 2)
      have hset1 := hset inside
      rw [setK_succ (by omega)] at hset1
      have hset1' := Lib.hid hset1
      have hxs : Hid (Ext (One ob) w4 (((wr.setCell ⟨ob, (i + 1 + k) * 3, none⟩ (.int .i64 1)).setCell ⟨ob, (i + 1 + k) * 3 + 1, none⟩ (.int .i64 0)).setCell ⟨ob, (i + 1 + k) * 3 + 2, none⟩ (.int .i64 0))) := hx.transSame (Ext.set3 _ _ _ _ _ _ _ _)
      have hlt2 : (k : Int) < z - 1 := by omega
      clear f0 hset hset1 hO
      go_wp2_with fail
      go_roundg (z - 1 - (k + 1))
      case measure => have := hk'.out; omega
      case rel => exact ⟨k + 1, by omega, by go_num, hset1'.out, hxs.out⟩
    · have hk2 : Hid (k = sz p - 1) := by show _ = _; rw [hzz.out]; omega
      have hge : (z : Int) - 1 ≤ k := by omega
      go_wp2_with fail
      go_ret2
      rw [← setK_all, ← hk2.out]
      exact ⟨_, rfl, ownsRow_base hO (by have := hX3.size; omega), hX4.transNew hx (fun x (e : x = ob) => by have := hX3.size; omega)⟩

/-! ### .. refused -/
set_option maxRecDepth 100000 in
set_option maxHeartbeats 1600000 in
theorem set60_tab (w : World) (v : Value) (l : List T3) (G : Nat → Prop) (hv : RdT G w v l) (i : Int) (p : T3) (ht : tabOk l = false) :
    Calls Try.prog 60 #[v, .int .i64 i, .agg #[.int .i64 p.a, .int .i64 p.b, .int .i64 p.c]] w fun e w' => e = .returned (.tuple #[.slice none 0 0, .int .i64 50]) ∧ Ext No w w' := by
  obtain ⟨a, cap, rfl, _, hcap⟩ := hv.val
  have hc := Lib.hid (chk_bad ht)
  clear ht
  have hxa : Ext No w (w.alloc (.cells #[.int .i64 p.a, .int .i64 p.b, .int .i64 p.c] 98)) := (Ext.refl _ _).alloc _
  go_enter Try.func60, Try.ntmps60
  go_wp2_with fail
  refine (check61_spec _ _ l G (hv.extNo hxa)).mono ?_
  rintro e w1 ⟨rfl, hx1⟩
  rw [hc.out]
  go_wp2_with fail
  go_ret2
  exact ⟨rfl, hxa.transNo hx1⟩

set_option maxRecDepth 100000 in
set_option maxHeartbeats 1600000 in
theorem set60_arg (w : World) (v : Value) (l : List T3) (G : Nat → Prop) (hv : RdT G w v l) (i : Int) (p : T3) (ht : tabOk l = true) (hp : headB p = false) :
    Calls Try.prog 60 #[v, .int .i64 i, .agg #[.int .i64 p.a, .int .i64 p.b, .int .i64 p.c]] w fun e w' => e = .returned (.tuple #[.slice none 0 0, .int .i64 2]) ∧ Ext No w w' := by
  obtain ⟨a, cap, rfl, _, hcap⟩ := hv.val
  have hc := Lib.hid (chk_ok ht)
  have hp' := Lib.hid hp
  clear ht hp
  obtain ⟨A, hA⟩ : ∃ A, w.heap.size = A := ⟨_, rfl⟩
  have hP : Blk (w.alloc (.cells #[.int .i64 p.a, .int .i64 p.b, .int .i64 p.c] 98)) A [.int .i64 p.a, .int .i64 p.b, .int .i64 p.c] 98 := Blk.new' hA.symm
  have hxa : Ext No w (w.alloc (.cells #[.int .i64 p.a, .int .i64 p.b, .int .i64 p.c] 98)) := (Ext.refl _ _).alloc _
  go_enter Try.func60, Try.ntmps60
  go_wp2_with fail
  try rw [hA]
  refine (check61_spec _ _ l G (hv.extNo hxa)).mono ?_
  rintro e w1 ⟨rfl, hx1⟩
  rw [hc.out]
  have hP1 := hP.extNo hx1
  have p0 := hP1.cell' (i := 0) rfl
  have p1 := hP1.cell' (i := 1) rfl
  have p2 := hP1.cell' (i := 2) rfl
  go_wp2_with fail
  refine (headed_spec _ p).mono ?_
  rintro e w2 ⟨rfl, hx2⟩
  rw [hp'.out]
  go_wp2_with fail
  go_ret2
  exact ⟨rfl, (hxa.transNo hx1).transNo hx2⟩

set_option maxRecDepth 100000 in
set_option maxHeartbeats 3200000 in
theorem set60_frame (w : World) (v : Value) (l : List T3) (G : Nat → Prop) (hv : RdT G w v l) (i : Nat) (p : T3) (ht : tabOk l = true) (hp : headB p = true) (h1 : i % sz p = 0) (h2 : i + sz p ≤ l.length) (h3 : p.b < (nth l (headF l i).toNat).b) :
    Calls Try.prog 60 #[v, .int .i64 i, .agg #[.int .i64 p.a, .int .i64 p.b, .int .i64 p.c]] w fun e w' => e = .returned (.tuple #[.slice none 0 0, .int .i64 50]) ∧ Ext No w w' := by
  obtain ⟨a, cap, rfl, _, hcap⟩ := hv.val
  obtain ⟨t0, t1, hva⟩ := tab_iff.1 ht
  have hc := Lib.hid (chk_ok ht)
  have ht' := Lib.hid ht
  have hp' := Lib.hid hp
  obtain ⟨hsh, z1, z2⟩ := shl_ord hp
  have hm := and_mask i p (by omega) hp
  rw [h1] at hm
  obtain ⟨z, hz⟩ : ∃ z, sz p = z := ⟨_, rfl⟩
  have hz' := Lib.hid hz
  rw [hz] at hsh z1 z2 hm h1 h2
  obtain ⟨hd, hhd⟩ := hd_ex hva (show i < l.length by omega)
  have hdf := headF_eq hva (show i < l.length by omega) hhd
  have hdl := hhd.hlt (show i < l.length by omega)
  rw [hdf, Int.toNat_natCast] at h3
  have hdf' := Lib.hid hdf
  have g1 : (i : Int) + z ≤ l.length := by omega
  have g2 : decide ((l.length : Int) < i + z) = false := decide_eq_false (by omega)
  have g3 : decide (p.b < (nth l hd).b) = true := decide_eq_true h3
  clear ht hp hz hdf h1
  go_enter Try.func60, Try.ntmps60
  go_wp2_with fail
  have hxa : Ext No w (w.alloc (.cells #[.int .i64 p.a, .int .i64 p.b, .int .i64 p.c] 98)) := (Ext.refl _ _).alloc _
  obtain ⟨A, hA⟩ : ∃ A, w.heap.size = A := ⟨_, rfl⟩
  have hP : Blk (w.alloc (.cells #[.int .i64 p.a, .int .i64 p.b, .int .i64 p.c] 98)) A [.int .i64 p.a, .int .i64 p.b, .int .i64 p.c] 98 := Blk.new' hA.symm
  rw [hA]
  refine (check61_spec _ _ l G (hv.extNo hxa)).mono ?_
  rintro e w1 ⟨rfl, hx1⟩
  rw [hc.out]
  have hX1 := hxa.transNo hx1
  have hP1 := hP.extNo hx1
  have p0 := hP1.cell' (i := 0) rfl
  have p1 := hP1.cell' (i := 1) rfl
  have p2 := hP1.cell' (i := 2) rfl
  clear hP hx1
  go_wp2_with fail
  refine (headed_spec _ p).mono ?_
  rintro e w2 ⟨rfl, hx2⟩
  rw [hp'.out]
  have hX2 := hX1.transNo hx2
  have hP2 := hP1.extNo hx2
  clear p0 p1 p2
  have p0 := hP2.cell' (i := 0) rfl
  have p1 := hP2.cell' (i := 1) rfl
  have p2 := hP2.cell' (i := 2) rfl
  clear hP1 hX1 hx2
  go_wp2_with fail
  obtain ⟨b, off, rfl, _, _, y0, y1, y2⟩ := hv.at hdl
  have hxd : Ext No w2 w2.drew := (Ext.refl No w2).drew
  have y1' := Lib.hid y1
  clear y0 y1 y2
  refine anyZ_begin 10 (fun w' => w'.cell? ⟨b, off + hd * 3 + 1, none⟩ = some (.int .i64 (nth l hd).b) ∧ w'.cell? ⟨A, 1, none⟩ = some (.int .i64 p.b)) (by kernel_rfl) ?_
  have hC : (fun w' : World => w'.cell? ⟨b, off + hd * 3 + 1, none⟩ = some (.int .i64 (nth l hd).b) ∧ w'.cell? ⟨A, 1, none⟩ = some (.int .i64 p.b)) w2.drew := ⟨(hX2.transNo hxd).cell y1'.out id, p1⟩
  refine anyZ_take 0 (v := ?_) rfl (by kernel_rfl) (by kernel_rfl) (by kernel_rfl) (by kernel_rfl) (fun _ _ _ h => h) hC (Or.inl ⟨by rfl, ?_⟩) ?_
  rotate_left
  · (intro wq hq; (try dsimp only at hq); go_simp; with_reducible rfl)
  simp only [Act.put, List.setIfInBounds_toArray, List.set_cons_zero, List.set_cons_succ]
  refine anyZ_take 1 (v := ?_) rfl (by kernel_rfl) (by kernel_rfl) (by kernel_rfl) (by kernel_rfl) (fun _ _ _ h => h) hC (Or.inl ⟨by rfl, ?_⟩) ?_
  rotate_left
  · (intro wq hq; (try dsimp only at hq); go_simp; with_reducible rfl)
  simp only [Act.put, List.setIfInBounds_toArray, List.set_cons_zero, List.set_cons_succ]
  refine anyZ_take 2 (v := ?_) rfl (by kernel_rfl) (by kernel_rfl) (by kernel_rfl) (by kernel_rfl) (fun _ _ _ h => h) hC (Or.inl ⟨by rfl, ?_⟩) ?_
  rotate_left
  · (intro wq hq; (try dsimp only at hq); go_simp; with_reducible rfl)
  simp only [Act.put, List.setIfInBounds_toArray, List.set_cons_zero, List.set_cons_succ]
  refine anyZ_take 7 (v := ?_) rfl (by kernel_rfl) (by kernel_rfl) (by kernel_rfl) (by kernel_rfl) (fun _ _ _ h => h) hC (Or.inl ⟨by rfl, ?_⟩) ?_
  rotate_left
  · (intro wq hq; (try dsimp only at hq); go_simp; with_reducible rfl)
  simp only [Act.put, List.setIfInBounds_toArray, List.set_cons_zero, List.set_cons_succ]
  refine anyZ_take 8 (v := ?_) rfl (by kernel_rfl) (by kernel_rfl) (by kernel_rfl) (by kernel_rfl) (fun _ _ _ h => h) hC (Or.inl ⟨by rfl, ?_⟩) ?_
  rotate_left
  · (intro wq hq; (try dsimp only at hq); go_simp; with_reducible rfl)
  simp only [Act.put, List.setIfInBounds_toArray, List.set_cons_zero, List.set_cons_succ]
  refine anyZ_step 3 rfl (by kernel_rfl) (fun K hK => ?_)
  go_simp
  refine (head109_spec _ _ l G (hv.extNo (hX2.transNo hxd)) ht'.out i).mono ?_
  rintro e w3 ⟨rfl, hx3⟩
  rw [hdf'.out]
  have hX3 := (hX2.transNo hxd).transNo hx3
  have hP3 := hP2.extNo (hxd.transNo hx3)
  have hC3 : (fun w' : World => w'.cell? ⟨b, off + hd * 3 + 1, none⟩ = some (.int .i64 (nth l hd).b) ∧ w'.cell? ⟨A, 1, none⟩ = some (.int .i64 p.b)) w3 := ⟨hX3.cell y1'.out id, hP3.cell' (i := 1) rfl⟩
  refine hK _ _ hC3 ?_
  clear hK K
  try simp only [Act.put, List.setIfInBounds_toArray, List.set_cons_zero, List.set_cons_succ]
  refine anyZ_take 4 (v := ?_) rfl (by kernel_rfl) (by kernel_rfl) (by kernel_rfl) (by kernel_rfl) (fun _ _ _ h => h) hC3 (Or.inl ⟨by rfl, ?_⟩) ?_
  rotate_left
  · (intro wq hq; (try dsimp only at hq); go_simp; with_reducible rfl)
  simp only [Act.put, List.setIfInBounds_toArray, List.set_cons_zero, List.set_cons_succ]
  refine anyZ_take 5 (v := ?_) rfl (by kernel_rfl) (by kernel_rfl) (by kernel_rfl) (by kernel_rfl) (fun _ _ _ h => h) hC3 (Or.inl ⟨by rfl, ?_⟩) ?_
  rotate_left
  · (intro wq hq; (try dsimp only at hq); go_simp; with_reducible rfl)
  simp only [Act.put, List.setIfInBounds_toArray, List.set_cons_zero, List.set_cons_succ]
  refine anyZ_take 6 (v := ?_) rfl (by kernel_rfl) (by kernel_rfl) (by kernel_rfl) (by kernel_rfl) (fun _ _ _ h => h) hC3 (Or.inl ⟨by rfl, ?_⟩) ?_
  rotate_left
  · (intro wq hq; (try dsimp only at hq); go_simp; with_reducible rfl)
  simp only [Act.put, List.setIfInBounds_toArray, List.set_cons_zero, List.set_cons_succ]
  refine anyZ_take 9 (v := ?_) rfl (by kernel_rfl) (by kernel_rfl) (by kernel_rfl) (by kernel_rfl) (fun _ _ _ h => h) hC3 (Or.inl ⟨by rfl, ?_⟩) ?_
  rotate_left
  · (intro wq hq; (try dsimp only at hq); go_simp; with_reducible rfl)
  simp only [Act.put, List.setIfInBounds_toArray, List.set_cons_zero, List.set_cons_succ]
  refine anyZ_done (by kernel_rfl) ?_ _
  clear p0 p1 p2 hC hC3
  go_wp2_with fail
  go_ret2
  exact ⟨rfl, hX3⟩
end Go.Proofs.Ytjkknjohmekeiaa
