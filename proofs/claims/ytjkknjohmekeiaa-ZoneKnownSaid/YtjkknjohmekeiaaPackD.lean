/- Texts of ours, one behind the other (FrameF, FrameG, FrameH, FrameI, BuddyA, BuddyB): each says in its own first lines what it proves. No condition. -/
import Derived.Test.YtjkknjohmekeiaaPackC
import Derived.Deep.CutRange
import Derived.Deep.CutBlock
import Derived.Deep.DeepCutAuto
/- Set of a table. No condition. -/
namespace Go.Proofs.Ytjkknjohmekeiaa
open Go.RowKit

/-! ### A row of triples that is owned: one stored anew -/
theorem t3s_set {l : List T3} {k : Nat} (hk : k < l.length) (x : T3) : (((t3sCells l).set (k * 3) (.int .i64 x.a)).set (k * 3 + 1) (.int .i64 x.b)).set (k * 3 + 2) (.int .i64 x.c) = t3sCells (l.set k x) := by
  induction l generalizing k with
  | nil => simp at hk
  | cons y l ih =>
    cases k with
    | zero => simp [t3sCells, t3Cells]
    | succ k =>
      have h := ih (k := k) (by simpa using hk)
      have e : ∀ (l : List T3), t3sCells (y :: l) = .int .i64 y.a :: .int .i64 y.b :: .int .i64 y.c :: t3sCells l := fun l => rfl
      rw [List.set_cons_succ, e, e, ← h]
      rw [show (k + 1) * 3 = k * 3 + 1 + 1 + 1 by omega]
      simp only [List.set_cons_succ]
theorem own3_at {w : World} {base e : Nat} {v : Value} {l : List T3} (h : w.ownsRow base e 3 v l.length (t3sCells l)) {k : Nat} (hk : k < l.length) :
    ∃ b cap, v = .slice (some ⟨b, 0, none⟩) l.length cap ∧ l.length ≤ cap ∧ cap ≤ 9223372036854775807 ∧ OwnOf v b ∧ b < w.heap.size ∧ base ≤ b ∧
      (w.cell? ⟨b, k * 3, none⟩ = some (.int .i64 (nth l k).a) ∧ w.cell? ⟨b, k * 3 + 1, none⟩ = some (.int .i64 (nth l k).b) ∧ w.cell? ⟨b, k * 3 + 2, none⟩ = some (.int .i64 (nth l k).c)) ∧
      (∀ i, w.frozen? ⟨b, i, none⟩ = false) ∧
      ∀ x : T3, (((w.setCell ⟨b, k * 3, none⟩ (.int .i64 x.a)).setCell ⟨b, k * 3 + 1, none⟩ (.int .i64 x.b)).setCell ⟨b, k * 3 + 2, none⟩ (.int .i64 x.c)).ownsRow base e 3 v (l.set k x).length (t3sCells (l.set k x)) := by
  obtain ⟨hl, ⟨rfl, h0⟩ | ⟨g, cap, cur, rfl, hb, hg, hn, hm, hs, ht⟩⟩ := id h
  · omega
  · have hB : Blk w g cur.toList e := by unfold Blk; rw [hg]
    have hcur : cur.toList.take (l.length * 3) = t3sCells l := ht
    have hat : ∀ i, i < 3 → cur.toList[k * 3 + i]? = (t3Cells (nth l k))[i]? := by
      intro i hi
      have h1 := t3sCells_at hk hi
      rw [← hcur, List.getElem?_take, if_pos (by omega)] at h1
      exact h1
    refine ⟨g, cap, rfl, hn, by simpa [maxLen] using hm, rfl, hB.lt, hb, ⟨?_, ?_, ?_⟩, fun i => hB.frozen i, fun x => ?_⟩
    · have := hat 0 (by omega); exact hB.cell' (by simpa [t3Cells] using this)
    · have := hat 1 (by omega); exact hB.cell' (by simpa [t3Cells] using this)
    · have := hat 2 (by omega); exact hB.cell' (by simpa [t3Cells] using this)
    · have hB3 := ((hB.set (k * 3) (.int .i64 x.a)).set (k * 3 + 1) (.int .i64 x.b)).set (k * 3 + 2) (.int .i64 x.c)
      refine ⟨by rw [t3sCells_len], .inr ⟨g, cap, _, by rw [List.length_set], hb, hB3, by rw [List.length_set]; exact hn, hm, by simp; exact hs, ?_⟩⟩
      rw [List.length_set, ← t3s_set hk, ← hcur]
      simp only [List.take_set]

theorem own3_at2 {w : World} {base e n : Nat} {v : Value} {l : List T3} (h : w.ownsRow base e 3 v n (t3sCells l)) (hn : l.length = n) {k : Nat} (hk : k < n) :
    ∃ b cap, v = .slice (some ⟨b, 0, none⟩) n cap ∧ n ≤ cap ∧ cap ≤ 9223372036854775807 ∧ OwnOf v b ∧ b < w.heap.size ∧ base ≤ b ∧
      (w.cell? ⟨b, k * 3, none⟩ = some (.int .i64 (nth l k).a) ∧ w.cell? ⟨b, k * 3 + 1, none⟩ = some (.int .i64 (nth l k).b) ∧ w.cell? ⟨b, k * 3 + 2, none⟩ = some (.int .i64 (nth l k).c)) ∧
      (∀ i, w.frozen? ⟨b, i, none⟩ = false) ∧
      ∀ x : T3, (((w.setCell ⟨b, k * 3, none⟩ (.int .i64 x.a)).setCell ⟨b, k * 3 + 1, none⟩ (.int .i64 x.b)).setCell ⟨b, k * 3 + 2, none⟩ (.int .i64 x.c)).ownsRow base e 3 v n (t3sCells (l.set k x)) := by
  subst hn
  obtain ⟨b, cap, h1, h2, h3, h4, h5, h6, h7, h8, h9⟩ := own3_at h hk
  exact ⟨b, cap, h1, h2, h3, h4, h5, h6, h7, h8, fun x => by have := h9 x; rw [List.length_set] at this; exact this⟩
theorem Ext.set3 (w : World) (b i j k : Nat) (u v x : Value) : Ext (One b) w (((w.setCell ⟨b, i, none⟩ u).setCell ⟨b, j, none⟩ v).setCell ⟨b, k, none⟩ x) :=
  ((Ext.set1 w b i u).transSame (Ext.set1 _ b j v)).transSame (Ext.set1 _ b k x)

/-! ### Set -/
def setE (l : List T3) (page : Int) (p : T3) : Int :=
  if tabOk l then if headB p then if 0 ≤ page ∧ page % sz p = 0 ∧ page + sz p ≤ l.length then if p.b < (nth l (headF l page).toNat).b then 50 else 0 else 9 else 2 else 50
/-- A block laid as far as k pages behind its head. -/
def setK (l : List T3) (i : Nat) (p : T3) (k : Nat) : List T3 := l.take i ++ (p :: List.replicate k inside) ++ l.drop (i + 1 + k)
theorem setK_len {l : List T3} {i k : Nat} {p : T3} (h : i + 1 + k ≤ l.length) : (setK l i p k).length = l.length := by
  unfold setK; simp; omega
theorem setK_zero {l : List T3} {i : Nat} {p : T3} (h : i < l.length) : l.set i p = setK l i p 0 := by
  unfold setK
  rw [List.set_eq_take_append_cons_drop, if_pos h]
  simp
theorem setK_succ {l : List T3} {i k : Nat} {p : T3} (h : i + 1 + k < l.length) : (setK l i p k).set (i + 1 + k) inside = setK l i p (k + 1) := by
  unfold setK
  have h1 : (l.take i ++ (p :: List.replicate k inside)).length = i + 1 + k := by simp; omega
  rw [List.set_append_right _ _ (by omega), h1, Nat.sub_self, List.drop_eq_getElem_cons h, List.set_cons_zero]
  rw [List.replicate_succ']
  simp [Nat.add_assoc]
theorem setK_all {l : List T3} {i : Nat} {p : T3} : setK l i p (sz p - 1) = setL l i p := by
  have := sz_pos p
  unfold setK setL
  rw [show i + 1 + (sz p - 1) = i + sz p by omega]

set_option maxRecDepth 100000 in
set_option maxHeartbeats 3200000 in
theorem set60_good (w : World) (v : Value) (l : List T3) (G : Nat → Prop) (hv : RdT G w v l) (i : Nat) (p : T3) (ht : tabOk l = true) (hp : headB p = true) (h1 : i % sz p = 0) (h2 : i + sz p ≤ l.length) (h3 : (nth l (headF l i).toNat).b ≤ p.b) :
    Calls Try.prog 60 #[v, .int .i64 i, .agg #[.int .i64 p.a, .int .i64 p.b, .int .i64 p.c]] w fun e w' => ∃ r, e = .returned (.tuple #[r, .int .i64 0]) ∧ w'.ownsRow w.heap.size 98 3 r l.length (t3sCells (setL l i p)) ∧ Ext No w w' := by
  obtain ⟨a, cap, rfl, _, hcap⟩ := hv.val
  obtain ⟨t0, t1, hva⟩ := tab_iff.1 ht
  have hc := Lib.hid (chk_ok ht)
  have ht' := Lib.hid ht
  have hp' := Lib.hid hp
  obtain ⟨hsh, z1, z2⟩ := shl_ord hp
  have hm := and_mask i p (by omega) hp
  rw [h1] at hm
  obtain ⟨z, hz⟩ : ∃ z, sz p = z := ⟨_, rfl⟩
  have hz' := Lib.hid hz
  rw [hz] at hsh z1 z2 hm h1 h2
  obtain ⟨hd, hhd⟩ := hd_ex hva (show i < l.length by omega)
  have hdf := headF_eq hva (show i < l.length by omega) hhd
  have hdl := hhd.hlt (show i < l.length by omega)
  rw [hdf, Int.toNat_natCast] at h3
  have hdf' := Lib.hid hdf
  have g1 : (i : Int) + z ≤ l.length := by omega
  have g2 : decide ((l.length : Int) < i + z) = false := decide_eq_false (by omega)
  have g3 : decide (p.b < (nth l hd).b) = false := decide_eq_false (by omega)
  clear ht hp hz hdf h1
  go_enter Try.func60, Try.ntmps60
  go_wp2_with fail
  have hxa : Ext No w (w.alloc (.cells #[.int .i64 p.a, .int .i64 p.b, .int .i64 p.c] 98)) := (Ext.refl _ _).alloc _
  obtain ⟨A, hA⟩ : ∃ A, w.heap.size = A := ⟨_, rfl⟩
  have hP : Blk (w.alloc (.cells #[.int .i64 p.a, .int .i64 p.b, .int .i64 p.c] 98)) A [.int .i64 p.a, .int .i64 p.b, .int .i64 p.c] 98 := Blk.new' hA.symm
  rw [hA]
  refine (check61_spec _ _ l G (hv.extNo hxa)).mono ?_
  rintro e w1 ⟨rfl, hx1⟩
  rw [hc.out]
  have hX1 := hxa.transNo hx1
  have hP1 := hP.extNo hx1
  have p0 := hP1.cell' (i := 0) rfl
  have p1 := hP1.cell' (i := 1) rfl
  have p2 := hP1.cell' (i := 2) rfl
  clear hP hx1
  go_wp2_with fail
  refine (headed_spec _ p).mono ?_
  rintro e w2 ⟨rfl, hx2⟩
  rw [hp'.out]
  have hX2 := hX1.transNo hx2
  have hP2 := hP1.extNo hx2
  clear p0 p1 p2
  have p0 := hP2.cell' (i := 0) rfl
  have p1 := hP2.cell' (i := 1) rfl
  have p2 := hP2.cell' (i := 2) rfl
  clear hP1 hX1 hx2
  go_wp2_with fail
  obtain ⟨b, off, rfl, _, _, y0, y1, y2⟩ := hv.at hdl
  have hxd : Ext No w2 w2.drew := (Ext.refl No w2).drew
  have y1' := Lib.hid y1
  clear y0 y1 y2
  refine anyZ_begin 10 (fun w' => w'.cell? ⟨b, off + hd * 3 + 1, none⟩ = some (.int .i64 (nth l hd).b) ∧ w'.cell? ⟨A, 1, none⟩ = some (.int .i64 p.b)) (by kernel_rfl) ?_
  have hC : (fun w' : World => w'.cell? ⟨b, off + hd * 3 + 1, none⟩ = some (.int .i64 (nth l hd).b) ∧ w'.cell? ⟨A, 1, none⟩ = some (.int .i64 p.b)) w2.drew := ⟨(hX2.transNo hxd).cell y1'.out id, p1⟩
  refine anyZ_take 0 (v := ?_) rfl (by kernel_rfl) (by kernel_rfl) (by kernel_rfl) (by kernel_rfl) (fun _ _ _ h => h) hC (Or.inl ⟨by rfl, ?_⟩) ?_
  rotate_left
  · (intro wq hq; (try dsimp only at hq); go_simp; with_reducible rfl)
  simp only [Act.put, List.setIfInBounds_toArray, List.set_cons_zero, List.set_cons_succ]
  refine anyZ_take 1 (v := ?_) rfl (by kernel_rfl) (by kernel_rfl) (by kernel_rfl) (by kernel_rfl) (fun _ _ _ h => h) hC (Or.inl ⟨by rfl, ?_⟩) ?_
  rotate_left
  · (intro wq hq; (try dsimp only at hq); go_simp; with_reducible rfl)
  simp only [Act.put, List.setIfInBounds_toArray, List.set_cons_zero, List.set_cons_succ]
  refine anyZ_take 2 (v := ?_) rfl (by kernel_rfl) (by kernel_rfl) (by kernel_rfl) (by kernel_rfl) (fun _ _ _ h => h) hC (Or.inl ⟨by rfl, ?_⟩) ?_
  rotate_left
  · (intro wq hq; (try dsimp only at hq); go_simp; with_reducible rfl)
  simp only [Act.put, List.setIfInBounds_toArray, List.set_cons_zero, List.set_cons_succ]
  refine anyZ_take 7 (v := ?_) rfl (by kernel_rfl) (by kernel_rfl) (by kernel_rfl) (by kernel_rfl) (fun _ _ _ h => h) hC (Or.inl ⟨by rfl, ?_⟩) ?_
  rotate_left
  · (intro wq hq; (try dsimp only at hq); go_simp; with_reducible rfl)
  simp only [Act.put, List.setIfInBounds_toArray, List.set_cons_zero, List.set_cons_succ]
  refine anyZ_take 8 (v := ?_) rfl (by kernel_rfl) (by kernel_rfl) (by kernel_rfl) (by kernel_rfl) (fun _ _ _ h => h) hC (Or.inl ⟨by rfl, ?_⟩) ?_
  rotate_left
  · (intro wq hq; (try dsimp only at hq); go_simp; with_reducible rfl)
  simp only [Act.put, List.setIfInBounds_toArray, List.set_cons_zero, List.set_cons_succ]
  refine anyZ_step 3 rfl (by kernel_rfl) (fun K hK => ?_)
  go_simp
  refine (head109_spec _ _ l G (hv.extNo (hX2.transNo hxd)) ht'.out i).mono ?_
  rintro e w3 ⟨rfl, hx3⟩
  rw [hdf'.out]
  have hX3 := (hX2.transNo hxd).transNo hx3
  have hP3 := hP2.extNo (hxd.transNo hx3)
  have hC3 : (fun w' : World => w'.cell? ⟨b, off + hd * 3 + 1, none⟩ = some (.int .i64 (nth l hd).b) ∧ w'.cell? ⟨A, 1, none⟩ = some (.int .i64 p.b)) w3 := ⟨hX3.cell y1'.out id, hP3.cell' (i := 1) rfl⟩
  refine hK _ _ hC3 ?_
  clear hK K
  try simp only [Act.put, List.setIfInBounds_toArray, List.set_cons_zero, List.set_cons_succ]
  refine anyZ_take 4 (v := ?_) rfl (by kernel_rfl) (by kernel_rfl) (by kernel_rfl) (by kernel_rfl) (fun _ _ _ h => h) hC3 (Or.inl ⟨by rfl, ?_⟩) ?_
  rotate_left
  · (intro wq hq; (try dsimp only at hq); go_simp; with_reducible rfl)
  simp only [Act.put, List.setIfInBounds_toArray, List.set_cons_zero, List.set_cons_succ]
  refine anyZ_take 5 (v := ?_) rfl (by kernel_rfl) (by kernel_rfl) (by kernel_rfl) (by kernel_rfl) (fun _ _ _ h => h) hC3 (Or.inl ⟨by rfl, ?_⟩) ?_
  rotate_left
  · (intro wq hq; (try dsimp only at hq); go_simp; with_reducible rfl)
  simp only [Act.put, List.setIfInBounds_toArray, List.set_cons_zero, List.set_cons_succ]
  refine anyZ_take 6 (v := ?_) rfl (by kernel_rfl) (by kernel_rfl) (by kernel_rfl) (by kernel_rfl) (fun _ _ _ h => h) hC3 (Or.inl ⟨by rfl, ?_⟩) ?_
  rotate_left
  · (intro wq hq; (try dsimp only at hq); go_simp; with_reducible rfl)
  simp only [Act.put, List.setIfInBounds_toArray, List.set_cons_zero, List.set_cons_succ]
  refine anyZ_take 9 (v := ?_) rfl (by kernel_rfl) (by kernel_rfl) (by kernel_rfl) (by kernel_rfl) (fun _ _ _ h => h) hC3 (Or.inl ⟨by rfl, ?_⟩) ?_
  rotate_left
  · (intro wq hq; (try dsimp only at hq); go_simp; with_reducible rfl)
  simp only [Act.put, List.setIfInBounds_toArray, List.set_cons_zero, List.set_cons_succ]
  refine anyZ_done (by kernel_rfl) ?_ _
  clear p0 p1 p2 hC hC3
  have q0 := hP3.cell' (i := 0) rfl
  have q1 := hP3.cell' (i := 1) rfl
  have q2 := hP3.cell' (i := 2) rfl
  go_wp2_with fail
  refine (clone110_spec _ _ l G (hv.extNo hX3) (by omega)).mono ?_
  rintro e w4 ⟨r4, rfl, ho4, hx4⟩
  obtain ⟨ob, oc, rfl, o1, o2, o3, o4, o5, ⟨o6, o7, o8⟩, o9, o10⟩ := own3_at (base := w3.heap.size) ho4 (k := i) (by omega)
  have hP4 := hP3.extNo hx4
  clear q0 q1 q2
  have q0 := hP4.cell' (i := 0) rfl
  have q1 := hP4.cell' (i := 1) rfl
  have q2 := hP4.cell' (i := 2) rfl
  have f0 := o9 (i * 3)
  have f1 := o9 (i * 3 + 1)
  have f2 := o9 (i * 3 + 2)
  have o10' := Lib.hid (o10 p)
  have o9' := Lib.hid o9
  clear o9 o10
  go_wp2_with fail
  have hzz : Hid (sz p - 1 = z - 1) := by show _ = _; rw [hz'.out]
  have hX4 := hX3.transNo hx4
  have hst := Ext.set3 w4 ob (i * 3) (i * 3 + 1) (i * 3 + 2) (.int .i64 p.a) (.int .i64 p.b) (.int .i64 p.c)
  obtain ⟨W, hW⟩ : ∃ W, ((w4.setCell ⟨ob, i * 3, none⟩ (.int .i64 p.a)).setCell ⟨ob, i * 3 + 1, none⟩ (.int .i64 p.b)).setCell ⟨ob, i * 3 + 2, none⟩ (.int .i64 p.c) = W := ⟨_, rfl⟩
  rw [hW] at o10' hst ⊢
  have hO : W.ownsRow w3.heap.size 98 3 (.slice (some ⟨ob, 0, none⟩) l.length oc) l.length (t3sCells (setK l i p 0)) := by
    have := o10'.out
    rw [List.length_set, setK_zero (by omega)] at this
    exact this
  clear hW o10' o9' q0 q1 q2 f0 f1 f2 o6 o7 o8 ho4 hP4 hP3
  go_loopg [58] (z - 1) (fun g u wr => ∃ k : Nat, k + g = z - 1 ∧ u = .int .i64 k ∧ wr.ownsRow w3.heap.size 98 3 (.slice (some ⟨ob, 0, none⟩) l.length oc) l.length (t3sCells (setK l i p k)) ∧ Ext (One ob) w4 wr)
  case atStart => exact ⟨0, by omega, rfl, hO, hst⟩
  case round =>
    clear hO hst
    obtain ⟨k, hk, rfl, hO, hx⟩ := hrel
    have hk' := Lib.hid hk
    have hkn : k ≤ z - 1 := by omega
    clear hk
    by_cases hlt : k < z - 1
    · obtain ⟨ob', oc', e9, _, _, _, _, _, ⟨y0, y1, y2⟩, f0, hset⟩ := own3_at2 hO (setK_len (by omega)) (k := i + 1 + k) (by omega)
      cases e9
      have f1 := f0 ((i + 1 + k) * 3)
      have f2 := f0 ((i + 1 + k) * 3 + 1)
      have f3 := f0 ((i + 1 + k) * 3 + 2)
      have hset1 := hset inside
      rw [setK_succ (by omega)] at hset1
      have hset1' := Lib.hid hset1
      have hxs : Hid (Ext (One ob) w4 (((wr.setCell ⟨ob, (i + 1 + k) * 3, none⟩ (.int .i64 1)).setCell ⟨ob, (i + 1 + k) * 3 + 1, none⟩ (.int .i64 0)).setCell ⟨ob, (i + 1 + k) * 3 + 2, none⟩ (.int .i64 0))) := hx.transSame (Ext.set3 _ _ _ _ _ _ _ _)
      have hlt2 : (k : Int) < z - 1 := by omega
      clear f0 hset hset1 hO
      go_wp2_with fail
      go_roundg (z - 1 - (k + 1))
      case measure => have := hk'.out; omega
      case rel => exact ⟨k + 1, by omega, by go_num, hset1'.out, hxs.out⟩
    · have hk2 : Hid (k = sz p - 1) := by show _ = _; rw [hzz.out]; omega
      have hge : (z : Int) - 1 ≤ k := by omega
      go_wp2_with fail
      go_ret2
      rw [← setK_all, ← hk2.out]
      exact ⟨_, rfl, ownsRow_base hO (by have := hX3.size; omega), hX4.transNew hx (fun x (e : x = ob) => by have := hX3.size; omega)⟩

/-! ### .. refused -/
set_option maxRecDepth 100000 in
set_option maxHeartbeats 1600000 in
theorem set60_tab (w : World) (v : Value) (l : List T3) (G : Nat → Prop) (hv : RdT G w v l) (i : Int) (p : T3) (ht : tabOk l = false) :
    Calls Try.prog 60 #[v, .int .i64 i, .agg #[.int .i64 p.a, .int .i64 p.b, .int .i64 p.c]] w fun e w' => e = .returned (.tuple #[.slice none 0 0, .int .i64 50]) ∧ Ext No w w' := by
  obtain ⟨a, cap, rfl, _, hcap⟩ := hv.val
  have hc := Lib.hid (chk_bad ht)
  clear ht
  have hxa : Ext No w (w.alloc (.cells #[.int .i64 p.a, .int .i64 p.b, .int .i64 p.c] 98)) := (Ext.refl _ _).alloc _
  go_enter Try.func60, Try.ntmps60
  go_wp2_with fail
  refine (check61_spec _ _ l G (hv.extNo hxa)).mono ?_
  rintro e w1 ⟨rfl, hx1⟩
  rw [hc.out]
  go_wp2_with fail
  go_ret2
  exact ⟨rfl, hxa.transNo hx1⟩

set_option maxRecDepth 100000 in
set_option maxHeartbeats 1600000 in
theorem set60_arg (w : World) (v : Value) (l : List T3) (G : Nat → Prop) (hv : RdT G w v l) (i : Int) (p : T3) (ht : tabOk l = true) (hp : headB p = false) :
    Calls Try.prog 60 #[v, .int .i64 i, .agg #[.int .i64 p.a, .int .i64 p.b, .int .i64 p.c]] w fun e w' => e = .returned (.tuple #[.slice none 0 0, .int .i64 2]) ∧ Ext No w w' := by
  obtain ⟨a, cap, rfl, _, hcap⟩ := hv.val
  have hc := Lib.hid (chk_ok ht)
  have hp' := Lib.hid hp
  clear ht hp
  obtain ⟨A, hA⟩ : ∃ A, w.heap.size = A := ⟨_, rfl⟩
  have hP : Blk (w.alloc (.cells #[.int .i64 p.a, .int .i64 p.b, .int .i64 p.c] 98)) A [.int .i64 p.a, .int .i64 p.b, .int .i64 p.c] 98 := Blk.new' hA.symm
  have hxa : Ext No w (w.alloc (.cells #[.int .i64 p.a, .int .i64 p.b, .int .i64 p.c] 98)) := (Ext.refl _ _).alloc _
  go_enter Try.func60, Try.ntmps60
  go_wp2_with fail
  try rw [hA]
  refine (check61_spec _ _ l G (hv.extNo hxa)).mono ?_
  rintro e w1 ⟨rfl, hx1⟩
  rw [hc.out]
  have hP1 := hP.extNo hx1
  have p0 := hP1.cell' (i := 0) rfl
  have p1 := hP1.cell' (i := 1) rfl
  have p2 := hP1.cell' (i := 2) rfl
  go_wp2_with fail
  refine (headed_spec _ p).mono ?_
  rintro e w2 ⟨rfl, hx2⟩
  rw [hp'.out]
  go_wp2_with fail
  go_ret2
  exact ⟨rfl, (hxa.transNo hx1).transNo hx2⟩

set_option maxRecDepth 100000 in
set_option maxHeartbeats 3200000 in
theorem set60_frame (w : World) (v : Value) (l : List T3) (G : Nat → Prop) (hv : RdT G w v l) (i : Nat) (p : T3) (ht : tabOk l = true) (hp : headB p = true) (h1 : i % sz p = 0) (h2 : i + sz p ≤ l.length) (h3 : p.b < (nth l (headF l i).toNat).b) :
    Calls Try.prog 60 #[v, .int .i64 i, .agg #[.int .i64 p.a, .int .i64 p.b, .int .i64 p.c]] w fun e w' => e = .returned (.tuple #[.slice none 0 0, .int .i64 50]) ∧ Ext No w w' := by
  obtain ⟨a, cap, rfl, _, hcap⟩ := hv.val
  obtain ⟨t0, t1, hva⟩ := tab_iff.1 ht
  have hc := Lib.hid (chk_ok ht)
  have ht' := Lib.hid ht
  have hp' := Lib.hid hp
  obtain ⟨hsh, z1, z2⟩ := shl_ord hp
  have hm := and_mask i p (by omega) hp
  rw [h1] at hm
  obtain ⟨z, hz⟩ : ∃ z, sz p = z := ⟨_, rfl⟩
  have hz' := Lib.hid hz
  rw [hz] at hsh z1 z2 hm h1 h2
  obtain ⟨hd, hhd⟩ := hd_ex hva (show i < l.length by omega)
  have hdf := headF_eq hva (show i < l.length by omega) hhd
  have hdl := hhd.hlt (show i < l.length by omega)
  rw [hdf, Int.toNat_natCast] at h3
  have hdf' := Lib.hid hdf
  have g1 : (i : Int) + z ≤ l.length := by omega
  have g2 : decide ((l.length : Int) < i + z) = false := decide_eq_false (by omega)
  have g3 : decide (p.b < (nth l hd).b) = true := decide_eq_true h3
  clear ht hp hz hdf h1
  go_enter Try.func60, Try.ntmps60
  go_wp2_with fail
  have hxa : Ext No w (w.alloc (.cells #[.int .i64 p.a, .int .i64 p.b, .int .i64 p.c] 98)) := (Ext.refl _ _).alloc _
  obtain ⟨A, hA⟩ : ∃ A, w.heap.size = A := ⟨_, rfl⟩
  have hP : Blk (w.alloc (.cells #[.int .i64 p.a, .int .i64 p.b, .int .i64 p.c] 98)) A [.int .i64 p.a, .int .i64 p.b, .int .i64 p.c] 98 := Blk.new' hA.symm
  rw [hA]
  refine (check61_spec _ _ l G (hv.extNo hxa)).mono ?_
  rintro e w1 ⟨rfl, hx1⟩
  rw [hc.out]
  have hX1 := hxa.transNo hx1
  have hP1 := hP.extNo hx1
  have p0 := hP1.cell' (i := 0) rfl
  have p1 := hP1.cell' (i := 1) rfl
  have p2 := hP1.cell' (i := 2) rfl
  clear hP hx1
  go_wp2_with fail
  refine (headed_spec _ p).mono ?_
  rintro e w2 ⟨rfl, hx2⟩
  rw [hp'.out]
  have hX2 := hX1.transNo hx2
  have hP2 := hP1.extNo hx2
  clear p0 p1 p2
  have p0 := hP2.cell' (i := 0) rfl
  have p1 := hP2.cell' (i := 1) rfl
  have p2 := hP2.cell' (i := 2) rfl
  clear hP1 hX1 hx2
  go_wp2_with fail
  obtain ⟨b, off, rfl, _, _, y0, y1, y2⟩ := hv.at hdl
  have hxd : Ext No w2 w2.drew := (Ext.refl No w2).drew
  have y1' := Lib.hid y1
  clear y0 y1 y2
  refine anyZ_begin 10 (fun w' => w'.cell? ⟨b, off + hd * 3 + 1, none⟩ = some (.int .i64 (nth l hd).b) ∧ w'.cell? ⟨A, 1, none⟩ = some (.int .i64 p.b)) (by kernel_rfl) ?_
  have hC : (fun w' : World => w'.cell? ⟨b, off + hd * 3 + 1, none⟩ = some (.int .i64 (nth l hd).b) ∧ w'.cell? ⟨A, 1, none⟩ = some (.int .i64 p.b)) w2.drew := ⟨(hX2.transNo hxd).cell y1'.out id, p1⟩
  refine anyZ_take 0 (v := ?_) rfl (by kernel_rfl) (by kernel_rfl) (by kernel_rfl) (by kernel_rfl) (fun _ _ _ h => h) hC (Or.inl ⟨by rfl, ?_⟩) ?_
  rotate_left
  · (intro wq hq; (try dsimp only at hq); go_simp; with_reducible rfl)
  simp only [Act.put, List.setIfInBounds_toArray, List.set_cons_zero, List.set_cons_succ]
  refine anyZ_take 1 (v := ?_) rfl (by kernel_rfl) (by kernel_rfl) (by kernel_rfl) (by kernel_rfl) (fun _ _ _ h => h) hC (Or.inl ⟨by rfl, ?_⟩) ?_
  rotate_left
  · (intro wq hq; (try dsimp only at hq); go_simp; with_reducible rfl)
  simp only [Act.put, List.setIfInBounds_toArray, List.set_cons_zero, List.set_cons_succ]
  refine anyZ_take 2 (v := ?_) rfl (by kernel_rfl) (by kernel_rfl) (by kernel_rfl) (by kernel_rfl) (fun _ _ _ h => h) hC (Or.inl ⟨by rfl, ?_⟩) ?_
  rotate_left
  · (intro wq hq; (try dsimp only at hq); go_simp; with_reducible rfl)
  simp only [Act.put, List.setIfInBounds_toArray, List.set_cons_zero, List.set_cons_succ]
  refine anyZ_take 7 (v := ?_) rfl (by kernel_rfl) (by kernel_rfl) (by kernel_rfl) (by kernel_rfl) (fun _ _ _ h => h) hC (Or.inl ⟨by rfl, ?_⟩) ?_
  rotate_left
  · (intro wq hq; (try dsimp only at hq); go_simp; with_reducible rfl)
  simp only [Act.put, List.setIfInBounds_toArray, List.set_cons_zero, List.set_cons_succ]
  refine anyZ_take 8 (v := ?_) rfl (by kernel_rfl) (by kernel_rfl) (by kernel_rfl) (by kernel_rfl) (fun _ _ _ h => h) hC (Or.inl ⟨by rfl, ?_⟩) ?_
  rotate_left
  · (intro wq hq; (try dsimp only at hq); go_simp; with_reducible rfl)
  simp only [Act.put, List.setIfInBounds_toArray, List.set_cons_zero, List.set_cons_succ]
  refine anyZ_step 3 rfl (by kernel_rfl) (fun K hK => ?_)
  go_simp
  refine (head109_spec _ _ l G (hv.extNo (hX2.transNo hxd)) ht'.out i).mono ?_
  rintro e w3 ⟨rfl, hx3⟩
  rw [hdf'.out]
  have hX3 := (hX2.transNo hxd).transNo hx3
  have hP3 := hP2.extNo (hxd.transNo hx3)
  have hC3 : (fun w' : World => w'.cell? ⟨b, off + hd * 3 + 1, none⟩ = some (.int .i64 (nth l hd).b) ∧ w'.cell? ⟨A, 1, none⟩ = some (.int .i64 p.b)) w3 := ⟨hX3.cell y1'.out id, hP3.cell' (i := 1) rfl⟩
  refine hK _ _ hC3 ?_
  clear hK K
  try simp only [Act.put, List.setIfInBounds_toArray, List.set_cons_zero, List.set_cons_succ]
  refine anyZ_take 4 (v := ?_) rfl (by kernel_rfl) (by kernel_rfl) (by kernel_rfl) (by kernel_rfl) (fun _ _ _ h => h) hC3 (Or.inl ⟨by rfl, ?_⟩) ?_
  rotate_left
  · (intro wq hq; (try dsimp only at hq); go_simp; with_reducible rfl)
  simp only [Act.put, List.setIfInBounds_toArray, List.set_cons_zero, List.set_cons_succ]
  refine anyZ_take 5 (v := ?_) rfl (by kernel_rfl) (by kernel_rfl) (by kernel_rfl) (by kernel_rfl) (fun _ _ _ h => h) hC3 (Or.inl ⟨by rfl, ?_⟩) ?_
  rotate_left
  · (intro wq hq; (try dsimp only at hq); go_simp; with_reducible rfl)
  simp only [Act.put, List.setIfInBounds_toArray, List.set_cons_zero, List.set_cons_succ]
  refine anyZ_take 6 (v := ?_) rfl (by kernel_rfl) (by kernel_rfl) (by kernel_rfl) (by kernel_rfl) (fun _ _ _ h => h) hC3 (Or.inl ⟨by rfl, ?_⟩) ?_
  rotate_left
  · (intro wq hq; (try dsimp only at hq); go_simp; with_reducible rfl)
  simp only [Act.put, List.setIfInBounds_toArray, List.set_cons_zero, List.set_cons_succ]
  refine anyZ_take 9 (v := ?_) rfl (by kernel_rfl) (by kernel_rfl) (by kernel_rfl) (by kernel_rfl) (fun _ _ _ h => h) hC3 (Or.inl ⟨by rfl, ?_⟩) ?_
  rotate_left
  · (intro wq hq; (try dsimp only at hq); go_simp; with_reducible rfl)
  simp only [Act.put, List.setIfInBounds_toArray, List.set_cons_zero, List.set_cons_succ]
  refine anyZ_done (by kernel_rfl) ?_ _
  clear p0 p1 p2 hC hC3
  go_wp2_with fail
  go_ret2
  exact ⟨rfl, hX3⟩
end Go.Proofs.Ytjkknjohmekeiaa
/- The chapter's tables are as the chapter says; the law FrameSum. No condition. -/
namespace Go.Proofs.Ytjkknjohmekeiaa
open Go.RowKit

set_option maxRecDepth 100000 in
set_option maxHeartbeats 1600000 in
theorem same62_spec (w : World) (a b : Value) (xs ys : List T3) (F G : Nat → Prop) (ha : RdT F w a xs) (hb : RdT G w b ys) :
    Calls Try.prog 62 #[a, b] w fun e w' => e = .returned (.bool (decide (xs = ys))) ∧ Ext No w w' := by
  obtain ⟨aa, ca, rfl, _, _⟩ := ha.val
  obtain ⟨ab, cb, rfl, _, _⟩ := hb.val
  by_cases hl : xs.length = ys.length
  · have hl' := Lib.hid hl
    have hne : (((xs.length : Nat) : Int) != (ys.length : Nat)) = false := by rw [hl]; simp
    have heq : ((xs.length : Nat) : Int) = (ys.length : Nat) := by rw [hl]
    rw [← hl] at hb ⊢
    clear hne heq
    go_enter Try.func62, Try.ntmps62
    go_wp2_with fail
    go_loopg [5] xs.length (fun g i wr => ∃ k : Nat, k + g = xs.length ∧ i = .int .i64 k ∧ (∀ j, j < k → nth xs j = nth ys j) ∧ ∃ n, wr = w.drewN n)
    case atStart => exact ⟨0, by omega, rfl, by omega, 0, rfl⟩
    case round =>
      obtain ⟨k, hk, rfl, hall, m, rfl⟩ := hrel
      have hk' := Lib.hid hk; have hall' := Lib.hid hall
      have hkn : k ≤ xs.length := by omega
      clear hk hall
      by_cases hlt : k < xs.length
      · obtain ⟨b1, o1, rfl, _, _, x0, x1, x2⟩ := ha.at hlt
        obtain ⟨b2, o2, rfl, _, _, y0, y1, y2⟩ := hb.at (k := k) (by omega)
        by_cases he : nth xs k = nth ys k
        · have e1 : ((nth xs k).a == (nth ys k).a) = true := by rw [he]; simp
          have e2 : ((nth xs k).b == (nth ys k).b) = true := by rw [he]; simp
          have e3 : ((nth xs k).c == (nth ys k).c) = true := by rw [he]; simp
          have he' := Lib.hid he; clear he
          go_wp2
          go_quiet (fail)
          go_wp2
          go_roundg (xs.length - (k + 1))
          case measure => have := hk'.out; omega
          case rel =>
            refine ⟨k + 1, by omega, by go_num, fun j hj => ?_, _, rfl⟩
            by_cases hjk : j < k
            · exact hall'.out j hjk
            · obtain rfl : j = k := by omega
              exact he'.out
        · have hr : Hid (decide (xs = ys) = false) := decide_eq_false (fun e => he (by rw [e]))
          rcases T3.ne_cases he with e1 | ⟨e1, e2⟩ | ⟨e1, e2, e3⟩
          all_goals
            clear he
            go_wp2
            go_quiet (fail)
            go_wp2
            go_ret
            exact ⟨by rw [hr.out]; rfl, ((Ext.refl No w).drewN _).drewN _⟩
      · have hr : Hid (decide (xs = ys) = true) := by
          apply decide_eq_true
          apply List.ext_getElem hl'.out
          intro j h1 h2
          have := hall'.out j (by omega)
          rw [nth_eq h1, nth_eq h2] at this; exact this
        go_wp2_with fail
        go_ret
        exact ⟨by rw [hr.out]; rfl, (Ext.refl No w).drewN _⟩
  · have hr : Hid (decide (xs = ys) = false) := decide_eq_false (fun e => hl (by rw [e]))
    have hne : (((xs.length : Nat) : Int) == (ys.length : Nat)) = false := by rw [beq_eq_false_iff_ne]; omega
    go_enter Try.func62, Try.ntmps62
    go_wp2_with fail
    go_ret
    exact ⟨by rw [hr.out]; rfl, Ext.refl _ _⟩
end Go.Proofs.Ytjkknjohmekeiaa
/- The chapter's tables are as the chapter says. No condition. -/
namespace Go.Proofs.Ytjkknjohmekeiaa
open Go.RowKit

theorem k1 : chkE [⟨0, 1, 0⟩, ⟨1, 0, 0⟩, ⟨0, 0, 0⟩] = 0 := by decide
theorem k2 : chkE [⟨0, 0, 0⟩, ⟨0, 1, 0⟩, ⟨1, 0, 0⟩] = 50 := by decide
theorem k3 : chkE [⟨0, 0, 0⟩, ⟨1, 0, 0⟩] = 50 := by decide
theorem k4 : chkE [] = 50 := by decide
theorem k5 : headR [⟨2, 1, 1⟩, ⟨1, 0, 0⟩, ⟨0, 0, 0⟩] 1 = 0 ∧ headE [⟨2, 1, 1⟩, ⟨1, 0, 0⟩, ⟨0, 0, 0⟩] 1 = 0 := by decide
theorem k6 : freeF [⟨2, 1, 1⟩, ⟨1, 0, 0⟩, ⟨0, 0, 0⟩] = 1 := by decide
theorem k7 : tabOk [⟨0, 0, 0⟩, ⟨0, 0, 0⟩, ⟨0, 0, 0⟩] = true := by decide
theorem k8 : setL [⟨0, 0, 0⟩, ⟨0, 0, 0⟩, ⟨0, 0, 0⟩] 0 ⟨2, 1, 1⟩ = [⟨2, 1, 1⟩, ⟨1, 0, 0⟩, ⟨0, 0, 0⟩] := by decide
theorem k9 : tabOk [⟨0, 1, 0⟩, ⟨1, 0, 0⟩, ⟨0, 0, 0⟩] = true := by decide

/-- The chapter's four pages, in blocks of their own. -/
structure Four (w : World) (A : Nat) : Prop where
  b0 : Blk w A [.int .i64 0, .int .i64 0, .int .i64 0] 98
  b1 : Blk w (A + 1) [.int .i64 1, .int .i64 0, .int .i64 0] 98
  b2 : Blk w (A + 1 + 1) [.int .i64 0, .int .i64 1, .int .i64 0] 98
  b3 : Blk w (A + 1 + 1 + 1) [.int .i64 2, .int .i64 1, .int .i64 1] 98
theorem Four.ext {w w' : World} {A : Nat} (h : Four w A) (hx : Ext No w w') : Four w' A := ⟨h.b0.extNo hx, h.b1.extNo hx, h.b2.extNo hx, h.b3.extNo hx⟩

theorem rdT_new {w : World} (l : List T3) (n : Nat) (hn : l.length = n) (hm : n ≤ 1024) : RdT (One w.heap.size) (w.alloc (.cells (t3sCells l).toArray 98)) (.slice (some ⟨w.heap.size, 0, none⟩) n n) l := by
  subst hn
  exact Rd.of_blk (Blk.new w (t3sCells l) 98) (t3sCells_len l) (by unfold maxLen; omega)

set_option maxRecDepth 100000 in
set_option maxHeartbeats 6400000 in
theorem works59_spec (w : World) :
    Calls Try.prog 59 #[] w fun e w' => e = .returned (.bool true) ∧ Ext No w w' := by
  go_enter Try.func59, Try.ntmps59
  go_wp2_with fail
  have hx0 : Ext No w ((((w.alloc (.cells #[.int .i64 0, .int .i64 0, .int .i64 0] 98)).alloc (.cells #[.int .i64 1, .int .i64 0, .int .i64 0] 98)).alloc (.cells #[.int .i64 0, .int .i64 1, .int .i64 0] 98)).alloc (.cells #[.int .i64 2, .int .i64 1, .int .i64 1] 98)) := ((((Ext.refl _ _).alloc _).alloc _).alloc _).alloc _
  obtain ⟨A, hA⟩ : ∃ A, w.heap.size = A := ⟨_, rfl⟩
  have hF : Four ((((w.alloc (.cells #[.int .i64 0, .int .i64 0, .int .i64 0] 98)).alloc (.cells #[.int .i64 1, .int .i64 0, .int .i64 0] 98)).alloc (.cells #[.int .i64 0, .int .i64 1, .int .i64 0] 98)).alloc (.cells #[.int .i64 2, .int .i64 1, .int .i64 1] 98)) A :=
    ⟨(((Blk.new' hA.symm).alloc _).alloc _).alloc _, ((Blk.new' (by simp [hA])).alloc _).alloc _, (Blk.new' (by simp [hA])).alloc _, Blk.new' (by simp [hA])⟩
  have hs0 : ((((w.alloc (.cells #[.int .i64 0, .int .i64 0, .int .i64 0] 98)).alloc (.cells #[.int .i64 1, .int .i64 0, .int .i64 0] 98)).alloc (.cells #[.int .i64 0, .int .i64 1, .int .i64 0] 98)).alloc (.cells #[.int .i64 2, .int .i64 1, .int .i64 1] 98)).heap.size = A + 1 + 1 + 1 + 1 := by simp [hA]
  obtain ⟨W, hW⟩ : ∃ W, (((w.alloc (.cells #[.int .i64 0, .int .i64 0, .int .i64 0] 98)).alloc (.cells #[.int .i64 1, .int .i64 0, .int .i64 0] 98)).alloc (.cells #[.int .i64 0, .int .i64 1, .int .i64 0] 98)).alloc (.cells #[.int .i64 2, .int .i64 1, .int .i64 1] 98) = W := ⟨_, rfl⟩
  rw [hW] at hx0 hF hs0 ⊢
  rw [hA, ← hs0]
  clear hW hs0 hA
  have ha1 : Ext No W (W.alloc (.cells #[.int .i64 0, .int .i64 1, .int .i64 0, .int .i64 1, .int .i64 0, .int .i64 0, .int .i64 0, .int .i64 0, .int .i64 0] 98)) := (Ext.refl _ _).alloc _
  have hr1 : RdT (One W.heap.size) (W.alloc (.cells #[.int .i64 0, .int .i64 1, .int .i64 0, .int .i64 1, .int .i64 0, .int .i64 0, .int .i64 0, .int .i64 0, .int .i64 0] 98)) (.slice (some ⟨W.heap.size, 0, none⟩) 3 3) [⟨0, 1, 0⟩, ⟨1, 0, 0⟩, ⟨0, 0, 0⟩] := rdT_new [⟨0, 1, 0⟩, ⟨1, 0, 0⟩, ⟨0, 0, 0⟩] 3 rfl (by decide)
  refine (check61_spec _ _ [⟨0, 1, 0⟩, ⟨1, 0, 0⟩, ⟨0, 0, 0⟩] _ hr1).mono ?_
  rintro e w1 ⟨rfl, hx1⟩
  rw [k1]
  have hx0 := (hx0.transNo ha1).transNo hx1
  have hF := (hF.ext ha1).ext hx1
  have c00 := hF.b0.cell' (i := 0) rfl
  have c01 := hF.b0.cell' (i := 1) rfl
  have c02 := hF.b0.cell' (i := 2) rfl
  have c10 := hF.b1.cell' (i := 0) rfl
  have c11 := hF.b1.cell' (i := 1) rfl
  have c12 := hF.b1.cell' (i := 2) rfl
  have c20 := hF.b2.cell' (i := 0) rfl
  have c21 := hF.b2.cell' (i := 1) rfl
  have c22 := hF.b2.cell' (i := 2) rfl
  have c30 := hF.b3.cell' (i := 0) rfl
  have c31 := hF.b3.cell' (i := 1) rfl
  have c32 := hF.b3.cell' (i := 2) rfl
  have l0 := hF.b0.lt
  have l1 := hF.b1.lt
  have l2 := hF.b2.lt
  have l3 := hF.b3.lt
  go_wp2_with fail
  clear l0 l1 l2 l3 c00 c01 c02 c10 c11 c12 c20 c21 c22 c30 c31 c32
  have ha2 : Ext No w1 (w1.alloc (.cells #[.int .i64 0, .int .i64 0, .int .i64 0, .int .i64 0, .int .i64 1, .int .i64 0, .int .i64 1, .int .i64 0, .int .i64 0] 98)) := (Ext.refl _ _).alloc _
  have hr2 : RdT (One w1.heap.size) (w1.alloc (.cells #[.int .i64 0, .int .i64 0, .int .i64 0, .int .i64 0, .int .i64 1, .int .i64 0, .int .i64 1, .int .i64 0, .int .i64 0] 98)) (.slice (some ⟨w1.heap.size, 0, none⟩) 3 3) [⟨0, 0, 0⟩, ⟨0, 1, 0⟩, ⟨1, 0, 0⟩] := rdT_new [⟨0, 0, 0⟩, ⟨0, 1, 0⟩, ⟨1, 0, 0⟩] 3 rfl (by decide)
  refine (check61_spec _ _ [⟨0, 0, 0⟩, ⟨0, 1, 0⟩, ⟨1, 0, 0⟩] _ hr2).mono ?_
  rintro e w2 ⟨rfl, hx2⟩
  rw [k2]
  have hx0 := (hx0.transNo ha2).transNo hx2
  have hF := (hF.ext ha2).ext hx2
  have c00 := hF.b0.cell' (i := 0) rfl
  have c01 := hF.b0.cell' (i := 1) rfl
  have c02 := hF.b0.cell' (i := 2) rfl
  have c10 := hF.b1.cell' (i := 0) rfl
  have c11 := hF.b1.cell' (i := 1) rfl
  have c12 := hF.b1.cell' (i := 2) rfl
  have c20 := hF.b2.cell' (i := 0) rfl
  have c21 := hF.b2.cell' (i := 1) rfl
  have c22 := hF.b2.cell' (i := 2) rfl
  have c30 := hF.b3.cell' (i := 0) rfl
  have c31 := hF.b3.cell' (i := 1) rfl
  have c32 := hF.b3.cell' (i := 2) rfl
  have l0 := hF.b0.lt
  have l1 := hF.b1.lt
  have l2 := hF.b2.lt
  have l3 := hF.b3.lt
  go_wp2_with fail
  clear l0 l1 l2 l3 c00 c01 c02 c10 c11 c12 c20 c21 c22 c30 c31 c32
  have ha3 : Ext No w2 (w2.alloc (.cells #[.int .i64 0, .int .i64 0, .int .i64 0, .int .i64 1, .int .i64 0, .int .i64 0] 98)) := (Ext.refl _ _).alloc _
  have hr3 : RdT (One w2.heap.size) (w2.alloc (.cells #[.int .i64 0, .int .i64 0, .int .i64 0, .int .i64 1, .int .i64 0, .int .i64 0] 98)) (.slice (some ⟨w2.heap.size, 0, none⟩) 2 2) [⟨0, 0, 0⟩, ⟨1, 0, 0⟩] := rdT_new [⟨0, 0, 0⟩, ⟨1, 0, 0⟩] 2 rfl (by decide)
  refine (check61_spec _ _ [⟨0, 0, 0⟩, ⟨1, 0, 0⟩] _ hr3).mono ?_
  rintro e w3 ⟨rfl, hx3⟩
  rw [k3]
  have hx0 := (hx0.transNo ha3).transNo hx3
  have hF := (hF.ext ha3).ext hx3
  have c00 := hF.b0.cell' (i := 0) rfl
  have c01 := hF.b0.cell' (i := 1) rfl
  have c02 := hF.b0.cell' (i := 2) rfl
  have c10 := hF.b1.cell' (i := 0) rfl
  have c11 := hF.b1.cell' (i := 1) rfl
  have c12 := hF.b1.cell' (i := 2) rfl
  have c20 := hF.b2.cell' (i := 0) rfl
  have c21 := hF.b2.cell' (i := 1) rfl
  have c22 := hF.b2.cell' (i := 2) rfl
  have c30 := hF.b3.cell' (i := 0) rfl
  have c31 := hF.b3.cell' (i := 1) rfl
  have c32 := hF.b3.cell' (i := 2) rfl
  have l0 := hF.b0.lt
  have l1 := hF.b1.lt
  have l2 := hF.b2.lt
  have l3 := hF.b3.lt
  go_wp2_with fail
  clear l0 l1 l2 l3 c00 c01 c02 c10 c11 c12 c20 c21 c22 c30 c31 c32
  refine (check61_spec _ _ [] No (Rd.nil _ _ _)).mono ?_
  rintro e w4 ⟨rfl, hx4⟩
  rw [k4]
  have hx0 := hx0.transNo hx4
  have hF := hF.ext hx4
  have c00 := hF.b0.cell' (i := 0) rfl
  have c01 := hF.b0.cell' (i := 1) rfl
  have c02 := hF.b0.cell' (i := 2) rfl
  have c10 := hF.b1.cell' (i := 0) rfl
  have c11 := hF.b1.cell' (i := 1) rfl
  have c12 := hF.b1.cell' (i := 2) rfl
  have c20 := hF.b2.cell' (i := 0) rfl
  have c21 := hF.b2.cell' (i := 1) rfl
  have c22 := hF.b2.cell' (i := 2) rfl
  have c30 := hF.b3.cell' (i := 0) rfl
  have c31 := hF.b3.cell' (i := 1) rfl
  have c32 := hF.b3.cell' (i := 2) rfl
  have l0 := hF.b0.lt
  have l1 := hF.b1.lt
  have l2 := hF.b2.lt
  have l3 := hF.b3.lt
  go_wp2_with fail
  clear l0 l1 l2 l3 c00 c01 c02 c10 c11 c12 c20 c21 c22 c30 c31 c32
  have ha5 : Ext No w4 (w4.alloc (.cells #[.int .i64 2, .int .i64 1, .int .i64 1, .int .i64 1, .int .i64 0, .int .i64 0, .int .i64 0, .int .i64 0, .int .i64 0] 98)) := (Ext.refl _ _).alloc _
  have hr5 : RdT (One w4.heap.size) (w4.alloc (.cells #[.int .i64 2, .int .i64 1, .int .i64 1, .int .i64 1, .int .i64 0, .int .i64 0, .int .i64 0, .int .i64 0, .int .i64 0] 98)) (.slice (some ⟨w4.heap.size, 0, none⟩) 3 3) [⟨2, 1, 1⟩, ⟨1, 0, 0⟩, ⟨0, 0, 0⟩] := rdT_new [⟨2, 1, 1⟩, ⟨1, 0, 0⟩, ⟨0, 0, 0⟩] 3 rfl (by decide)
  refine (head63_spec _ _ [⟨2, 1, 1⟩, ⟨1, 0, 0⟩, ⟨0, 0, 0⟩] _ hr5 1).mono ?_
  rintro e w5 ⟨rfl, hx5⟩
  rw [k5.1, k5.2]
  have hx0 := (hx0.transNo ha5).transNo hx5
  have hF := (hF.ext ha5).ext hx5
  have c00 := hF.b0.cell' (i := 0) rfl
  have c01 := hF.b0.cell' (i := 1) rfl
  have c02 := hF.b0.cell' (i := 2) rfl
  have c10 := hF.b1.cell' (i := 0) rfl
  have c11 := hF.b1.cell' (i := 1) rfl
  have c12 := hF.b1.cell' (i := 2) rfl
  have c20 := hF.b2.cell' (i := 0) rfl
  have c21 := hF.b2.cell' (i := 1) rfl
  have c22 := hF.b2.cell' (i := 2) rfl
  have c30 := hF.b3.cell' (i := 0) rfl
  have c31 := hF.b3.cell' (i := 1) rfl
  have c32 := hF.b3.cell' (i := 2) rfl
  have l0 := hF.b0.lt
  have l1 := hF.b1.lt
  have l2 := hF.b2.lt
  have l3 := hF.b3.lt
  go_wp2_with fail
  clear l0 l1 l2 l3 c00 c01 c02 c10 c11 c12 c20 c21 c22 c30 c31 c32
  have ha6 : Ext No w5 (w5.alloc (.cells #[.int .i64 0, .int .i64 0, .int .i64 0, .int .i64 0, .int .i64 0, .int .i64 0, .int .i64 0, .int .i64 0, .int .i64 0] 98)) := (Ext.refl _ _).alloc _
  have hr6 : RdT (One w5.heap.size) (w5.alloc (.cells #[.int .i64 0, .int .i64 0, .int .i64 0, .int .i64 0, .int .i64 0, .int .i64 0, .int .i64 0, .int .i64 0, .int .i64 0] 98)) (.slice (some ⟨w5.heap.size, 0, none⟩) 3 3) [⟨0, 0, 0⟩, ⟨0, 0, 0⟩, ⟨0, 0, 0⟩] := rdT_new [⟨0, 0, 0⟩, ⟨0, 0, 0⟩, ⟨0, 0, 0⟩] 3 rfl (by decide)
  refine (set60_good _ _ [⟨0, 0, 0⟩, ⟨0, 0, 0⟩, ⟨0, 0, 0⟩] _ hr6 0 ⟨2, 1, 1⟩ k7 (by decide) (by decide) (by decide) (by decide)).mono ?_
  rintro e w6 ⟨r6, rfl, ho6, hx6⟩
  rw [k8] at ho6
  have hx0 := (hx0.transNo ha6).transNo hx6
  have hF := (hF.ext ha6).ext hx6
  have hR := own_rdT (l := [⟨2, 1, 1⟩, ⟨1, 0, 0⟩, ⟨0, 0, 0⟩]) ho6
  obtain ⟨ar, cr, rfl, _, _⟩ := hR.val
  have c00 := hF.b0.cell' (i := 0) rfl
  have c01 := hF.b0.cell' (i := 1) rfl
  have c02 := hF.b0.cell' (i := 2) rfl
  have c10 := hF.b1.cell' (i := 0) rfl
  have c11 := hF.b1.cell' (i := 1) rfl
  have c12 := hF.b1.cell' (i := 2) rfl
  have c20 := hF.b2.cell' (i := 0) rfl
  have c21 := hF.b2.cell' (i := 1) rfl
  have c22 := hF.b2.cell' (i := 2) rfl
  have c30 := hF.b3.cell' (i := 0) rfl
  have c31 := hF.b3.cell' (i := 1) rfl
  have c32 := hF.b3.cell' (i := 2) rfl
  have l0 := hF.b0.lt
  have l1 := hF.b1.lt
  have l2 := hF.b2.lt
  have l3 := hF.b3.lt
  go_wp2_with fail
  clear l0 l1 l2 l3 c00 c01 c02 c10 c11 c12 c20 c21 c22 c30 c31 c32
  have ha7 : Ext No w6 (w6.alloc (.cells #[.int .i64 0, .int .i64 1, .int .i64 0, .int .i64 1, .int .i64 0, .int .i64 0, .int .i64 0, .int .i64 0, .int .i64 0] 98)) := (Ext.refl _ _).alloc _
  have hr7 : RdT (One w6.heap.size) (w6.alloc (.cells #[.int .i64 0, .int .i64 1, .int .i64 0, .int .i64 1, .int .i64 0, .int .i64 0, .int .i64 0, .int .i64 0, .int .i64 0] 98)) (.slice (some ⟨w6.heap.size, 0, none⟩) 3 3) [⟨0, 1, 0⟩, ⟨1, 0, 0⟩, ⟨0, 0, 0⟩] := rdT_new [⟨0, 1, 0⟩, ⟨1, 0, 0⟩, ⟨0, 0, 0⟩] 3 rfl (by decide)
  refine (set60_frame _ _ [⟨0, 1, 0⟩, ⟨1, 0, 0⟩, ⟨0, 0, 0⟩] _ hr7 0 ⟨0, 0, 0⟩ k9 (by decide) (by decide) (by decide) (by decide)).mono ?_
  rintro e w7 ⟨rfl, hx7⟩
  have hR := (hR.extNo ha7).extNo hx7
  have hx0 := (hx0.transNo ha7).transNo hx7
  have hF := (hF.ext ha7).ext hx7
  have c00 := hF.b0.cell' (i := 0) rfl
  have c01 := hF.b0.cell' (i := 1) rfl
  have c02 := hF.b0.cell' (i := 2) rfl
  have c10 := hF.b1.cell' (i := 0) rfl
  have c11 := hF.b1.cell' (i := 1) rfl
  have c12 := hF.b1.cell' (i := 2) rfl
  have c20 := hF.b2.cell' (i := 0) rfl
  have c21 := hF.b2.cell' (i := 1) rfl
  have c22 := hF.b2.cell' (i := 2) rfl
  have c30 := hF.b3.cell' (i := 0) rfl
  have c31 := hF.b3.cell' (i := 1) rfl
  have c32 := hF.b3.cell' (i := 2) rfl
  have l0 := hF.b0.lt
  have l1 := hF.b1.lt
  have l2 := hF.b2.lt
  have l3 := hF.b3.lt
  go_wp2_with fail
  clear l0 l1 l2 l3 c00 c01 c02 c10 c11 c12 c20 c21 c22 c30 c31 c32
  have ha8 : Ext No w7 (w7.alloc (.cells #[.int .i64 2, .int .i64 1, .int .i64 1, .int .i64 1, .int .i64 0, .int .i64 0, .int .i64 0, .int .i64 0, .int .i64 0] 98)) := (Ext.refl _ _).alloc _
  have hr8 : RdT (One w7.heap.size) (w7.alloc (.cells #[.int .i64 2, .int .i64 1, .int .i64 1, .int .i64 1, .int .i64 0, .int .i64 0, .int .i64 0, .int .i64 0, .int .i64 0] 98)) (.slice (some ⟨w7.heap.size, 0, none⟩) 3 3) [⟨2, 1, 1⟩, ⟨1, 0, 0⟩, ⟨0, 0, 0⟩] := rdT_new [⟨2, 1, 1⟩, ⟨1, 0, 0⟩, ⟨0, 0, 0⟩] 3 rfl (by decide)
  refine (free64_spec _ _ [⟨2, 1, 1⟩, ⟨1, 0, 0⟩, ⟨0, 0, 0⟩] _ hr8).mono ?_
  rintro e w8 ⟨rfl, hx8⟩
  rw [k6]
  have hR := (hR.extNo ha8).extNo hx8
  have hx0 := (hx0.transNo ha8).transNo hx8
  have hF := (hF.ext ha8).ext hx8
  have c00 := hF.b0.cell' (i := 0) rfl
  have c01 := hF.b0.cell' (i := 1) rfl
  have c02 := hF.b0.cell' (i := 2) rfl
  have c10 := hF.b1.cell' (i := 0) rfl
  have c11 := hF.b1.cell' (i := 1) rfl
  have c12 := hF.b1.cell' (i := 2) rfl
  have c20 := hF.b2.cell' (i := 0) rfl
  have c21 := hF.b2.cell' (i := 1) rfl
  have c22 := hF.b2.cell' (i := 2) rfl
  have c30 := hF.b3.cell' (i := 0) rfl
  have c31 := hF.b3.cell' (i := 1) rfl
  have c32 := hF.b3.cell' (i := 2) rfl
  have l0 := hF.b0.lt
  have l1 := hF.b1.lt
  have l2 := hF.b2.lt
  have l3 := hF.b3.lt
  go_wp2_with fail
  clear l0 l1 l2 l3 c00 c01 c02 c10 c11 c12 c20 c21 c22 c30 c31 c32
  have ha9 : Ext No w8 (w8.alloc (.cells #[.int .i64 2, .int .i64 1, .int .i64 1, .int .i64 1, .int .i64 0, .int .i64 0, .int .i64 0, .int .i64 0, .int .i64 0] 98)) := (Ext.refl _ _).alloc _
  have hr9 : RdT (One w8.heap.size) (w8.alloc (.cells #[.int .i64 2, .int .i64 1, .int .i64 1, .int .i64 1, .int .i64 0, .int .i64 0, .int .i64 0, .int .i64 0, .int .i64 0] 98)) (.slice (some ⟨w8.heap.size, 0, none⟩) 3 3) [⟨2, 1, 1⟩, ⟨1, 0, 0⟩, ⟨0, 0, 0⟩] := rdT_new [⟨2, 1, 1⟩, ⟨1, 0, 0⟩, ⟨0, 0, 0⟩] 3 rfl (by decide)
  refine (same62_spec _ _ _ [⟨2, 1, 1⟩, ⟨1, 0, 0⟩, ⟨0, 0, 0⟩] [⟨2, 1, 1⟩, ⟨1, 0, 0⟩, ⟨0, 0, 0⟩] _ _ (hR.extNo ha9) hr9).mono ?_
  rintro e w9 ⟨rfl, hx9⟩
  have hx0 := (hx0.transNo ha9).transNo hx9
  have hF := (hF.ext ha9).ext hx9
  rw [decide_eq_true rfl]
  go_wp2_with fail
  go_ret
  exact ⟨rfl, hx0⟩
end Go.Proofs.Ytjkknjohmekeiaa
/- The law FrameSum, walked. No condition. -/
namespace Go.Proofs.Ytjkknjohmekeiaa
open Go.RowKit

theorem rch_end {l : List T3} (hv : Va l) : Rch l l.length := by
  obtain ⟨e, hr, h3, h4⟩ := rch_at hv l.length (Nat.le_refl _)
  have h5 : e = l.length := by
    rcases h4 with h4 | h4
    · rcases Nat.lt_or_ge e l.length with h6 | h6
      · have := (hv e hr h6).2.2.1; omega
      · omega
    · exact h4.1
  rw [← h5]; exact hr
/-- What the first so many pages bring. -/
def sumTo (c : T3 → Int) (l : List T3) : Nat → Int
  | 0 => 0
  | k + 1 => sumTo c l k + c (nth l k)
def cAll (p : T3) : Int := if p.a == 1 then 0 else sz p
def cFree (p : T3) : Int := if p.a == 0 then sz p else 0
theorem sumTo_mid {c : T3 → Int} (hc : c inside = 0) {l : List T3} {i : Nat} (ho : Ok l i) : ∀ m, m + 1 ≤ sz (nth l i) → sumTo c l (i + (m + 1)) = sumTo c l i + c (nth l i)
  | 0, _ => rfl
  | m + 1, h => by
    have ih := sumTo_mid hc ho m (by omega)
    show sumTo c l (i + (m + 1)) + c (nth l (i + (m + 1))) = _
    rw [ih, ho.2.2.2 (i + (m + 1)) (by omega) (by omega), hc]; omega
theorem sumTo_block {c : T3 → Int} (hc : c inside = 0) {l : List T3} {i : Nat} (ho : Ok l i) : sumTo c l (i + sz (nth l i)) = sumTo c l i + c (nth l i) := by
  have hp := sz_pos (nth l i)
  have := sumTo_mid hc ho (sz (nth l i) - 1) (by omega)
  rw [show sz (nth l i) - 1 + 1 = sz (nth l i) by omega] at this
  exact this
theorem head_kind {p : T3} (h : headB p = true) : p.a = 0 ∨ p.a = 2 := by
  simp only [headB, Bool.and_eq_true, Bool.or_eq_true, decide_eq_true_eq] at h
  omega
theorem all_eq {l : List T3} (hv : Va l) {i : Nat} (hr : Rch l i) : sumTo cAll l i = i := by
  induction hr with
  | zero => rfl
  | @step i hr hlt ih =>
    have ho := hv i hr hlt
    rw [sumTo_block (by decide) ho, ih]
    have := head_kind ho.1
    unfold cAll
    rw [if_neg (by rw [beq_iff_eq]; omega)]
    omega
theorem free_eq {l : List T3} (hv : Va l) : ∀ (n i : Nat), l.length - i ≤ n → Rch l i → sumTo cFree l l.length = sumTo cFree l i + freeS (bseq l i)
  | 0, i, hn, hr => by
    have := hr.le hv
    rw [show i = l.length by omega, bseq_out (Nat.le_refl _)]; simp [freeS]
  | n + 1, i, hn, hr => by
    by_cases hi : i < l.length
    · have ho := hv i hr hi
      have hp := sz_pos (nth l i)
      rw [bseq_ok hi (ok_iff.2 ho), free_eq hv n _ (by omega) (hr.step hi), sumTo_block (by decide) ho]
      simp only [freeS, cFree]
      omega
    · have := hr.le hv
      rw [show i = l.length by omega, bseq_out (Nat.le_refl _)]; simp [freeS]
theorem free_all {l : List T3} (hv : Va l) : sumTo cFree l l.length = freeS (bl l) := by
  have := free_eq hv l.length 0 (by omega) .zero
  simpa [sumTo, bl] using this
/-- A page that is not inside is a head. -/
theorem hd_of_kind {l : List T3} (hv : Va l) {i : Nat} (hi : i < l.length) (hk : (nth l i).a ≠ 1) : Rch l i := by
  obtain ⟨h, hh⟩ := hd_ex hv hi
  rcases Nat.eq_or_lt_of_le hh.le with e | e
  · rw [← e]; exact hh.r
  · have ho := hv h hh.r (hh.hlt hi)
    rw [ho.2.2.2 i e hh.lt] at hk
    exact absurd rfl hk
theorem entry {l : List T3} (hv : Va l) {j : Nat} (hj : j < l.length) : nth l j = inside ∨ (headB (nth l j) = true ∧ Rch l j) := by
  obtain ⟨h, hh⟩ := hd_ex hv hj
  have ho := hv h hh.r (hh.hlt hj)
  rcases Nat.eq_or_lt_of_le hh.le with e | e
  · subst e; exact .inr ⟨ho.1, hh.r⟩
  · exact .inl (ho.2.2.2 j e hh.lt)
theorem cBd (c : T3 → Int) (hi : c inside = 0) (hc : ∀ p, headB p = true → 0 ≤ c p ∧ c p ≤ 1024) {l : List T3} (hv : Va l) : ∀ k, k ≤ l.length → 0 ≤ sumTo c l k ∧ sumTo c l k ≤ 1024 * k
  | 0, _ => by simp [sumTo]
  | k + 1, h => by
    have ih := cBd c hi hc hv k (by omega)
    simp only [sumTo]
    rcases entry hv (show k < l.length by omega) with e | ⟨e, _⟩
    · rw [e, hi]; omega
    · have := hc _ e; omega
theorem cAll_bd (p : T3) (h : headB p = true) : 0 ≤ cAll p ∧ cAll p ≤ 1024 := by
  have := sz_le h; unfold cAll; split <;> omega
theorem cFree_bd (p : T3) (h : headB p = true) : 0 ≤ cFree p ∧ cFree p ≤ 1024 := by
  have := sz_le h; unfold cFree; split <;> omega

theorem RdT.take {F : Nat → Prop} {w : World} {a : Option Addr} {n cap : Nat} {l : List T3} (h : RdT F w (.slice a n cap) l) {m : Nat} (hm : m ≤ l.length) : RdT F w (.slice a m cap) (l.take m) := by
  have hl : (l.take m).length = m := by simp; omega
  obtain ⟨a', cap', e, g1, g2, g3, g4⟩ := h
  cases e
  unfold RdT
  rw [hl]
  refine ⟨a, cap, rfl, by rw [t3sCells_len, hl], by omega, g3, fun hne => ?_⟩
  have hm0 : 0 < m := by
    rcases Nat.eq_zero_or_pos m with h0 | h0
    · subst h0; exact absurd (by simp [t3sCells]) hne
    · exact h0
  obtain ⟨b', off', e2, k1, k2, k3⟩ := g4 (by intro e; rw [e] at g1; simp at g1; omega)
  refine ⟨b', off', e2, k1, k2, fun i u hu => ?_⟩
  have hi : i < m * 3 := by
    have := (List.getElem?_eq_some_iff.1 hu).1
    rw [t3sCells_len, hl] at this; exact this
  have hdm : i / 3 * 3 + i % 3 = i := by omega
  rw [← hdm, t3sCells_at (by rw [hl]; omega) (by omega)] at hu
  have e3 : nth (l.take m) (i / 3) = nth l (i / 3) := by
    rw [nth_eq (by rw [hl]; omega), nth_eq (by omega)]
    simp
  rw [e3] at hu
  have := k3 (i / 3 * 3 + i % 3) u (by rw [t3sCells_at (by omega) (by omega)]; exact hu)
  rw [hdm] at this; exact this

set_option maxRecDepth 100000 in
set_option maxHeartbeats 3200000 in
theorem frameSum_core (w : World) (v : Value) (l0 : List T3) (G : Nat → Prop) (hv0 : RdT G w v l0) :
    Calls Try.prog 16 #[v] w fun e w' => e = .returned (.bool true) ∧ Ext No w w' := by
  obtain ⟨a, cap, rfl, hlc, hcap⟩ := hv0.val
  obtain ⟨m, hm⟩ : ∃ m, min l0.length 200 = m := ⟨_, rfl⟩
  have hm1 : m ≤ l0.length := by omega
  have hm2 : m ≤ 200 := by omega
  have hv := hv0.take hm1
  have hl : (l0.take m).length = m := by simp; omega
  obtain ⟨l, hll⟩ : ∃ l, l0.take m = l := ⟨_, rfl⟩
  rw [hll] at hv hl
  have hmin : Hid (min (l0.length : Int) 200 = m) := by show _ = _; omega
  clear hll hv0 hm
  go_enter Try.func16, Try.ntmps16
  go_upto_region 1 with (fail)
  go_cut [0] (fun s0 wx => s0 = .slice a m cap ∧ wx = w)
  case first =>
    go_wp2_with fail
    · go_meet
      exact ⟨by rw [show m = 200 by have := hmin.out; omega], rfl⟩
    · go_meet
      exact ⟨by rw [show m = l0.length by have := hmin.out; omega], rfl⟩
  case rest =>
    obtain ⟨rfl, rfl⟩ := hcut
    subst hl
    clear hm1 hlc hmin
    cases ht : tabOk l
    · have hc := Lib.hid (chk_bad ht)
      have hf : Hid (freeF l = 0) := by show _ = _; unfold freeF; rw [ht]; rfl
      clear ht
      go_wp2_with fail
      refine (check61_spec _ _ l G hv).mono ?_
      rintro e w1 ⟨rfl, hx1⟩
      rw [hc.out]
      go_wp2_with fail
      refine (free64_spec _ _ l G (hv.extNo hx1)).mono ?_
      rintro e w2 ⟨rfl, hx2⟩
      rw [hf.out]
      go_wp2_with fail
      refine (works59_spec _).mono ?_
      rintro e w3 ⟨rfl, hx3⟩
      go_wp2_with fail
      go_ret
      exact ⟨rfl, (hx1.transNo hx2).transNo hx3⟩
    · obtain ⟨t0, t1, hva⟩ := tab_iff.1 ht
      have hc := Lib.hid (chk_ok ht)
      have hf : Hid (freeF l = sumTo cFree l l.length) := by show _ = _; unfold freeF; rw [ht, free_all hva]; rfl
      have hal : Hid (sumTo cAll l l.length = l.length) := all_eq hva (rch_end hva)
      have ht' := Lib.hid ht
      clear ht
      go_wp2_with fail
      refine (check61_spec _ _ l G hv).mono ?_
      rintro e w1 ⟨rfl, hx1⟩
      rw [hc.out]
      go_wp2_with fail
      go_loopg [3, 4, 5] l.length (fun g al fr i wr => ∃ k : Nat, k + g = l.length ∧ i = .int .i64 k ∧ al = .int .i64 (sumTo cAll l k) ∧ fr = .int .i64 (sumTo cFree l k) ∧ Ext No wc wr)
      case atStart => exact ⟨0, by omega, rfl, rfl, rfl, hx1⟩
      case round =>
        clear hx1
        obtain ⟨k, hk, rfl, rfl, rfl, hx⟩ := hrel
        have hk' := Lib.hid hk
        have hkn : k ≤ l.length := by omega
        clear hk
        obtain ⟨A0, A1⟩ := cBd cAll (by decide) cAll_bd hva k hkn
        obtain ⟨F0, F1⟩ := cBd cFree (by decide) cFree_bd hva k hkn
        by_cases hlt : k < l.length
        · have hE : Hid (headE l k = 0) := by show _ = _; unfold headE inT; rw [ht'.out]; simp [hlt]
          have hin : inT l (k : Int) = true := by unfold inT; simp [hlt]
          rcases entry hva hlt with hi | ⟨hb, hr⟩
          · obtain ⟨h, hh⟩ := hd_ex hva hlt
            have hhl := hh.hlt hlt
            have ho := hva h hh.r hhl
            have hR : Hid (headR l k = h) := by show _ = _; unfold headR; rw [ht'.out, hin, headF_eq hva hlt hh]; rfl
            obtain ⟨b, off, rfl, _, _, y0, y1, _⟩ := hv.at hhl
            obtain ⟨b', off', e9, _, _, x0, x1, _⟩ := hv.at hlt
            cases e9
            have hhk : h ≠ k := fun e => by
              subst e
              have := head_kind ho.1; rw [hi] at this; simp [inside] at this
            have x0 := hx.cell x0 id
            rw [hi] at x0
            simp only [inside] at x0
            obtain ⟨hsh, z1, z2⟩ := shl_ord ho.1
            have hkd : ((nth l h).a == 1) = false := by rw [beq_eq_false_iff_ne]; have := head_kind ho.1; omega
            have hle := hh.le
            have hlt2 : (k : Int) < h + sz (nth l h) := by have := hh.lt; omega
            have hsA : Hid (sumTo cAll l (k + 1) = sumTo cAll l k) := by show sumTo cAll l k + cAll (nth l k) = _; rw [hi]; simp [cAll, inside]
            have hsF : Hid (sumTo cFree l (k + 1) = sumTo cFree l k) := by show sumTo cFree l k + cFree (nth l k) = _; rw [hi]; simp [cFree, inside]
            have x0' := Lib.hid x0
            clear hi hh ho hin x0 x1 hva
            go_wp2_with fail
            refine (head63_spec _ _ l G (hv.extNo hx) k).mono ?_
            rintro e w2 ⟨rfl, hx2⟩
            rw [hR.out, hE.out]
            have hx3 := hx.transNo hx2
            have y0 := hx3.cell y0 id
            have y1 := hx3.cell y1 id
            have x0 := hx2.cell x0'.out id
            clear hx hx2
            go_wp2_with fail
            go_roundg (l.length - (k + 1))
            case measure => have := hk'.out; omega
            case rel => exact ⟨k + 1, by omega, by go_num, by rw [hsA.out], by rw [hsF.out], hx3⟩
          · have ho := hva k hr hlt
            have hR : Hid (headR l k = k) := by show _ = _; unfold headR; rw [ht'.out, hin, headF_eq hva hlt (.start hr)]; rfl
            obtain ⟨b, off, rfl, _, _, y0, y1, _⟩ := hv.at hlt
            obtain ⟨hsh, z1, z2⟩ := shl_ord hb
            have hkd : ((nth l k).a == 1) = false := by rw [beq_eq_false_iff_ne]; have := head_kind hb; omega
            have hle : k ≤ k := Nat.le_refl _
            have hlt2 : (k : Int) < k + sz (nth l k) := by omega
            have hsA : Hid (sumTo cAll l (k + 1) = sumTo cAll l k + sz (nth l k)) := by show sumTo cAll l k + cAll (nth l k) = _; unfold cAll; rw [hkd]; rfl
            rcases head_kind hb with hz | hz
            · have hz0 : ((nth l k).a == 0) = true := by rw [beq_iff_eq]; exact hz
              have hsF : Hid (sumTo cFree l (k + 1) = sumTo cFree l k + sz (nth l k)) := by show sumTo cFree l k + cFree (nth l k) = _; unfold cFree; rw [hz0]; rfl
              clear hz ho hin hva hr
              go_wp2_with fail
              refine (head63_spec _ _ l G (hv.extNo hx) k).mono ?_
              rintro e w2 ⟨rfl, hx2⟩
              rw [hR.out, hE.out]
              have hx3 := hx.transNo hx2
              have y0 := hx3.cell y0 id
              have y1 := hx3.cell y1 id
              clear hx hx2
              go_wp2_with fail
              go_roundg (l.length - (k + 1))
              case measure => have := hk'.out; omega
              case rel => exact ⟨k + 1, by omega, by go_num, by rw [hsA.out], by rw [hsF.out], hx3⟩
            · have hz0 : ((nth l k).a == 0) = false := by rw [beq_eq_false_iff_ne]; omega
              have hsF : Hid (sumTo cFree l (k + 1) = sumTo cFree l k) := by show sumTo cFree l k + cFree (nth l k) = _; unfold cFree; rw [hz0]; simp
              clear hz ho hin hva hr
              go_wp2_with fail
              refine (head63_spec _ _ l G (hv.extNo hx) k).mono ?_
              rintro e w2 ⟨rfl, hx2⟩
              rw [hR.out, hE.out]
              have hx3 := hx.transNo hx2
              have y0 := hx3.cell y0 id
              have y1 := hx3.cell y1 id
              clear hx hx2
              go_wp2_with fail
              go_roundg (l.length - (k + 1))
              case measure => have := hk'.out; omega
              case rel => exact ⟨k + 1, by omega, by go_num, by rw [hsA.out], by rw [hsF.out], hx3⟩
        · obtain rfl : k = l.length := by omega
          rw [hal.out, ← hf.out]
          clear hlt F0 F1 A0 A1
          go_wp2_with fail
          refine (free64_spec _ _ l G (hv.extNo hx)).mono ?_
          rintro e w2 ⟨rfl, hx2⟩
          go_wp2_with fail
          refine (works59_spec _).mono ?_
          rintro e w3 ⟨rfl, hx3⟩
          go_wp2_with fail
          go_ret
          exact ⟨rfl, (hx.transNo hx2).transNo hx3⟩

theorem frameSum_walk (w : World) (v : Value) (l : List T3) (hv : RdT (Iv 0 w.heap.size) w v l) (_ : l.length * 24 ≤ reachBytes ∧ ∀ x ∈ l, T3wf x) :
    Calls Try.prog 16 #[v] w fun e w' => e = .returned (.bool true) ∧ Below w.heap.size w w' :=
  (frameSum_core w v l _ hv).mono fun _ _ ⟨h1, h2⟩ => ⟨h1, h2.belowNo⟩
end Go.Proofs.Ytjkknjohmekeiaa
/- Buddies in memory: size, other, free, lay. Orders lie between 0 and 10. -/
namespace Go.Proofs.Ytjkknjohmekeiaa
open Go.RowKit

def pw (o : Nat) : Nat := 2 ^ o
theorem pw_pos (o : Nat) : 1 ≤ pw o := Nat.one_le_two_pow
theorem pw_le {o : Nat} (h : o ≤ 10) : pw o ≤ 1024 := by
  unfold pw
  calc 2 ^ o ≤ 2 ^ 10 := Nat.pow_le_pow_right (by omega) h
    _ = 1024 := rfl
theorem pw_succ (o : Nat) : pw (o + 1) = 2 * pw o := by unfold pw; rw [Nat.pow_succ]; omega
theorem shl_pw {o : Nat} (h : o ≤ 10) : ∀ w, (Op.shift .shl .i64 1 .i64 (o : Int)).run Try.prog w = .ok (.int .i64 (pw o : Nat)) w := by
  intro w
  have z := pw_le h
  rw [shift_shl_i64 (yk := .i64) (x := 1) (y := (o : Int)) (by omega) (by omega)]
  have e : (1 * 2 ^ o : Int) = ((2 ^ o : Nat) : Int) := by rw [Int.one_mul]; norm_cast
  have e2 : IntKind.i64.wrap (1 * 2 ^ ((o : Int)).toNat) = (pw o : Nat) := by
    rw [Int.toNat_natCast, e, IntKind.wrap_i64]
    unfold pw at z ⊢
    obtain ⟨y, hy⟩ : ∃ y : Nat, 2 ^ o = y := ⟨_, rfl⟩
    rw [hy] at z ⊢
    omega
  rw [e2]; rfl
theorem wrap_pw {o : Nat} (h : o ≤ 10) : wrap64 (2 ^ o) = ((pw o : Nat) : Int) := by
  have z := pw_le h
  have e : (2 ^ o : Int) = ((pw o : Nat) : Int) := by unfold pw; norm_cast
  rw [e]
  unfold wrap64
  omega
/-- A block's buddy. -/
def oth (i o : Nat) : Nat := i ^^^ pw o

theorem size141_spec (w : World) (i o : Nat) (h : o ≤ 10) :
    Calls Try.prog 141 #[.agg #[.int .i64 i, .int .i64 o]] w fun e w' => e = .returned (.int .i64 (pw o : Nat)) ∧ Ext No w w' := by
  have hsh := shl_pw h
  go_enter Try.func141, Try.ntmps141
  go_wp2_with fail
  go_ret
  exact ⟨ret_eq (by rw [← wrap_pw h]; rfl), (Ext.refl _ _).alloc _⟩

set_option maxRecDepth 100000 in
set_option maxHeartbeats 1600000 in
theorem other116_spec (w : World) (i o : Nat) (h : o ≤ 10) (hi : i < 4611686018427387904) (hx : oth i o < 4611686018427387904) :
    Calls Try.prog 116 #[.agg #[.int .i64 i, .int .i64 o]] w fun e w' => e = .returned (.agg #[.int .i64 (oth i o : Nat), .int .i64 o]) ∧ Ext No w w' := by
  have hxor : Go.bits .xor .i64 (i : Int) (pw o : Nat) = (oth i o : Nat) := bits_xor_i64 i (pw o) hi (by have := pw_le h; omega) hx
  go_enter Try.func116, Try.ntmps116
  go_wp2_with fail
  obtain ⟨A, hA⟩ : ∃ A, w.heap.size = A := ⟨_, rfl⟩
  obtain ⟨W, hW⟩ : ∃ W, (w.alloc (.cells #[.int .i64 i, .int .i64 o] 162)).alloc (.cells #[.int .i64 0, .int .i64 0] 162) = W := ⟨_, rfl⟩
  have hX : Ext No w W := by rw [← hW]; exact ((Ext.refl _ _).alloc _).alloc _
  have hB0 : Blk W A [.int .i64 i, .int .i64 o] 162 := by rw [← hW]; exact (Blk.new' hA.symm).alloc _
  have hB1 : Blk W (A + 1) [.int .i64 0, .int .i64 0] 162 := by rw [← hW]; exact Blk.new' (by simp [hA])
  rw [hW, hA]
  clear hW
  have hxd : Ext No W W.drew := (Ext.refl No W).drew
  refine anyZ_begin 8 (fun w' => w'.cell? ⟨A, 0, none⟩ = some (.int .i64 i) ∧ w'.cell? ⟨A, 1, none⟩ = some (.int .i64 o)) (by kernel_rfl) ?_
  have hC : (fun w' : World => w'.cell? ⟨A, 0, none⟩ = some (.int .i64 i) ∧ w'.cell? ⟨A, 1, none⟩ = some (.int .i64 o)) W.drew := ⟨hB0.cell' (i := 0) rfl, hB0.cell' (i := 1) rfl⟩
  refine anyZ_take 0 (v := ?_) rfl (by kernel_rfl) (by kernel_rfl) (by kernel_rfl) (by kernel_rfl) (fun _ _ _ h => h) hC (Or.inl ⟨by rfl, ?_⟩) ?_
  rotate_left
  · (intro wq hq; (try dsimp only at hq); go_simp; with_reducible rfl)
  simp only [Act.put, List.setIfInBounds_toArray, List.set_cons_zero, List.set_cons_succ]
  refine anyZ_take 1 (v := ?_) rfl (by kernel_rfl) (by kernel_rfl) (by kernel_rfl) (by kernel_rfl) (fun _ _ _ h => h) hC (Or.inl ⟨by rfl, ?_⟩) ?_
  rotate_left
  · (intro wq hq; (try dsimp only at hq); go_simp; with_reducible rfl)
  simp only [Act.put, List.setIfInBounds_toArray, List.set_cons_zero, List.set_cons_succ]
  refine anyZ_take 2 (v := ?_) rfl (by kernel_rfl) (by kernel_rfl) (by kernel_rfl) (by kernel_rfl) (fun _ _ _ h => h) hC (Or.inl ⟨by rfl, ?_⟩) ?_
  rotate_left
  · (intro wq hq; (try dsimp only at hq); go_simp; with_reducible rfl)
  simp only [Act.put, List.setIfInBounds_toArray, List.set_cons_zero, List.set_cons_succ]
  refine anyZ_take 5 (v := ?_) rfl (by kernel_rfl) (by kernel_rfl) (by kernel_rfl) (by kernel_rfl) (fun _ _ _ h => h) hC (Or.inl ⟨by rfl, ?_⟩) ?_
  rotate_left
  · (intro wq hq; (try dsimp only at hq); go_simp; with_reducible rfl)
  simp only [Act.put, List.setIfInBounds_toArray, List.set_cons_zero, List.set_cons_succ]
  refine anyZ_take 6 (v := ?_) rfl (by kernel_rfl) (by kernel_rfl) (by kernel_rfl) (by kernel_rfl) (fun _ _ _ h => h) hC (Or.inl ⟨by rfl, ?_⟩) ?_
  rotate_left
  · (intro wq hq; (try dsimp only at hq); go_simp; with_reducible rfl)
  simp only [Act.put, List.setIfInBounds_toArray, List.set_cons_zero, List.set_cons_succ]
  refine anyZ_step 3 rfl (by kernel_rfl) (fun K hK => ?_)
  go_simp
  refine (size141_spec _ i o h).mono ?_
  rintro e w1 ⟨rfl, hx1⟩
  have hX1 := hxd.transNo hx1
  have hC1 : (fun w' : World => w'.cell? ⟨A, 0, none⟩ = some (.int .i64 i) ∧ w'.cell? ⟨A, 1, none⟩ = some (.int .i64 o)) w1 := ⟨hX1.cell (hB0.cell' (i := 0) rfl) id, hX1.cell (hB0.cell' (i := 1) rfl) id⟩
  have hB2 := hB1.extNo hX1
  refine hK _ _ hC1 ?_
  clear hK K
  try simp only [Act.put, List.setIfInBounds_toArray, List.set_cons_zero, List.set_cons_succ]
  refine anyZ_take 4 (v := ?_) rfl (by kernel_rfl) (by kernel_rfl) (by kernel_rfl) (by kernel_rfl) (fun _ _ _ h => h) hC1 (Or.inl ⟨by rfl, ?_⟩) ?_
  rotate_left
  · (intro wq hq; (try dsimp only at hq); go_simp; with_reducible rfl)
  simp only [Act.put, List.setIfInBounds_toArray, List.set_cons_zero, List.set_cons_succ]
  refine anyZ_take 7 (v := ?_) rfl (by kernel_rfl) (by kernel_rfl) (by kernel_rfl) (by kernel_rfl) (fun _ _ _ h => h) hC1 (Or.inl ⟨by rfl, ?_⟩) ?_
  rotate_left
  · (intro wq hq; (try dsimp only at hq); go_simp; with_reducible rfl)
  simp only [Act.put, List.setIfInBounds_toArray, List.set_cons_zero, List.set_cons_succ]
  clear hC hC1
  have b0 := hB2.cell' (i := 0) rfl
  have b1 := hB2.cell' (i := 1) rfl
  have f0 := hB2.frozen 0
  have f1 := hB2.frozen 1
  refine anyZ_last rfl (by kernel_rfl) (fun K hK => ?_)
  go_simp
  refine hK _ _ ?_
  clear hK K
  try simp only [Act.put, List.setIfInBounds_toArray, List.set_cons_zero, List.set_cons_succ]
  refine anyZ_done (by kernel_rfl) ?_ _
  have hB3 : Blk ((w1.setCell ⟨A + 1, 0, none⟩ (.int .i64 (oth i o : Nat))).setCell ⟨A + 1, 1, none⟩ (.int .i64 o)) (A + 1) [.int .i64 (oth i o : Nat), .int .i64 o] 162 := (hB2.set 0 _).set 1 _
  have hX3 : Ext No w ((w1.setCell ⟨A + 1, 0, none⟩ (.int .i64 (oth i o : Nat))).setCell ⟨A + 1, 1, none⟩ (.int .i64 o)) := ((hX.transNo hX1).setCell _ _ (.inl (by rw [hA]; exact Nat.le_succ _))).setCell _ _ (.inl (by rw [hA]; exact Nat.le_succ _))
  have r0 := hB3.cell' (i := 0) rfl
  have r1 := hB3.cell' (i := 1) rfl
  clear b0 b1 f0 f1
  go_wp2_with fail
  refine bodyPost_ret (v := .agg #[.int .i64 (oth i o : Nat), .int .i64 o]) ?_ rfl ⟨rfl, hX3⟩
  simp [results, Try.results116, go_sem, r0, r1]
end Go.Proofs.Ytjkknjohmekeiaa
/- Buddies in memory: free, lay. Orders lie between 0 and 10. -/
namespace Go.Proofs.Ytjkknjohmekeiaa
open Go.RowKit

/-- Buddies at block bb, their pages in the row v. -/
structure BR (w : World) (bb base : Nat) (v : Value) (l : List T3) (T : TypeId := 126) : Prop where
  b : Blk w bb [v] T
  p : w.ownsRow base 98 3 v l.length (t3sCells l)
  ne : ¬ OwnOf v bb
  n : l.length ≤ 1024
section
variable {S : Nat → Prop} {w w' : World} {bb base : Nat} {v : Value} {l : List T3} {T : TypeId}
theorem BR.ext (h : BR w bb base v l T) (hx : Ext S w w') (h1 : ¬ S bb) (h2 : ∀ x, OwnOf v x → ¬ S x) : BR w' bb base v l T :=
  ⟨h.b.ext hx h1, ownsRow_ext h.p hx (fun k hk => h2 k hk), h.ne, h.n⟩
theorem BR.extNo (h : BR w bb base v l T) (hx : Ext No w w') : BR w' bb base v l T := h.ext hx id (fun _ _ => id)
theorem BR.rd (h : BR w bb base v l T) : RdT (OwnOf v) w v l := own_rdT h.p
theorem BR.val (h : BR w bb base v l T) : ∃ a cap, v = .slice a l.length cap ∧ l.length ≤ cap ∧ cap ≤ 9223372036854775807 := h.rd.val
end

def freeB (l : List T3) (i o : Nat) : Bool := decide (i < l.length) && decide (nth l i = ⟨0, o, 0⟩)

set_option maxRecDepth 100000 in
set_option maxHeartbeats 1600000 in
theorem free115_spec (w : World) (bb base : Nat) (v : Value) (l : List T3) (h : BR w bb base v l) (i o : Nat) (_hi : i < 4611686018427387904) :
    Calls Try.prog 115 #[.pointer (some ⟨bb, 0, none⟩), .agg #[.int .i64 i, .int .i64 o]] w fun e w' => e = .returned (.bool (freeB l i o)) ∧ Ext No w w' := by
  obtain ⟨a, cap, rfl, hlc, hcap⟩ := h.val
  have hx : Ext No w (w.alloc (.cells #[.int .i64 i, .int .i64 o] 162)) := (Ext.refl _ _).alloc _
  have h0 := h.b.cell' (i := 0) rfl
  have hlt := h.b.lt
  by_cases hi2 : i < l.length
  · obtain ⟨b, off, rfl, hbl, _, x0, x1, x2⟩ := h.rd.at hi2
    have hd : decide ((i : Int) < l.length) = true := decide_eq_true (by omega)
    by_cases he : nth l i = ⟨0, o, 0⟩
    · have hr : Hid (freeB l i o = true) := by show _ = _; unfold freeB; rw [decide_eq_true hi2, decide_eq_true he]; rfl
      have e1 : ((nth l i).a == 0) = true := by rw [he]; rfl
      have e2 : ((nth l i).b == (o : Int)) = true := by rw [he]; simp
      have e3 : ((nth l i).c == 0) = true := by rw [he]; rfl
      clear he
      go_enter Try.func115, Try.ntmps115
      go_wp2
      go_quiet (fail)
      go_wp2
      go_ret
      exact ⟨by rw [hr.out]; rfl, hx.drewN _⟩
    · have hr : Hid (freeB l i o = false) := by show _ = _; unfold freeB; rw [decide_eq_false he, Bool.and_false]
      rcases T3.ne_cases he with e1 | ⟨e1, e2⟩ | ⟨e1, e2, e3⟩
      all_goals
        clear he
        go_enter Try.func115, Try.ntmps115
        go_wp2
        go_quiet (fail)
        go_wp2
        go_ret
        exact ⟨by rw [hr.out]; rfl, hx.drewN _⟩
  · have hr : Hid (freeB l i o = false) := by show _ = _; unfold freeB; rw [decide_eq_false hi2]; rfl
    have hd : decide ((i : Int) < l.length) = false := decide_eq_false (by omega)
    go_enter Try.func115, Try.ntmps115
    go_wp2
    go_quiet (fail)
    go_wp2
    go_ret
    exact ⟨by rw [hr.out]; rfl, hx.drewN _⟩
end Go.Proofs.Ytjkknjohmekeiaa
