/- Head, Free, Clone of a table. No condition but that a table that is cloned fits into memory. -/
import Derived.Test.YtjkknjohmekeiaaFrameD
namespace Go.Proofs.Ytjkknjohmekeiaa
open Go.RowKit Go.Shelf
attribute [local go_sem] Oper.semAt_some

def inT (l : List T3) (page : Int) : Bool := decide (0 ≤ page) && decide (page < l.length)
def headE (l : List T3) (page : Int) : Int := if tabOk l then if inT l page then 0 else 9 else 50
def headR (l : List T3) (page : Int) : Int := if tabOk l then if inT l page then headF l page else 0 else 0
theorem chk_ok {l : List T3} (h : tabOk l = true) : chkE l = 0 := by unfold chkE; rw [h]; rfl
theorem chk_bad {l : List T3} (h : tabOk l = false) : chkE l = 50 := by unfold chkE; rw [h]; rfl

set_option maxHeartbeats 800000 in
theorem head63_spec (w : World) (v : Value) (l : List T3) (G : Nat → Prop) (hv : RdT G w v l) (page : Int) :
    Calls Try.prog 63 #[v, .int .i64 page] w fun e w' => e = .returned (.tuple #[.int .i64 (headR l page), .int .i64 (headE l page)]) ∧ Ext No w w' := by
  obtain ⟨a, cap, rfl, _, hcap⟩ := hv.val
  cases ht : tabOk l
  · have h1 : Hid (headR l page = 0) := by show _ = _; unfold headR; rw [ht]; rfl
    have h2 : Hid (headE l page = 50) := by show _ = _; unfold headE; rw [ht]; rfl
    have hc := Lib.hid (chk_bad ht)
    clear ht
    go_enter Try.func63, Try.ntmps63
    go_wp2_with fail
    refine (check61_spec w _ l G hv).mono ?_
    rintro e w1 ⟨rfl, hx⟩
    rw [hc.out]
    go_wp2_with fail
    go_ret2
    exact ⟨by rw [h1.out, h2.out]; rfl, hx⟩
  · have hc := Lib.hid (chk_ok ht)
    have ht' := Lib.hid ht
    by_cases hp : page < 0
    · have h0 : inT l page = false := by unfold inT; rw [decide_eq_false (show ¬ 0 ≤ page by omega)]; rfl
      have h1 : Hid (headR l page = 0) := by show _ = _; unfold headR; rw [ht, h0]; rfl
      have h2 : Hid (headE l page = 9) := by show _ = _; unfold headE; rw [ht, h0]; rfl
      clear ht h0
      go_enter Try.func63, Try.ntmps63
      go_wp2_with fail
      refine (check61_spec w _ l G hv).mono ?_
      rintro e w1 ⟨rfl, hx⟩
      rw [hc.out]
      go_wp2_with fail
      go_ret2
      exact ⟨by rw [h1.out, h2.out]; rfl, hx⟩
    · have hp' : 0 ≤ page := by omega
      by_cases hq : page < l.length
      · have h0 : inT l page = true := by unfold inT; rw [decide_eq_true hp', decide_eq_true hq]; rfl
        have h1 : Hid (headR l page = headF l page) := by show _ = _; unfold headR; rw [ht, h0]; rfl
        have h2 : Hid (headE l page = 0) := by show _ = _; unfold headE; rw [ht, h0]; rfl
        have hd : decide ((l.length : Int) ≤ page) = false := decide_eq_false (by omega)
        clear ht h0 hp
        go_enter Try.func63, Try.ntmps63
        go_wp2_with fail
        refine (check61_spec w _ l G hv).mono ?_
        rintro e w1 ⟨rfl, hx⟩
        rw [hc.out]
        go_wp2_with fail
        refine (head109_spec w1 _ l G (hv.extNo hx) ht'.out page).mono ?_
        rintro e w2 ⟨rfl, hx2⟩
        go_wp2_with fail
        go_ret2
        exact ⟨by rw [h1.out, h2.out]; rfl, hx.transNo hx2⟩
      · have h0 : inT l page = false := by unfold inT; rw [decide_eq_false hq, Bool.and_false]
        have h1 : Hid (headR l page = 0) := by show _ = _; unfold headR; rw [ht, h0]; rfl
        have h2 : Hid (headE l page = 9) := by show _ = _; unfold headE; rw [ht, h0]; rfl
        have hq' : (l.length : Int) ≤ page := by omega
        clear ht h0 hp hq
        go_enter Try.func63, Try.ntmps63
        go_wp2_with fail
        refine (check61_spec w _ l G hv).mono ?_
        rintro e w1 ⟨rfl, hx⟩
        rw [hc.out]
        go_wp2_with fail
        go_ret2
        exact ⟨by rw [h1.out, h2.out]; rfl, hx⟩

theorem ty_page : SlTy 96 98 3 24 := .mk' (z := .agg #[.int .i64 0, .int .i64 0, .int .i64 0]) (by kernel_rfl) Try.underlying96 rfl (by decide)
theorem own_new3 {w : World} {base e b : Nat} (h : Blk w b [] e) (hb : base ≤ b) : w.ownsRow base e 3 (.slice (some ⟨b, 0, none⟩) 0 0) 0 [] :=
  ⟨rfl, .inr ⟨b, 0, #[], rfl, hb, h, Nat.le_refl _, by unfold maxLen; omega, rfl, rfl⟩⟩
theorem own_rdT {w : World} {base e : Nat} {v : Value} {l : List T3} (h : w.ownsRow base e 3 v l.length (t3sCells l)) : RdT (OwnOf v) w v l := Rd.of_own h

set_option maxRecDepth 100000 in
set_option maxHeartbeats 800000 in
theorem clone110_spec (w : World) (v : Value) (l : List T3) (F : Nat → Prop) (hv : RdT F w v l) (hlen : l.length * 24 ≤ 140737488355328) :
    Calls Try.prog 110 #[v] w fun e w' => ∃ r, e = .returned r ∧ w'.ownsRow w.heap.size 98 3 r l.length (t3sCells l) ∧ Ext No w w' := by
  obtain ⟨a, cap, rfl, _, _⟩ := hv.val
  cases a with
  | none =>
    have hl : l.length = 0 := by
      rcases Nat.eq_zero_or_pos l.length with h | h
      · exact h
      · obtain ⟨b, off, e, _⟩ := hv.at h
        cases e
    obtain rfl : l = [] := List.eq_nil_of_length_eq_zero hl
    have he : ∀ (n c : Nat) (w : World), (binOp .eql 96 (.slice none n c) (.slice none 0 0)).run Try.prog w = .ok (.bool true) w := fun _ _ _ => rfl
    go_enter Try.func110, Try.ntmps110
    go_wp2_with fail
    go_ret
    exact ⟨_, rfl, World.ownsRow_nil w w.heap.size 98 3, Ext.refl _ _⟩
  | some p =>
    have he : ∀ (n c : Nat) (w : World), (binOp .eql 96 (.slice (some p) n c) (.slice none 0 0)).run Try.prog w = .ok (.bool false) w := fun _ _ _ => rfl
    go_enter Try.func110, Try.ntmps110
    go_wp2_with (at_builtin; refine stop_here ?_)
    refine Stop.mk ?_
    have hxa : Ext No w (w.alloc (.cells #[] 98)) := (Ext.refl _ _).alloc _
    have hBa : Blk (w.alloc (.cells #[] 98)) w.heap.size [] 98 := Blk.new _ _ _
    have hown0 : (w.alloc (.cells #[] 98)).ownsRow w.heap.size 98 3 (.slice (some ⟨w.heap.size, 0, none⟩) 0 0) 0 [] := own_new3 hBa (Nat.le_refl _)
    refine wpList_app (v := .slice (some ⟨w.heap.size, 0, none⟩) 0 0) ty_page rfl _ _ rfl rfl hown0 rfl (hv.extNo hxa) (t3s_one l) (by omega) (by unfold maxLen; omega) (by simp only [World.size_alloc]; omega) ?_
    intro v' w' hown hx _ hfr
    simp only [Nat.zero_add, List.nil_append] at hown
    go_wp2_with fail
    go_ret
    exact ⟨_, rfl, hown, hxa.trans hx (fun x hx' hs => by have := (hown0.lt x hs).1; omega)⟩

/-! ### Free -/
def freeS : List (Int × T3) → Int
  | [] => 0
  | x :: r => (if x.2.a == 0 then (sz x.2 : Int) else 0) + freeS r
def freeF (l : List T3) : Int := if tabOk l then freeS (bl l) else 0
theorem freeS_snoc (pre : List (Int × T3)) (x : Int × T3) : freeS (pre ++ [x]) = freeS pre + (if x.2.a == 0 then (sz x.2 : Int) else 0) := by
  induction pre with
  | nil => simp [freeS]
  | cons y r ih => simp only [List.cons_append, freeS, ih]; omega
def frees (pre : List KB) : Int := freeS (pre.map (·.1))
theorem frees_snoc (pre : List KB) (x : KB) : frees (pre ++ [x]) = frees pre + (if x.1.2.a == 0 then (sz x.1.2 : Int) else 0) := by
  unfold frees; rw [List.map_append]; exact freeS_snoc _ _
theorem frees_bd : ∀ (pre : List KB), 0 ≤ frees pre ∧ frees pre ≤ 1024 * pre.length
  | [] => by simp [frees, freeS]
  | x :: r => by
    have ih := frees_bd r
    have h1 := sz_le x.2.1
    unfold frees at ih ⊢
    simp only [List.map_cons, freeS, List.length_cons]
    split <;> omega
theorem bseqF_len (l : List T3) : ∀ f i, (bseqF l f i).length ≤ f
  | 0, i => by simp [bseqF]
  | f + 1, i => by
    simp only [bseqF]
    split
    · split
      · have := bseqF_len l f (i + sz (nth l i)); simp only [List.length_cons]; omega
      · simp
    · simp
theorem bl_len (l : List T3) : (bl l).length ≤ l.length := bseqF_len l l.length 0

set_option maxRecDepth 100000 in
set_option maxHeartbeats 2000000 in
theorem free64_spec (w : World) (v : Value) (l : List T3) (G : Nat → Prop) (hv : RdT G w v l) :
    Calls Try.prog 64 #[v] w fun e w' => e = .returned (.int .i64 (freeF l)) ∧ Ext No w w' := by
  obtain ⟨a, cap, rfl, _, hcap⟩ := hv.val
  cases ht : tabOk l
  · have hr : Hid (freeF l = 0) := by show _ = _; unfold freeF; rw [ht]; rfl
    have hc := Lib.hid (chk_bad ht)
    clear ht
    obtain ⟨R, hR⟩ : ∃ R, w.heap.size = R := ⟨_, rfl⟩
    have hxa : Ext No w (w.alloc (.cells #[.int .i64 0] 3)) := (Ext.refl _ _).alloc _
    have hB : Blk (w.alloc (.cells #[.int .i64 0] 3)) R [.int .i64 0] 3 := Blk.new' hR.symm
    go_enter Try.func64, Try.ntmps64
    go_wp2_with fail
    try rw [hR]
    refine (check61_spec _ _ l G (hv.extNo hxa)).mono ?_
    rintro e w1 ⟨rfl, hx⟩
    rw [hc.out]
    have hB1 := hB.extNo hx
    have c0 := hB1.cell' (i := 0) rfl
    have f0 := hB1.frozen 0
    have hset : Ext No w (w1.setCell ⟨R, 0, none⟩ (.int .i64 0)) := (hxa.transNo hx).setCell _ _ (.inl (by rw [hR]; exact Nat.le_refl _))
    have hc5 := (hB1.set 0 (.int .i64 0)).cell' (i := 0) rfl
    have hc5' := Lib.hid hc5; clear hc5
    go_wp2_with fail
    have hc5 := hc5'.out
    refine bodyPost_ret (v := .int .i64 0) ?_ rfl ⟨by rw [hr.out], hset⟩
    simp [results, Try.results64, go_sem, hc5]
  · obtain ⟨h0, h1, hva⟩ := tab_iff.1 ht
    obtain ⟨b, off, rfl, hbw, hGb, _⟩ := hv.at h0
    have hc := Lib.hid (chk_ok ht)
    have hblk := fun x hx => (tab_blk ht x hx).1
    have hr : Hid (freeF l = freeS (bl l)) := by show _ = _; unfold freeF; rw [ht]; rfl
    have hbl := bl_len l
    clear ht
    refine (callsIn_wide (n := 3)).1 ?_
    refine callsIn_of_wp_marks Try.func64 rfl trivial ?_ rfl
    simp only [Try.ntmps64, List.size_toArray, List.length_cons, List.length_nil, Nat.reduceAdd, Nat.reduceSub, Array.replicate_succ, Array.replicate_zero, List.push_toArray, List.append_toArray, List.nil_append, List.cons_append]
    gi_wp2
    refine ⟨trivial, ?_⟩
    have hxa : Ext No w (w.alloc (.cells #[.int .i64 0] 3)) := (Ext.refl _ _).alloc _
    refine (callsIn_wide.2 (check61_spec _ _ l G (hv.extNo hxa))).mono ?_
    rintro e w1 ⟨rfl, hx⟩
    rw [hc.out]
    obtain ⟨R, hR⟩ : ∃ R, w.heap.size = R := ⟨_, rfl⟩
    have hB1 : Blk w1 R [.int .i64 0] 3 := (Blk.new' hR.symm).extNo hx
    rw [hR]
    gi_wp2
    refine ⟨trivial, ?_⟩
    refine (callsIn_wide.2 (blocks111_spec _ _ _ _)).mono ?_
    rintro e w2 ⟨rfl, rfl⟩
    gi_wp2
    obtain ⟨L, hL⟩ : ∃ L, w1.heap.size = L := ⟨_, rfl⟩
    have hRL : R < L := by have := hB1.lt; omega
    obtain ⟨W1, hW1⟩ : ∃ W1, w1.alloc (.cells #[.slice (some ⟨b, off, none⟩) l.length cap] 96) = W1 := ⟨_, rfl⟩
    have hx0 : Ext No w w1 := hxa.transNo hx
    have hx1 : Ext No w W1 := by rw [← hW1]; exact hx0.alloc _
    have hBR : Blk W1 R [.int .i64 0] 3 := by rw [← hW1]; exact hB1.alloc _
    have hBL : Blk W1 L [.slice (some ⟨b, off, none⟩) l.length cap] 96 := by rw [← hW1]; exact Blk.new' hL.symm
    have hsz : W1.heap.size = L + 1 := by rw [← hW1]; simp [hL]
    rw [hW1, hL]
    have hv1 : RdT (Iv 0 R) W1 (.slice (some ⟨b, off, none⟩) l.length cap) l := (hv.mono (G := Iv 0 R) (fun x _ hx => ⟨Nat.zero_le _, by omega⟩)).extNo hx1
    clear hW1 hL hB1 hx hxa hx0
    refine wpIn_rangeFunc_ownH (α := KB) (F := Fence.wide) rfl (by omega) (gf := 138) (lb := #[.pointer (some ⟨L, 0, none⟩)]) rfl trivial (enters_of Try.func138 (by kernel_rfl) rfl)
      (blocks_stopsP IsBlk 2 (by omega) L (L + 1) R b off cap l hblk _ (by omega) W1 hsz (by omega) (hBL.cell' (i := 0) rfl) hv1 (fun x hx => by have := hx.2; omega) (by omega)) KS.t (KS.b (by omega)) (Below.refl _ _) (fun _ => rfl)
      (fun pre W => Blk W R [.int .i64 (frees pre)] 3 ∧ Ext No w W)
      (fun _ _ _ => False)
      (ownE (fun s W W' h hx => ⟨h.1.ext hx (by omega), h.2.transNew hx (fun x hx => by omega)⟩))
      (fun c => ownE (fun s W W' h hx => h.elim))
      ⟨hBR, hx1⟩
      (fun x a' W => ∃ B, R < B ∧ Blk W B [.int .i64 x.1.2.a, .int .i64 x.1.2.b, .int .i64 x.1.2.c] 98 ∧ a' = { tmps := #[.slice (some ⟨b, off, none⟩) l.length cap, undef, .pointer (some ⟨R, 0, none⟩), undef, .pointer (some ⟨B, 0, none⟩), .slice (some ⟨b, off, none⟩) l.length cap, .int .i64 0, .bool false, .slice (some ⟨b, off, none⟩) l.length cap, .func (.func 138) #[] #[.pointer (some ⟨L, 0, none⟩)], .int .i64 x.1.1, .agg #[.int .i64 x.1.2.a, .int .i64 x.1.2.b, .int .i64 x.1.2.c], undef, undef, undef, undef, undef, undef, undef, undef, undef], defers := [] })
      (fun x a' s W W' row ⟨B, h1, h2, h3⟩ hg hr => ⟨B, h1, h2.grown hg (fun r e => (hr r e).2), h3⟩) ?assign ?body ?done ?stop
    case assign =>
      rintro ll pre x W K ⟨hB, hx⟩ hK
      simp only [encs]
      gi_wp2
      have ha : Ext No W (W.alloc (.cells #[.int .i64 x.1.2.a, .int .i64 x.1.2.b, .int .i64 x.1.2.c] 98)) := (Ext.refl _ _).alloc _
      exact hK _ _ ((KeepsOthers.alloc _ _).from _) (ha.of_no) ⟨hB.alloc _, hx.transNo ha⟩ ⟨W.heap.size, hB.lt, Blk.new' rfl, rfl⟩
    case body =>
      rintro ll pre x a' W hl hex ⟨hB0, hx⟩ ⟨B, hB, hBX, rfl⟩ hlt
      have q0 := hB0.cell' (i := 0) rfl
      have f0 := hB0.frozen 0
      have q1 := hBX.cell' (i := 0) rfl
      have q2 := hBX.cell' (i := 1) rfl
      obtain ⟨hsh, z1, z2⟩ := shl_ord x.2.1
      have hmx : Try.prog.follows .mixedOrders = true := by kernel_rfl
      obtain ⟨n0, n1⟩ := frees_bd pre
      have hwr : IntKind.i64.wrap (frees pre + (sz x.1.2 : Int)) = frees pre + sz x.1.2 := by rw [IntKind.wrap_i64]; omega
      cases hk : (x.1.2.a == 0)
      · have hsn : Hid (frees (pre ++ [x]) = frees pre) := by show _ = _; rw [frees_snoc, hk]; simp
        clear hwr
        gi_wp2
        exact ⟨KeepsFrom.refl _ _, Ext.refl _ _, by rw [hsn.out]; exact hB0, hx⟩
      · have hsn : Hid (frees (pre ++ [x]) = frees pre + sz x.1.2) := by show _ = _; rw [frees_snoc, hk]; rfl
        have hBs : Hid (Blk (W.drew.setCell ⟨R, 0, none⟩ (.int .i64 (frees pre + sz x.1.2))) R [.int .i64 (frees pre + sz x.1.2)] 3) := hB0.drew.set 0 _
        have hst : Hid (Ext No w (W.drew.setCell ⟨R, 0, none⟩ (.int .i64 (frees pre + sz x.1.2)))) := hx.drew.setCell _ _ (.inl (by rw [hR]; exact Nat.le_refl _))
        gi_wp2
        gi_region_with_o (fail)
        all_goals
          clear hwr
          gi_wp2
          exact ⟨((KeepsOthers.setCell _ _ _).trans (KeepsOthers.drew _)).from _, ((Ext.refl _ _).setCell _ _ (.inr (.inr rfl))).drew, by rw [hsn.out]; exact hBs.out, hst.out⟩
    case done =>
      rintro D ys W hD hys ⟨hB, hx⟩ hK
      have c0 := hB.cell' (i := 0) rfl
      have f0 := hB.frozen 0
      have hfr : Hid (frees ys = freeS (bl l)) := by show _ = _; unfold frees; rw [hys]
      have hBs := Lib.hid (hB.set 0 (.int .i64 (frees ys)))
      have hset : Ext No w (W.setCell ⟨R, 0, none⟩ (.int .i64 (frees ys))) := hx.setCell _ _ (.inl (by rw [hR]; exact Nat.le_refl _))
      clear hys
      gi_wp2
      have hK' := (KeepsOthers.setCell W ⟨R, 0, none⟩ (.int .i64 (frees ys))).same D _ hK rfl
      refine ⟨by simp, .inl ⟨_, _, rfl, run_takeDeferred hK', ?_⟩⟩
      have hE : Ext (fun x => x = D) (W.setCell ⟨R, 0, none⟩ (.int .i64 (frees ys))) ((W.setCell ⟨R, 0, none⟩ (.int .i64 (frees ys))).putObj D (.deferred none)) := (Ext.of_grownBy (grownBy_putObj' _ D (.deferred none))).mono (fun x _ h => by cases h; rfl)
      have hc5 := (hBs.out.ext hE (fun e : R = D => by omega)).cell' (i := 0) rfl
      refine ⟨.int .i64 (frees ys), ?_, by rw [hr.out, hfr.out], hset.transNew hE (fun x (e : x = D) => by omega)⟩
      simp [results, Try.f64, go_sem, hc5]
    case stop =>
      rintro D c pre W hD hpre h hK
      exact h.elim
end Go.Proofs.Ytjkknjohmekeiaa
