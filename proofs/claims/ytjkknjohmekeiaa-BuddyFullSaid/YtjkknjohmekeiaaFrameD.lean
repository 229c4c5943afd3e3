/- The head of a page. The table may be. -/
import Derived.Test.YtjkknjohmekeiaaFrameT
namespace Go.Proofs.Ytjkknjohmekeiaa
open Go.RowKit Go.Shelf
attribute [local go_sem] Oper.semAt_some

/-- What is known of each block of a table that may be. -/
def IsBlk (x : Int × T3) : Prop := headB x.2 = true ∧ 0 ≤ x.1 ∧ x.1 ≤ 1024
theorem shl_ord {p : T3} (h : headB p = true) : (∀ w, (Op.shift .shl .i64 1 .i64 p.b).run Try.prog w = .ok (.int .i64 (sz p : Int)) w) ∧ (1 : Int) ≤ sz p ∧ (sz p : Int) ≤ 1024 := by
  obtain ⟨h0, h1⟩ := headB_range h
  have z1 := sz_pos p
  have z2 := sz_le h
  refine ⟨fun w => ?_, by omega, by omega⟩
  rw [shift_shl_i64 (yk := .i64) (x := 1) (y := p.b) (by omega) (by omega)]
  have e : (1 * 2 ^ p.b.toNat : Int) = ((2 ^ p.b.toNat : Nat) : Int) := by rw [Int.one_mul]; norm_cast
  have e2 : IntKind.i64.wrap (1 * 2 ^ p.b.toNat) = (sz p : Int) := by
    rw [e, IntKind.wrap_i64]
    unfold sz at z2 ⊢
    obtain ⟨z, hz⟩ : ∃ z : Nat, 2 ^ p.b.toNat = z := ⟨_, rfl⟩
    rw [hz] at z2 ⊢
    omega
  rw [e2]; rfl
theorem tab_blk {l : List T3} (h : tabOk l = true) : ∀ x ∈ bl l, IsBlk x ∧ ∃ j : Nat, x = ((j : Int), nth l j) ∧ Rch l j ∧ j < l.length := by
  obtain ⟨h1, h2, hv⟩ := tab_iff.1 h
  have ha := va_all hv l.length 0 (by omega) .zero
  obtain ⟨e, hr, h3, h4⟩ := rch_at hv l.length (Nat.le_refl _)
  have h5 : e = l.length := by
    rcases h4 with h4 | h4
    · rcases Nat.lt_or_ge e l.length with h6 | h6
      · have := (hv e hr h6).2.2.1; omega
      · omega
    · exact h4.1
  obtain ⟨pre, e1, e2⟩ := bl_pre ha hr
  rw [bseq_out (by omega), List.append_nil] at e1
  intro x hx
  rw [e1] at hx
  obtain ⟨j, rfl, g1, g2, g3⟩ := e2 x hx
  exact ⟨⟨(hv j g1 g2).1, by show (0 : Int) ≤ (j : Int); omega, by show (j : Int) ≤ 1024; omega⟩, j, rfl, g1, g2⟩

theorem Blk.grown {W W' : World} {b T : Nat} {cs : List Value} {row : Option Nat} (h : Blk W b cs T) (hg : W.grownBy W' row) (hr : ∀ r, row = some r → ∃ o : Obj, W.heap[r]? = some o ∧ o.isCells = false) : Blk W' b cs T := by
  refine (hg.block b h.lt (fun e => ?_)).trans h
  obtain ⟨o, h1, h2⟩ := hr b e.symm
  rw [show W.heap[b]? = _ from h] at h1
  cases h1
  simp [Obj.isCells] at h2
abbrev KB := {x : Int × T3 // IsBlk x}
/-- None of these has the page. -/
def NotYet (page : Int) (pre : List KB) : Prop := ∀ y ∈ pre, y.1.1 + sz y.1.2 ≤ page
theorem NotYet.snoc {page : Int} {pre : List KB} {x : KB} (h : NotYet page pre) (hx : x.1.1 + sz x.1.2 ≤ page) : NotYet page (pre ++ [x]) := by
  intro y hy
  rcases List.mem_append.1 hy with h1 | h1
  · exact h y h1
  · simp only [List.mem_singleton] at h1; subst h1; exact hx
/-- The last one has the page, none before. -/
def Found (page : Int) (pre : List KB) (k : Int) : Prop := ∃ ini last, pre = ini ++ [last] ∧ NotYet page ini ∧ page < last.1.1 + sz last.1.2 ∧ k = last.1.1

set_option maxRecDepth 100000 in
set_option maxHeartbeats 2000000 in
theorem head109_spec (w : World) (v : Value) (l : List T3) (G : Nat → Prop) (hv : RdT G w v l) (ht : tabOk l = true) (page : Int) :
    Calls Try.prog 109 #[v, .int .i64 page] w fun e w' => e = .returned (.int .i64 (headF l page)) ∧ Ext No w w' := by
  obtain ⟨a, cap, rfl, _, hcap⟩ := hv.val
  obtain ⟨h0, h1, hva⟩ := tab_iff.1 ht
  obtain ⟨b, off, rfl, hbw, hGb, _⟩ := hv.at h0
  refine (callsIn_wide (n := 3)).1 ?_
  refine callsIn_of_wp_marks Try.func109 rfl trivial ?_ rfl
  simp only [Try.ntmps109, List.size_toArray, List.length_cons, List.length_nil, Nat.reduceAdd, Nat.reduceSub, Array.replicate_succ, Array.replicate_zero, List.push_toArray, List.append_toArray, List.nil_append, List.cons_append]
  gi_wp2
  refine ⟨trivial, ?_⟩
  refine (callsIn_wide.2 (blocks111_spec _ _ _ _)).mono ?_
  rintro e w1 ⟨rfl, rfl⟩
  gi_wp2
  obtain ⟨R, hR⟩ : ∃ R, w.heap.size = R := ⟨_, rfl⟩
  obtain ⟨W1, hW1⟩ : ∃ W1, ((w.alloc (.cells #[.int .i64 page] 3)).alloc (.cells #[.int .i64 0] 3)).alloc (.cells #[.slice (some ⟨b, off, none⟩) l.length cap] 96) = W1 := ⟨_, rfl⟩
  have hx1 : Ext No w W1 := by rw [← hW1]; exact (((Ext.refl _ _).alloc _).alloc _).alloc _
  have hB0 : Blk W1 R [.int .i64 page] 3 := by rw [← hW1]; exact ((Blk.new' hR.symm).alloc _).alloc _
  have hB1 : Blk W1 (R + 1) [.int .i64 0] 3 := by rw [← hW1]; exact (Blk.new' (by simp [hR])).alloc _
  have hB2 : Blk W1 (R + 2) [.slice (some ⟨b, off, none⟩) l.length cap] 96 := by rw [← hW1]; exact Blk.new' (by simp [hR])
  have hsz : W1.heap.size = R + 3 := by rw [← hW1]; simp [hR]
  rw [hW1, hR]
  have hv1 : RdT (Iv 0 R) W1 (.slice (some ⟨b, off, none⟩) l.length cap) l := (hv.mono (G := Iv 0 R) (fun x _ hx => ⟨Nat.zero_le _, by omega⟩)).extNo hx1
  clear hW1
  refine wpIn_rangeFunc_ownH (α := KB) (F := Fence.wide) rfl (by omega) (gf := 138) (lb := #[.pointer (some ⟨R + 2, 0, none⟩)]) rfl trivial (enters_of Try.func138 (by kernel_rfl) rfl)
    (blocks_stopsP IsBlk 2 (by omega) (R + 2) (R + 3) (R + 1) b off cap l (fun x hx => (tab_blk ht x hx).1) _ (by omega) W1 hsz (by omega) (hB2.cell' (i := 0) rfl) hv1 (fun x hx => by have := hx.2; omega) (by omega)) KS.t (KS.b (by omega)) (Below.refl _ _) (fun _ => rfl)
    (fun pre W => (NotYet page pre ∧ Blk W R [.int .i64 page] 3 ∧ Blk W (R + 1) [.int .i64 0] 3) ∧ Ext No w W)
    (fun c pre W => (c = .ret ∧ ∃ k, Found page pre k ∧ Blk W (R + 1) [.int .i64 k] 3) ∧ Ext No w W)
    (ownE (fun s W W' h hx => ⟨⟨h.1.1, h.1.2.1.ext hx (by omega), h.1.2.2.ext hx (by omega)⟩, h.2.transNew hx (fun x hx => by omega)⟩))
    (fun c => ownE (fun s W W' h hx => ⟨⟨h.1.1, h.1.2.choose, h.1.2.choose_spec.1, h.1.2.choose_spec.2.ext hx (by omega)⟩, h.2.transNew hx (fun x hx => by omega)⟩))
    ⟨⟨(fun y hy => by cases hy), hB0, hB1⟩, hx1⟩
    (fun x a' W => ∃ B, R + 2 ≤ B ∧ Blk W B [.int .i64 x.1.2.a, .int .i64 x.1.2.b, .int .i64 x.1.2.c] 98 ∧ a' = { tmps := #[.slice (some ⟨b, off, none⟩) l.length cap, .int .i64 page, undef, .pointer (some ⟨R, 0, none⟩), .pointer (some ⟨R + 1, 0, none⟩), .int .i64 x.1.1, .pointer (some ⟨B, 0, none⟩), .slice (some ⟨b, off, none⟩) l.length cap, .func (.func 138) #[] #[.pointer (some ⟨R + 2, 0, none⟩)], .int .i64 x.1.1, .agg #[.int .i64 x.1.2.a, .int .i64 x.1.2.b, .int .i64 x.1.2.c], undef, undef, undef, undef, undef, undef, undef, undef], defers := [] })
    (fun x a' s W W' row ⟨B, h1, h2, h3⟩ hg hr => ⟨B, h1, h2.grown hg (fun r e => (hr r e).2), h3⟩) ?assign ?body ?done ?stop
  case assign =>
    rintro ll pre x W K ⟨⟨hp, hB0, hB1⟩, hx⟩ hK
    simp only [encs]
    gi_wp2
    have ha : Ext No W (W.alloc (.cells #[.int .i64 x.1.2.a, .int .i64 x.1.2.b, .int .i64 x.1.2.c] 98)) := (Ext.refl _ _).alloc _
    exact hK _ _ ((KeepsOthers.alloc _ _).from _) (ha.of_no) ⟨⟨hp, hB0.alloc _, hB1.alloc _⟩, hx.transNo ha⟩ ⟨W.heap.size, hB1.lt, Blk.new' rfl, rfl⟩
  case body =>
    rintro ll pre x a' W hl hex ⟨⟨hp, hB0, hB1⟩, hx⟩ ⟨B, hB, hBX, rfl⟩ _
    have q0 := hB0.cell' (i := 0) rfl
    have q1 := hB1.cell' (i := 0) rfl
    have f1 := hB1.frozen 0
    have q2 := hBX.cell' (i := 1) rfl
    obtain ⟨hsh, z1, z2⟩ := shl_ord x.2.1
    have y1 := x.2.2.1
    have y2 := x.2.2.2
    have hmx : Try.prog.follows .mixedOrders = true := by kernel_rfl
    have hk : (k : Int) → Ext No w (W.drew.setCell ⟨R + 1, 0, none⟩ (.int .i64 k)) := fun k => hx.drew.setCell _ _ (.inl (by rw [hR]; exact Nat.le_succ _))
    have hBs : (k : Int) → Blk (W.drew.setCell ⟨R + 1, 0, none⟩ (.int .i64 k)) (R + 1) [.int .i64 k] 3 := fun k => hB1.drew.set 0 (.int .i64 k)
    have hk' := Lib.hid hk; clear hk
    have hBs' := Lib.hid hBs; clear hBs
    have hwr : IntKind.i64.wrap (x.1.1 + (sz x.1.2 : Int)) = x.1.1 + sz x.1.2 := by rw [IntKind.wrap_i64]; omega
    by_cases h : page < x.1.1 + sz x.1.2
    · gi_wp2
      gi_region_with_o (fail)
      all_goals
        clear hwr
        gi_wp2
        exact ⟨((KeepsOthers.drew _).trans (KeepsOthers.setCell _ _ _)).from _, ⟨rfl, _, ⟨pre, x, rfl, hp, h, rfl⟩, hBs'.out _⟩, hk'.out _⟩
    · have h' : x.1.1 + sz x.1.2 ≤ page := by omega
      have hd : decide (page < x.1.1 + (sz x.1.2 : Int)) = false := decide_eq_false h
      gi_wp2
      gi_region_with_o (fail)
      all_goals
        clear hwr
        gi_wp2
        exact ⟨(KeepsOthers.drew _).from _, (Ext.refl _ _).drew, ⟨hp.snoc h', hB0.drew, hB1.drew⟩, hx.drew⟩
  case done =>
    rintro D ys W hD hys ⟨⟨hne, hB0, hB1⟩, hx⟩ hK
    have c0 := hB1.cell' (i := 0) rfl
    have f0 := hB1.frozen 0
    have hr : Hid (headF l page = 0) := by
      show _ = _
      unfold headF
      rw [List.find?_eq_none.2]
      intro x hxm
      rw [← hys] at hxm
      obtain ⟨y, hy, rfl⟩ := List.mem_map.1 hxm
      have := hne y hy
      simp only [decide_eq_true_eq]; omega
    have hBs := Lib.hid (hB1.set 0 (.int .i64 0))
    have hset : Ext No w (W.setCell ⟨R + 1, 0, none⟩ (.int .i64 0)) := hx.setCell _ _ (.inl (by rw [hR]; exact Nat.le_succ _))
    clear hys
    gi_wp2
    have hK' := (KeepsOthers.setCell W ⟨R + 1, 0, none⟩ (.int .i64 0)).same D _ hK rfl
    refine ⟨by simp, .inl ⟨_, _, rfl, run_takeDeferred hK', ?_⟩⟩
    have hE : Ext (fun x => x = D) (W.setCell ⟨R + 1, 0, none⟩ (.int .i64 0)) ((W.setCell ⟨R + 1, 0, none⟩ (.int .i64 0)).putObj D (.deferred none)) := (Ext.of_grownBy (grownBy_putObj' _ D (.deferred none))).mono (fun x _ h => by cases h; rfl)
    have hc5 := (hBs.out.ext hE (fun e : R + 1 = D => by omega)).cell' (i := 0) rfl
    refine ⟨.int .i64 0, ?_, by rw [hr.out], hset.transNew hE (fun x (e : x = D) => by omega)⟩
    simp [results, Try.f109, go_sem, hc5]
  case stop =>
    rintro D c pre W hD hpre ⟨⟨rfl, k, ⟨ini, last, rfl, hni, hlt, rfl⟩, hB⟩, hx⟩ hK
    have hr : Hid (headF l page = last.1.1) := by
      show _ = _
      obtain ⟨t, ht⟩ := hpre
      unfold headF
      rw [← ht, List.find?_append]
      have h1 : (ini ++ [last]).map (·.1) = ini.map (·.1) ++ [last.1] := by simp
      rw [h1, List.find?_append]
      have h2 : (ini.map (·.1)).find? (fun x => decide (page < x.1 + sz x.2)) = none := by
        rw [List.find?_eq_none]
        intro x hxm
        obtain ⟨y, hy, rfl⟩ := List.mem_map.1 hxm
        have := hni y hy
        simp only [decide_eq_true_eq]; omega
      rw [h2, Option.none_or, List.find?_cons, decide_eq_true hlt]
      rfl
    gi_wp2
    refine ⟨by simp, .inl ⟨_, _, rfl, run_takeDeferred hK, ?_⟩⟩
    have hE : Ext (fun x => x = D) W (W.putObj D (.deferred none)) := (Ext.of_grownBy (grownBy_putObj' _ D (.deferred none))).mono (fun x _ h => by cases h; rfl)
    have hc5 := (hB.ext hE (fun e : R + 1 = D => by omega)).cell' (i := 0) rfl
    refine ⟨.int .i64 last.1.1, ?_, by rw [hr.out], hx.transNew hE (fun x (e : x = D) => by omega)⟩
    simp [results, Try.f109, go_sem, hc5]
end Go.Proofs.Ytjkknjohmekeiaa
