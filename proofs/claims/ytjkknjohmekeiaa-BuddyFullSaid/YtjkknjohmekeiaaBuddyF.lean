/- Buddies in memory: the first free block of the least order. The order lies between 0 and 10. -/
import Derived.Test.YtjkknjohmekeiaaBuddyD
namespace Go.Proofs.Ytjkknjohmekeiaa
open Go.RowKit

def frK (l : List T3) (o : Nat) : Nat → Nat → List Nat
  | 0, _ => []
  | f + 1, i => if i < l.length then if freeB l i o then i :: frK l o f (i + pw o) else frK l o f (i + pw o) else []
/-- Where free blocks of an order begin, from a place on. -/
def freesL (l : List T3) (o i : Nat) : List Nat := frK l o (l.length - i) i
theorem frK_ge (l : List T3) (o : Nat) : ∀ (f i : Nat), l.length - i ≤ f → frK l o f i = frK l o (l.length - i) i
  | 0, i, h => by rw [show l.length - i = 0 by omega]
  | f + 1, i, h => by
    by_cases hi : i < l.length
    · obtain ⟨g, hg⟩ : ∃ g, l.length - i = g + 1 := ⟨l.length - i - 1, by omega⟩
      have hp := pw_pos o
      rw [hg]
      simp only [frK]
      rw [if_pos hi, if_pos hi, frK_ge l o f _ (by omega), frK_ge l o g _ (by omega)]
    · rw [show l.length - i = 0 by omega]
      simp only [frK]
      rw [if_neg hi]
theorem frees_out {l : List T3} {o i : Nat} (h : l.length ≤ i) : freesL l o i = [] := by
  unfold freesL; rw [show l.length - i = 0 by omega]; rfl
theorem frees_yes {l : List T3} {o i : Nat} (h : i < l.length) (hf : freeB l i o = true) : freesL l o i = i :: freesL l o (i + pw o) := by
  unfold freesL
  obtain ⟨g, hg⟩ : ∃ g, l.length - i = g + 1 := ⟨l.length - i - 1, by omega⟩
  have hp := pw_pos o
  rw [hg]; simp only [frK]; rw [if_pos h, if_pos hf, frK_ge l o g _ (by omega)]
theorem frees_no {l : List T3} {o i : Nat} (h : i < l.length) (hf : freeB l i o = false) : freesL l o i = freesL l o (i + pw o) := by
  unfold freesL
  obtain ⟨g, hg⟩ : ∃ g, l.length - i = g + 1 := ⟨l.length - i - 1, by omega⟩
  have hp := pw_pos o
  rw [hg]; simp only [frK]; rw [if_pos h, if_neg (by rw [hf]; decide), frK_ge l o g _ (by omega)]

/-- A block. -/
structure Bk where
  i : Nat
  o : Nat
def leK (l : List T3) : Nat → Nat → Option Bk
  | 0, _ => none
  | f + 1, o => match freesL l o 0 with
    | i :: _ => some ⟨i, o⟩
    | [] => leK l f (o + 1)
/-- The first free block of the least order from one on. -/
def leastL (l : List T3) (o : Nat) : Option Bk := leK l (11 - o) o
theorem least_out (l : List T3) : leastL l 11 = none := rfl
theorem least_yes {l : List T3} {o i : Nat} {t : List Nat} (h : o ≤ 10) (hf : freesL l o 0 = i :: t) : leastL l o = some ⟨i, o⟩ := by
  unfold leastL
  obtain ⟨g, hg⟩ : ∃ g, 11 - o = g + 1 := ⟨10 - o, by omega⟩
  rw [hg]; simp only [leK]; rw [hf]
theorem least_no {l : List T3} {o : Nat} (h : o ≤ 10) (hf : freesL l o 0 = []) : leastL l o = leastL l (o + 1) := by
  unfold leastL
  obtain ⟨g, hg⟩ : ∃ g, 11 - o = g + 1 := ⟨10 - o, by omega⟩
  rw [hg]; simp only [leK]; rw [hf, show 11 - (o + 1) = g by omega]
def LRes (r : Option Bk) (e : Ending) : Prop := match r with
  | some b => e = .returned (.tuple #[.agg #[.int .i64 b.i, .int .i64 b.o], .bool true])
  | none => ∃ x y : Int, e = .returned (.tuple #[.agg #[.int .i64 x, .int .i64 y], .bool false])

set_option maxRecDepth 100000 in
set_option maxHeartbeats 3200000 in
theorem least118_spec (w : World) (bb base : Nat) (v : Value) (l : List T3) (h : BR w bb base v l) (o : Nat) (ho : o ≤ 10) :
    Calls Try.prog 118 #[.pointer (some ⟨bb, 0, none⟩), .int .i64 o] w fun e w' => LRes (leastL l o) e ∧ Ext No w w' := by
  obtain ⟨a, cap, rfl, hlc, hcap⟩ := h.val
  have hn := h.n
  have hbl := h.b.lt
  have hvlt : ∀ x, OwnOf (.slice a l.length cap) x → x < w.heap.size := fun x hx => (h.p.lt x hx).2
  obtain ⟨n, hnn⟩ : ∃ n, l.length = n := ⟨_, rfl⟩
  have hnn' := Lib.hid hnn
  rw [hnn] at hlc hn h hvlt
  clear hnn
  go_enter Try.func118, Try.ntmps118
  obtain ⟨X, hX⟩ : ∃ X, w.heap.size = X := ⟨_, rfl⟩
  obtain ⟨W, hW⟩ : ∃ W, w.alloc (.cells #[.int .i64 0, .int .i64 0] 162) = W := ⟨_, rfl⟩
  have hxa : Ext No w W := by rw [← hW]; exact (Ext.refl _ _).alloc _
  have hXb : Blk W X [.int .i64 0, .int .i64 0] 162 := by rw [← hW]; exact Blk.new' hX.symm
  have hB := h.extNo hxa
  have hXw : w.heap.size ≤ X := by omega
  go_wp2_with fail
  go_step3
  go_wp2_with fail
  go_step3
  go_wp2_with fail
  clear hW hX h
  go_loopg [5, 6] 11 (fun g s5 s6 wr => ∃ (k : Nat) (x y : Int), 11 - k ≤ g ∧ k ≤ 11 ∧ s5 = .bool false ∧ s6 = .int .i64 k ∧ Blk wr X [.int .i64 x, .int .i64 y] 162 ∧ BR wr bb base (.slice a n cap) l ∧ Ext No w wr ∧ leastL l o = leastL l k)
  case atStart => exact ⟨o, 0, 0, by omega, by omega, rfl, rfl, hXb, hB, hxa, rfl⟩
  case round =>
    clear hXb hB hxa
    obtain ⟨k, x, y, hk, hk11, rfl, rfl, hXb, hB, hx, hl⟩ := hrel
    have hk' := Lib.hid hk
    have hl' := Lib.hid hl
    clear hk hl
    by_cases hlt : k ≤ 10
    · have hd10 : decide ((k : Int) ≤ 10) = true := decide_eq_true (by omega)
      go_wp2_with fail
      go_loopg [5, 7] n (fun g s5 s7 wz => ∃ (i : Nat) (x y : Int), n - i ≤ g ∧ i < 4611686018427387904 ∧ s5 = .bool false ∧ s7 = .int .i64 i ∧ Blk wz X [.int .i64 x, .int .i64 y] 162 ∧ BR wz bb base (.slice a n cap) l ∧ Ext No w wz ∧ freesL l k i = freesL l k 0)
      case atStart => exact ⟨0, x, y, by omega, by omega, rfl, rfl, hXb, hB, hx, rfl⟩
      case round =>
        clear hXb hB hx
        obtain ⟨i, x, y, hi, hi2, rfl, rfl, hXb, hB, hx, hf⟩ := hrel
        obtain ⟨wz, hwz⟩ : ∃ wz, wr = wz := ⟨_, rfl⟩
        rw [hwz] at hXb hB hx ⊢
        clear hwz
        have hi' := Lib.hid hi
        have hf' := Lib.hid hf
        clear hi hf
        have v0 := hB.b.cell' (i := 0) rfl
        have hbl2 := hB.b.lt
        have hXl := hXb.lt
        by_cases hin : i < n
        · have s0 := hXb.frozen 0
          have s1 := hXb.frozen 1
          have hset : Ext (One X) wz ((wz.setCell ⟨X, 0, none⟩ (.int .i64 i)).setCell ⟨X, 1, none⟩ (.int .i64 k)) := (Ext.set1 _ _ _ _).transSame (Ext.set1 _ _ _ _)
          have hX2 : Blk ((wz.setCell ⟨X, 0, none⟩ (.int .i64 i)).setCell ⟨X, 1, none⟩ (.int .i64 k)) X [.int .i64 i, .int .i64 k] 162 := (hXb.set 0 _).set 1 _
          have hB2 := hB.ext hset (fun e : bb = X => by omega) (fun x hx' (e : x = X) => by have := hvlt x hx'; omega)
          have hx2 := hx.trans hset (fun x hx' (e : x = X) => by omega)
          have q0 := hXb.cell' (i := 0) rfl
          have q1 : (wz.setCell ⟨X, 0, none⟩ (.int .i64 i)).cell? ⟨X, 1, none⟩ = some (.int .i64 y) := (hXb.set 0 (.int .i64 i)).cell' (i := 1) rfl
          have q2 := (hXb.set 0 (.int .i64 i)).frozen 1
          go_wp2_with fail
          refine (free115_spec _ bb base _ l hB2 i k hi2).mono ?_
          rintro e w2 ⟨rfl, hx3⟩
          have hX3 := hX2.extNo hx3
          have hB3 := hB2.extNo hx3
          have hx4 := hx2.transNo hx3
          clear hB2 hX2 hx2 hset v0 s0 s1
          have y0 := hX3.cell' (i := 0) rfl
          have y1 := hX3.cell' (i := 1) rfl
          have t0 := hX3.frozen 0
          have t1 := hX3.frozen 1
          have hXl3 := hX3.lt
          have hwr := wrap_pw hlt
          have hpp := pw_le hlt
          have hsh := shl_pw hlt
          cases hb : freeB l i k
          · have hfn : Hid (freesL l k (i + pw k) = freesL l k 0) := by show _ = _; rw [← hf'.out, frees_no (by rw [hnn'.out]; exact hin) hb]
            clear hb
            go_wp2_with fail
            go_roundg (n - (i + pw k))
            case measure => have := hi'.out; have := pw_pos k; omega
            case rel => exact ⟨i + pw k, i, k, by omega, by omega, rfl, by go_num, hX3, hB3, hx4, hfn.out⟩
          · have hle : Hid (leastL l o = some ⟨i, k⟩) := by show _ = _; rw [hl'.out, least_yes hlt (by rw [← hf'.out]; exact frees_yes (by rw [hnn'.out]; exact hin) hb)]
            clear hb q1 q2
            have q1 : (w2.setCell ⟨X, 0, none⟩ (.int .i64 i)).cell? ⟨X, 1, none⟩ = some (.int .i64 k) := (hX3.set 0 (.int .i64 i)).cell' (i := 1) rfl
            have q2 := (hX3.set 0 (.int .i64 i)).frozen 1
            have hX5 : Blk ((w2.setCell ⟨X, 0, none⟩ (.int .i64 i)).setCell ⟨X, 1, none⟩ (.int .i64 k)) X [.int .i64 i, .int .i64 k] 162 := (hX3.set 0 _).set 1 _
            have z0 := hX5.cell' (i := 0) rfl
            have z1 := hX5.cell' (i := 1) rfl
            have hset2 : Ext (One X) w2 ((w2.setCell ⟨X, 0, none⟩ (.int .i64 i)).setCell ⟨X, 1, none⟩ (.int .i64 k)) := (Ext.set1 _ _ _ _).transSame (Ext.set1 _ _ _ _)
            have hx5 := hx4.trans hset2 (fun x hx' (e : x = X) => by omega)
            go_wp2_with fail
            try rw [Exit.noGoto_ret]
            refine bodyPost_ret (v := .tuple #[.agg #[.int .i64 i, .int .i64 k], .bool true]) (by simp [results, Try.results118, go_sem, z0, z1]) rfl ⟨?_, hx5⟩
            rw [hle.out]; rfl
        · have hl2 : Hid (leastL l o = leastL l (k + 1)) := by show _ = _; rw [hl'.out, least_no hlt (by rw [← hf'.out]; exact frees_out (by rw [hnn'.out]; omega))]
          go_wp2_with fail
          go_roundg (11 - (k + 1))
          case measure => have := hk'.out; omega
          case rel => exact ⟨k + 1, x, y, by omega, by omega, rfl, by go_num, hXb, hB, hx, hl2.out⟩
    · have hd10 : decide ((k : Int) ≤ 10) = false := decide_eq_false (by omega)
      have hle : Hid (leastL l o = none) := by show _ = _; rw [hl'.out, show k = 11 by omega]; rfl
      have y0 := hXb.cell' (i := 0) rfl
      have y1 := hXb.cell' (i := 1) rfl
      have t0 := hXb.frozen 0
      have t1 := hXb.frozen 1
      have hXl3 := hXb.lt
      obtain ⟨w2, hw2⟩ : ∃ w2, wr = w2 := ⟨_, rfl⟩
      rw [hw2] at hXb hB hx y0 y1 t0 t1 hXl3 ⊢
      clear hw2
      have q1 : (w2.setCell ⟨X, 0, none⟩ (.int .i64 x)).cell? ⟨X, 1, none⟩ = some (.int .i64 y) := (hXb.set 0 (.int .i64 x)).cell' (i := 1) rfl
      have q2 := (hXb.set 0 (.int .i64 x)).frozen 1
      have hX5 : Blk ((w2.setCell ⟨X, 0, none⟩ (.int .i64 x)).setCell ⟨X, 1, none⟩ (.int .i64 y)) X [.int .i64 x, .int .i64 y] 162 := (hXb.set 0 _).set 1 _
      have z0 := hX5.cell' (i := 0) rfl
      have z1 := hX5.cell' (i := 1) rfl
      have hset2 : Ext (One X) w2 ((w2.setCell ⟨X, 0, none⟩ (.int .i64 x)).setCell ⟨X, 1, none⟩ (.int .i64 y)) := (Ext.set1 _ _ _ _).transSame (Ext.set1 _ _ _ _)
      have hx5 := hx.trans hset2 (fun x hx' (e : x = X) => by omega)
      go_wp2_with fail
      try rw [Exit.noGoto_ret]
      refine bodyPost_ret (v := .tuple #[.agg #[.int .i64 x, .int .i64 y], .bool false]) (by simp [results, Try.results118, go_sem, z0, z1]) rfl ⟨?_, hx5⟩
      rw [hle.out]; exact ⟨_, _, rfl⟩
end Go.Proofs.Ytjkknjohmekeiaa
