/- Triples of whole numbers in memory: pages, calls. No condition. -/
import Derived.Test.YtjkknjohmekeiaaTapeG
import Derived.Test.YtjkknjohmekeiaaApp
import Derived.Test.YtjkknjohmekeiaaOpen
import Derived.Deep.Strs
namespace Go.Proofs.Ytjkknjohmekeiaa
open Go.RowKit

structure T3 where
  a : Int
  b : Int
  c : Int
deriving DecidableEq, Inhabited

theorem T3.ext3 {x y : T3} (h1 : x.a = y.a) (h2 : x.b = y.b) (h3 : x.c = y.c) : x = y := by
  cases x; cases y; simp only at h1 h2 h3; rw [h1, h2, h3]
def t3Cells (c : T3) : List Value := [.int .i64 c.a, .int .i64 c.b, .int .i64 c.c]
def t3sCells (l : List T3) : List Value := l.flatMap t3Cells
theorem t3sCells_len (l : List T3) : (t3sCells l).length = l.length * 3 := by
  induction l with
  | nil => rfl
  | cons c l ih => simp [t3sCells, t3Cells] at *; omega
theorem t3sCells_at {l : List T3} {k i : Nat} (hk : k < l.length) (hi : i < 3) : (t3sCells l)[k * 3 + i]? = (t3Cells (nth l k))[i]? := by
  rw [nth_eq hk]; exact flat_at t3Cells 3 (fun _ => rfl) l k i hk hi
theorem t3s_one (l : List T3) : ∀ u ∈ t3sCells l, u.oneCell' = true := by
  intro u hu
  simp only [t3sCells, t3Cells, List.mem_flatMap] at hu
  obtain ⟨c, _, hu⟩ := hu
  simp only [List.mem_cons, List.not_mem_nil, or_false] at hu
  rcases hu with rfl | rfl | rfl <;> rfl

/-- A slice of triples. -/
def RdT (F : Nat → Prop) (w : World) (v : Value) (l : List T3) : Prop := Rd F w v l.length 3 (t3sCells l)
section
variable {S F G : Nat → Prop} {w w' : World} {v : Value} {l : List T3}
theorem RdT.ext (h : RdT F w v l) (hx : Ext S w w') (hS : ∀ x, F x → ¬ S x) : RdT F w' v l := Rd.ext h hx hS
theorem RdT.extNo (h : RdT F w v l) (hx : Ext No w w') : RdT F w' v l := Rd.extNo h hx
theorem RdT.mono (h : RdT F w v l) (hG : ∀ x, F x → x < w.heap.size → G x) : RdT G w v l := Rd.mono h hG
theorem RdT.val (h : RdT F w v l) : ∃ a cap, v = .slice a l.length cap ∧ l.length ≤ cap ∧ cap ≤ 9223372036854775807 := Rd.val h
theorem RdT.at {a : Option Addr} {n cap : Nat} (h : RdT F w (.slice a n cap) l) {k : Nat} (hk : k < l.length) :
    ∃ b off, a = some ⟨b, off, none⟩ ∧ b < w.heap.size ∧ F b ∧ w.cell? ⟨b, off + k * 3, none⟩ = some (.int .i64 (nth l k).a) ∧ w.cell? ⟨b, off + k * 3 + 1, none⟩ = some (.int .i64 (nth l k).b) ∧
      w.cell? ⟨b, off + k * 3 + 2, none⟩ = some (.int .i64 (nth l k).c) := by
  obtain ⟨b, off, cap', e, _, _, hF, hlt, hc⟩ := Rd.open_ h (by omega)
  cases e
  refine ⟨b, off, rfl, hlt, hF, ?_, ?_, ?_⟩
  · exact hc (k * 3) _ (t3sCells_at (i := 0) hk (by omega))
  · rw [Nat.add_assoc]; exact hc (k * 3 + 1) _ (t3sCells_at (i := 1) hk (by omega))
  · rw [Nat.add_assoc]; exact hc (k * 3 + 2) _ (t3sCells_at (i := 2) hk (by omega))
end

/-! ### Opened from a claim's reading -/
section
variable {H : Type} {enc : TypeId × Value → H} {W : World}
theorem three_of {c : List Value} {a b d : Value} (h : c.length = 3) (h0 : c[0]? = some a) (h1 : c[1]? = some b) (h2 : c[2]? = some d) : c = [a, b, d] := by
  match c, h with
  | [x, y, z], _ => simp at h0 h1 h2; simp [h0, h1, h2]
def T3wf (x : T3) : Prop := (Lit.int .i64 x.a).wf = true ∧ (Lit.int .i64 x.b).wf = true ∧ (Lit.int .i64 x.c).wf = true

theorem open_t3 {t : TypeId} {f0 f1 f2 : Field} (hu : Try.prog.underlying t = some (.struct #[f0, f1, f2])) (hf : f0.type = 3 ∧ f1.type = 3 ∧ f2.type = 3) (ho : f0.offset = 0 ∧ f1.offset = 1 ∧ f2.offset = 2) (hc3 : Try.prog.cellsOf t = 3) {n : Nat} {c : List Value} {D : DataW H} {Pl : List MemPlace}
    (h : DataW.trod enc Try.prog W 0 (fun _ => true) true n t c = some (D, Pl)) : ∃ x : T3, c = t3Cells x ∧ T3wf x := by
  obtain ⟨y0, y1, y2, m, hx, hl, h0, h1, h2⟩ := Go.Deep.trod_struct3 hu h
  have hl3 : c.length = 3 := hl.trans hc3
  rw [hf.1, ho.1] at h0
  rw [hf.2.1, ho.2.1] at h1
  rw [hf.2.2, ho.2.2] at h2
  obtain ⟨x0, e0, w0⟩ := open_cell3 (k := 0) (by omega) h0
  obtain ⟨x1, e1, w1⟩ := open_cell3 (k := 1) (by omega) h1
  obtain ⟨x2, e2, w2⟩ := open_cell3 (k := 2) (by omega) h2
  refine ⟨⟨x0, x1, x2⟩, ?_, w0, w1, w2⟩
  clear hl h h0 h1 h2 hx
  exact three_of hl3 e0 e1 e2
theorem bytes70 : Try.prog.bytesOf 70 = 24 := by kernel_rfl
theorem open_do3 {n : Nat} {v : Value} {d : DataW H} {p : List MemPlace} (h : DataW.trod enc Try.prog W 0 (fun _ => true) true n 61 [v] = some (d, p)) (lt : ∀ x ∈ p, x.block < W.heap.size)
    (hz : ∀ n ∈ d.weights Try.prog 61, n ≤ reachBytes) : ∃ l : List T3, RdT (Iv 0 W.heap.size) W v l ∧ l.length * 24 ≤ reachBytes ∧ ∀ x ∈ l, T3wf x := by
  obtain ⟨css, h1, h2, h3, h4⟩ := open_sl Try.underlying61 (s := 3) (by kernel_rfl) (by omega) h lt hz
  obtain ⟨l, g1, g2, g3⟩ := open_map (f := t3Cells) (Q := T3wf) (fun c hc => by
    obtain ⟨n, D, Pl, k1, _⟩ := h4 c hc
    exact open_t3 Try.underlying70 ⟨rfl, rfl, rfl⟩ ⟨rfl, rfl, rfl⟩ (by kernel_rfl) k1)
  rw [bytes70, ← g1] at h3
  rw [g2, ← g1] at h2
  exact ⟨l, h2, h3, g3⟩
theorem bytes119 : Try.prog.bytesOf 119 = 24 := by kernel_rfl
theorem open_do3b {n : Nat} {v : Value} {d : DataW H} {p : List MemPlace} (h : DataW.trod enc Try.prog W 0 (fun _ => true) true n 107 [v] = some (d, p)) (lt : ∀ x ∈ p, x.block < W.heap.size)
    (hz : ∀ n ∈ d.weights Try.prog 107, n ≤ reachBytes) : ∃ l : List T3, RdT (Iv 0 W.heap.size) W v l ∧ l.length * 24 ≤ reachBytes ∧ ∀ x ∈ l, T3wf x := by
  obtain ⟨css, h1, h2, h3, h4⟩ := open_sl Try.underlying107 (s := 3) (by kernel_rfl) (by omega) h lt hz
  obtain ⟨l, g1, g2, g3⟩ := open_map (f := t3Cells) (Q := T3wf) (fun c hc => by
    obtain ⟨n, D, Pl, k1, _⟩ := h4 c hc
    exact open_t3 Try.underlying119 ⟨rfl, rfl, rfl⟩ ⟨rfl, rfl, rfl⟩ (by kernel_rfl) k1)
  rw [bytes119, ← g1] at h3
  rw [g2, ← g1] at h2
  exact ⟨l, h2, h3, g3⟩
theorem bytes98 : Try.prog.bytesOf 98 = 24 := by kernel_rfl
theorem open_pages {n : Nat} {v : Value} {d : DataW H} {p : List MemPlace} (h : DataW.trod enc Try.prog W 0 (fun _ => true) true n 96 [v] = some (d, p)) (lt : ∀ x ∈ p, x.block < W.heap.size)
    (hz : ∀ n ∈ d.weights Try.prog 96, n ≤ reachBytes) : ∃ l : List T3, RdT (Iv 0 W.heap.size) W v l ∧ l.length * 24 ≤ reachBytes ∧ ∀ x ∈ l, T3wf x := by
  obtain ⟨css, h1, h2, h3, h4⟩ := open_sl Try.underlying96 (s := 3) (by kernel_rfl) (by omega) h lt hz
  obtain ⟨l, g1, g2, g3⟩ := open_map (f := t3Cells) (Q := T3wf) (fun c hc => by
    obtain ⟨n, D, Pl, k1, _⟩ := h4 c hc
    exact open_t3 Try.underlying98 ⟨rfl, rfl, rfl⟩ ⟨rfl, rfl, rfl⟩ (by kernel_rfl) k1)
  rw [bytes98, ← g1] at h3
  rw [g2, ← g1] at h2
  exact ⟨l, h2, h3, g3⟩
theorem open_page {n : Nat} {cs : Array Value} {d : DataW H} {p : List MemPlace} (h : DataW.trod enc Try.prog W 0 (fun _ => true) true n 98 cs.toList = some (d, p)) (lt : ∀ x ∈ p, x.block < W.heap.size)
    (hz : ∀ n ∈ d.weights Try.prog 98, n ≤ reachBytes) : ∃ x : T3, Value.agg cs = .agg (t3Cells x).toArray ∧ T3wf x := by
  obtain ⟨x, h1, h2⟩ := open_t3 Try.underlying98 ⟨rfl, rfl, rfl⟩ ⟨rfl, rfl, rfl⟩ (by kernel_rfl) h
  exact ⟨x, by rw [← h1], h2⟩
theorem bytes90 : Try.prog.bytesOf 90 = 32 := by kernel_rfl
def Clwf (x : Cl) : Prop := (Lit.int .i64 x.op).wf = true ∧ (Lit.int .i64 x.a).wf = true ∧ (Lit.int .i64 x.b).wf = true ∧ (Lit.int .i64 x.c).wf = true
theorem open_q1 {n : Nat} {c : List Value} {D : DataW H} {Pl : List MemPlace} (h : DataW.trod enc Try.prog W 0 (fun _ => true) true n 90 c = some (D, Pl)) : ∃ x : Cl, c = clCells x ∧ Clwf x := by
  obtain ⟨y0, y1, y2, y3, m, hx, hl, h0, h1, h2, h3⟩ := Go.Joins.trod_struct4 Try.underlying90 h
  have hl4 : c.length = 4 := hl.trans (by kernel_rfl)
  obtain ⟨x0, e0, w0⟩ := open_cell3 (k := 0) (by omega) h0
  obtain ⟨x1, e1, w1⟩ := open_cell3 (k := 1) (by omega) h1
  obtain ⟨x2, e2, w2⟩ := open_cell3 (k := 2) (by omega) h2
  obtain ⟨x3, e3, w3⟩ := open_cell3 (k := 3) (by omega) h3
  refine ⟨⟨x0, x1, x2, x3⟩, ?_, w0, w1, w2, w3⟩
  clear hl h h0 h1 h2 h3 hx
  exact four_of hl4 e0 e1 e2 e3
theorem open_do4 {n : Nat} {v : Value} {d : DataW H} {p : List MemPlace} (h : DataW.trod enc Try.prog W 0 (fun _ => true) true n 46 [v] = some (d, p)) (lt : ∀ x ∈ p, x.block < W.heap.size)
    (hz : ∀ n ∈ d.weights Try.prog 46, n ≤ reachBytes) : ∃ l : List Cl, RdC (Iv 0 W.heap.size) W v l ∧ l.length * 32 ≤ reachBytes ∧ ∀ x ∈ l, Clwf x := by
  obtain ⟨css, h1, h2, h3, h4⟩ := open_sl Try.underlying46 (s := 4) (by kernel_rfl) (by omega) h lt hz
  obtain ⟨l, g1, g2, g3⟩ := open_map (f := clCells) (Q := Clwf) (fun c hc => by
    obtain ⟨n, D, Pl, k1, _⟩ := h4 c hc
    exact open_q1 k1)
  rw [bytes90, ← g1] at h3
  rw [g2, ← g1] at h2
  exact ⟨l, h2, h3, g3⟩
end
end Go.Proofs.Ytjkknjohmekeiaa
