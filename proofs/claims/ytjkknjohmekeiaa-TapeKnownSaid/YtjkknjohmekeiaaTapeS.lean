/- The tape in plain Lean: what bytes say as a script; how scripts lie in memory. No condition. -/
import Derived.Test.YtjkknjohmekeiaaBase
namespace Go.Proofs.Ytjkknjohmekeiaa
open Go.RowKit

structure Cl where
  op : Int
  a : Int
  b : Int
  c : Int
  deriving DecidableEq, Inhabited

structure Scr where
  cpus : Int
  pages : Int
  calls : List (List Cl)
  picks : List Int
  deriving DecidableEq, Inhabited

/-- The byte at a place, 0 behind the last. -/
def bt (l : List Nat) (p : Nat) : Nat := hd0 (l.drop p)
def callAt (l : List Nat) (p : Nat) : Cl := ⟨(bt l p : Int) % 14, (bt l (p + 1) : Int), (bt l (p + 2) : Int) * 256 + (bt l (p + 3) : Int), (bt l (p + 4) : Int)⟩
def listAt (l : List Nat) (p k : Nat) : List Cl := (List.range k).map fun i => callAt l (p + 5 * i)
/-- Where the i-th list begins. -/
def posL (l : List Nat) : Nat → Nat
  | 0 => 3
  | i + 1 => posL l i + 1 + 5 * (bt l (posL l i) % 65)
def listOf (l : List Nat) (i : Nat) : List Cl := listAt l (posL l i + 1) (bt l (posL l i) % 65)
def cpusOf (l : List Nat) : Nat := 1 + bt l 0 % 8
def pagesOf (l : List Nat) : Nat := 1 + (bt l 1 * 256 + bt l 2) % 1024
def listsTo (l : List Nat) (k : Nat) : List (List Cl) := (List.range k).map (listOf l)
def restOf (l : List Nat) : List Nat := l.drop (posL l (cpusOf l))
def script (l : List Nat) : Scr := ⟨cpusOf l, pagesOf l, listsTo l (cpusOf l), ((restOf l).take 4096).map fun (x : Nat) => (x : Int)⟩

theorem listAt_succ (l : List Nat) (p k : Nat) : listAt l p (k + 1) = listAt l p k ++ [callAt l (p + 5 * k)] := by simp [listAt, List.range_succ]
theorem listsTo_succ (l : List Nat) (k : Nat) : listsTo l (k + 1) = listsTo l k ++ [listOf l k] := by simp [listsTo, List.range_succ]
theorem drop_tail (l : List Nat) (p : Nat) : (l.drop p).tail = l.drop (p + 1) := by simp

theorem bt_nth {l : List Nat} {k : Nat} (h : k < l.length) : bt l k = nth l k := by unfold bt; rw [drop_nth h]; rfl

/-! ### In memory -/
def clCells (c : Cl) : List Value := [.int .i64 c.op, .int .i64 c.a, .int .i64 c.b, .int .i64 c.c]
def clsCells (l : List Cl) : List Value := l.flatMap clCells
theorem clsCells_snoc (l : List Cl) (c : Cl) : clsCells (l ++ [c]) = clsCells l ++ clCells c := by simp [clsCells]
theorem clsCells_len (l : List Cl) : (clsCells l).length = l.length * 4 := by
  induction l with
  | nil => rfl
  | cons c l ih => simp [clsCells, clCells] at *; omega
theorem flat_at {α : Type} (f : α → List Value) (m : Nat) (hf : ∀ x, (f x).length = m) (l : List α) (k i : Nat) (hk : k < l.length) (hi : i < m) : (l.flatMap f)[k * m + i]? = (f l[k])[i]? := by
  induction l generalizing k with
  | nil => simp at hk
  | cons x l ih =>
    cases k with
    | zero => simp only [List.flatMap_cons, Nat.zero_mul, Nat.zero_add]; rw [List.getElem?_append_left (by rw [hf]; omega)]; rfl
    | succ k =>
      simp only [List.flatMap_cons]
      rw [List.getElem?_append_right (by rw [hf, Nat.succ_mul]; omega), hf, show (k + 1) * m + i - m = k * m + i from by rw [Nat.succ_mul]; omega]
      rw [ih k (by simpa using hk)]; simp
theorem clsCells_at {l : List Cl} {k i : Nat} (hk : k < l.length) (hi : i < 4) : (clsCells l)[k * 4 + i]? = (clCells (nth l k))[i]? := by
  rw [nth_eq hk]; exact flat_at clCells 4 (fun _ => rfl) l k i hk hi

/-- A slice of calls. -/
def RdC (F : Nat → Prop) (w : World) (v : Value) (l : List Cl) : Prop := Rd F w v l.length 4 (clsCells l)
/-- A slice of slices of calls. -/
def RdCC (F G : Nat → Prop) (w : World) (v : Value) (ll : List (List Cl)) : Prop :=
  ∃ vs : List Value, vs.length = ll.length ∧ Rd F w v ll.length 1 vs ∧ ∀ i, i < ll.length → RdC G w (nth vs i) (nth ll i)
/-- A script. -/
def RdS (F : Nat → Prop) (w : World) (v : Value) (s : Scr) : Prop :=
  ∃ vc vp, v = .agg #[.int .i64 s.cpus, .int .i64 s.pages, vc, vp] ∧ RdCC F F w vc s.calls ∧ RdI F w vp s.picks

section
variable {S F G F' G' : Nat → Prop} {w w' : World} {v : Value}
theorem RdC.ext {l : List Cl} (h : RdC F w v l) (hx : Ext S w w') (hS : ∀ x, F x → ¬ S x) : RdC F w' v l := Rd.ext h hx hS
theorem RdC.mono {l : List Cl} (h : RdC F w v l) (hG : ∀ x, F x → x < w.heap.size → G x) : RdC G w v l := Rd.mono h hG
theorem RdCC.ext {ll : List (List Cl)} (h : RdCC F G w v ll) (hx : Ext S w w') (hF : ∀ x, F x → ¬ S x) (hG : ∀ x, G x → ¬ S x) : RdCC F G w' v ll := by
  obtain ⟨vs, h1, h2, h3⟩ := h
  exact ⟨vs, h1, h2.ext hx hF, fun i hi => (h3 i hi).ext hx hG⟩
theorem RdCC.mono {ll : List (List Cl)} (h : RdCC F G w v ll) (hF : ∀ x, F x → x < w.heap.size → F' x) (hG : ∀ x, G x → x < w.heap.size → G' x) : RdCC F' G' w v ll := by
  obtain ⟨vs, h1, h2, h3⟩ := h
  exact ⟨vs, h1, h2.mono hF, fun i hi => (h3 i hi).mono hG⟩
theorem RdS.ext {s : Scr} (h : RdS F w v s) (hx : Ext S w w') (hF : ∀ x, F x → ¬ S x) : RdS F w' v s := by
  obtain ⟨vc, vp, h1, h2, h3⟩ := h
  exact ⟨vc, vp, h1, h2.ext hx hF hF, h3.ext hx hF⟩
theorem RdS.mono {s : Scr} (h : RdS F w v s) (hF : ∀ x, F x → x < w.heap.size → F' x) : RdS F' w v s := by
  obtain ⟨vc, vp, h1, h2, h3⟩ := h
  exact ⟨vc, vp, h1, h2.mono hF hF, h3.mono hF⟩
end
/-- A script whose picks may be written. -/
def RdSo (F : Nat → Prop) (w : World) (v : Value) (s : Scr) : Prop :=
  ∃ vc vp, v = .agg #[.int .i64 s.cpus, .int .i64 s.pages, vc, vp] ∧ RdCC F F w vc s.calls ∧ RdI F w vp s.picks ∧ w.ownsRow 0 3 1 vp s.picks.length (s.picks.map int) ∧ ∀ x, OwnOf vp x → F x
theorem ownsRow_ext' {S : Nat → Prop} {w w' : World} {base e size n : Nat} {v : Value} {xs : List Value} (h : w.ownsRow base e size v n xs) (hx : Ext S w w') (hS : ∀ k, v.ownBlock = some k → ¬ S k) : w'.ownsRow base e size v n xs := by
  refine ⟨h.1, ?_⟩
  rcases h.2 with hn | ⟨g, cap, cur, rfl, hb, hgg, rest⟩
  · exact .inl hn
  · refine .inr ⟨g, cap, cur, rfl, hb, ?_, rest⟩
    rw [hx.block g (Array.getElem?_eq_some_iff.1 hgg).1 (hS g rfl)]
    exact hgg
theorem ownsRow_base {w : World} {base base' e size n : Nat} {v : Value} {xs : List Value} (h : w.ownsRow base e size v n xs) (hb : base' ≤ base) : w.ownsRow base' e size v n xs := by
  refine ⟨h.1, ?_⟩
  rcases h.2 with hn | ⟨g, cap, cur, e1, e2, rest⟩
  · exact .inl hn
  · exact .inr ⟨g, cap, cur, e1, by omega, rest⟩
section
variable {S F F' : Nat → Prop} {w w' : World} {v : Value} {s : Scr}
theorem RdSo.rd (h : RdSo F w v s) : RdS F w v s := by
  obtain ⟨vc, vp, h1, h2, h3, _⟩ := h
  exact ⟨vc, vp, h1, h2, h3⟩
theorem RdSo.ext (h : RdSo F w v s) (hx : Ext S w w') (hF : ∀ x, F x → ¬ S x) : RdSo F w' v s := by
  obtain ⟨vc, vp, h1, h2, h3, h4, h5⟩ := h
  exact ⟨vc, vp, h1, h2.ext hx hF hF, h3.ext hx hF, ownsRow_ext' h4 hx (fun k hk => hF k (h5 k hk)), h5⟩
theorem RdSo.mono (h : RdSo F w v s) (hF : ∀ x, F x → x < w.heap.size → F' x) : RdSo F' w v s := by
  obtain ⟨vc, vp, h1, h2, h3, h4, h5⟩ := h
  exact ⟨vc, vp, h1, h2.mono hF hF, h3.mono hF, h4, fun x hx => hF x (h5 x hx) (h4.lt x hx).2⟩
end
theorem nth_append_left {α : Type} [Inhabited α] {l m : List α} {i : Nat} (h : i < l.length) : nth (l ++ m) i = nth l i := by
  rw [nth_eq (by simp; omega), nth_eq h, List.getElem_append_left h]
theorem nth_snoc {α : Type} [Inhabited α] {l : List α} {x : α} : nth (l ++ [x]) l.length = x := by
  rw [nth_eq (by simp)]; simp
end Go.Proofs.Ytjkknjohmekeiaa
