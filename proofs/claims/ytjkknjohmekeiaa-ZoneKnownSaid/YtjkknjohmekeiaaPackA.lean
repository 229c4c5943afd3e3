/- Texts of ours, one behind the other (Base, TapeS, App, Any, TapeD): each says in its own first lines what it proves. No condition. -/
import Derived.WalkKit
import Derived.Deep.QuietTactic
import Derived.BigQuiet
import Derived.Deep.LoopGhost
import Derived.Deep.RegionHeld3
import Derived.Lib.Hide
import Derived.WalkLawsBesides
import Derived.Deep.DeepFit
import Derived.Handy
import Derived.Test.YtjkknjohmekeiaaProg
import Derived.Maps.AppendAt
import Derived.OrdersHeld
import Derived.Laws.BytesArg
import Derived.WideShapes
/- Words that all texts of this seat use: worlds that extend one another outside some blocks, blocks known whole, rows of cells that are read. No condition. -/
namespace Go.Proofs.Ytjkknjohmekeiaa
open Go.RowKit

/-- Outside the blocks S the world w' is as w was. -/
structure Ext (S : Nat → Prop) (w w' : World) : Prop where
  os : w'.os = w.os
  tape : w'.tape = w.tape
  output : w'.output = w.output
  size : w.heap.size ≤ w'.heap.size
  block : ∀ k, k < w.heap.size → ¬ S k → w'.heap[k]? = w.heap[k]?

def No : Nat → Prop := fun _ => False
def One (b : Nat) : Nat → Prop := fun x => x = b

theorem no_iff {x : Nat} : No x ↔ False := Iff.rfl
theorem one_iff {b x : Nat} : One b x ↔ x = b := Iff.rfl

namespace Ext
variable {S T : Nat → Prop} {a w w' : World}
theorem refl (S : Nat → Prop) (w : World) : Ext S w w := ⟨rfl, rfl, rfl, Nat.le_refl _, fun _ _ _ => rfl⟩
theorem trans (h : Ext S a w) (k : Ext T w w') (hT : ∀ x, x < a.heap.size → T x → S x) : Ext S a w' :=
  ⟨k.os.trans h.os, k.tape.trans h.tape, k.output.trans h.output, Nat.le_trans h.size k.size,
    fun i hi hs => (k.block i (Nat.lt_of_lt_of_le hi h.size) (fun ht => hs (hT i hi ht))).trans (h.block i hi hs)⟩
theorem mono (h : Ext S w w') (hST : ∀ x, x < w.heap.size → S x → T x) : Ext T w w' := ⟨h.os, h.tape, h.output, h.size, fun k hk ht => h.block k hk (fun hs => ht (hST k hk hs))⟩
theorem of_no (h : Ext No w w') : Ext S w w' := h.mono (fun _ _ => False.elim)
theorem transNo (h : Ext S a w) (k : Ext No w w') : Ext S a w' := h.trans k (fun _ _ => False.elim)
theorem transSame (h : Ext S a w) (k : Ext S w w') : Ext S a w' := h.trans k (fun _ _ h => h)
/-- The second step wrote blocks that are new since a. -/
theorem transNew (h : Ext S a w) (k : Ext T w w') (hT : ∀ x, T x → a.heap.size ≤ x) : Ext S a w' :=
  h.trans k (fun x hx ht => by have := hT x ht; omega)
theorem transOne {b : Nat} (h : Ext S a w) (k : Ext (One b) w w') (hb : a.heap.size ≤ b ∨ S b) : Ext S a w' :=
  h.trans k (fun x hx (ht : x = b) => by subst ht; rcases hb with hb | hb; omega; exact hb)
theorem drew (h : Ext S a w) : Ext S a w.drew := ⟨h.os, h.tape, h.output, h.size, h.block⟩
theorem drewN (h : Ext S a w) (n : Nat) : Ext S a (w.drewN n) := ⟨h.os, h.tape, h.output, h.size, h.block⟩
theorem alloc (h : Ext S a w) (o : Obj) : Ext S a (w.alloc o) :=
  h.trans (T := No) ⟨rfl, rfl, rfl, by simp, fun k hk _ => Below.heap_alloc _ _ _ hk⟩ (fun _ _ => False.elim)
theorem setCell (h : Ext S a w) (p : Addr) (v : Value) (hp : a.heap.size ≤ p.block ∨ S p.block) : Ext S a (w.setCell p v) :=
  h.trans (T := fun x => x = p.block) ⟨rfl, rfl, rfl, by simp [World.setCell], fun k _ hs => Below.heap_setCell _ _ _ _ hs⟩
    (fun x hx ht => by subst ht; rcases hp with hp | hp; omega; exact hp)
theorem grown (h : Ext S a w) {row : Option Nat} (hg : w.grownBy w' row) (hr : ∀ k, row = some k → a.heap.size ≤ k ∨ S k) : Ext S a w' :=
  h.trans (T := fun x => row = some x) ⟨hg.os, hg.tape, hg.output, hg.size, fun k hk hs => hg.block k hk (fun e => hs e.symm)⟩
    (fun x hx ht => by rcases hr x ht with h | h; omega; exact h)
theorem cell (h : Ext S w w') {p : Addr} {v : Value} (hc : w.cell? p = some v) (hp : ¬ S p.block) : w'.cell? p = some v :=
  (World.cell?_of_block (h.block p.block (World.block_lt_of_cell? w p hc) hp)).trans hc
theorem frozen (h : Ext S w w') {p : Addr} (hlt : p.block < w.heap.size) (hp : ¬ S p.block) : w'.frozen? p = w.frozen? p :=
  World.frozen?_of_block (h.block p.block hlt hp)
theorem below (h : Ext S w w') {B : Nat} (hB : B ≤ w.heap.size) (hS : ∀ x, x < B → ¬ S x) : Below B w w' :=
  ⟨h.os, h.tape, h.output, h.size, fun k hk => h.block k (by omega) (hS k hk)⟩
theorem belowNo (h : Ext No w w') : Below w.heap.size w w' := h.below (Nat.le_refl _) (fun _ _ h => h)
theorem of_below (h : Below w.heap.size w w') : Ext S w w' := ⟨h.os, h.tape, h.output, h.size, fun k hk _ => h.block k hk⟩
theorem grownBy {b : Nat} (h : Ext (One b) w w') : w.grownBy w' (some b) := ⟨h.os, h.tape, h.output, h.size, fun k hk hs => h.block k hk (fun e => hs (by rw [show k = b from e]))⟩
theorem grownByNo (h : Ext No w w') (row : Option Nat) : w.grownBy w' row := ⟨h.os, h.tape, h.output, h.size, fun k hk _ => h.block k hk id⟩
theorem of_grownBy {row : Option Nat} (hg : w.grownBy w' row) : Ext (fun x => row = some x) w w' := ⟨hg.os, hg.tape, hg.output, hg.size, fun k hk hs => hg.block k hk (fun e => hs e.symm)⟩
end Ext

/-- Block b is known whole, and may be written. -/
def Blk (w : World) (b : Nat) (cs : List Value) (T : TypeId) : Prop := w.heap[b]? = some (.cells cs.toArray T (0, 0))

namespace Blk
variable {S : Nat → Prop} {w w' : World} {b T : Nat} {cs : List Value}
theorem lt (h : Blk w b cs T) : b < w.heap.size := (Array.getElem?_eq_some_iff.1 h).1
theorem cell (h : Blk w b cs T) (i : Nat) : w.cell? ⟨b, i, none⟩ = cs[i]? := by
  simp [World.cell?, show w.heap[b]? = _ from h]
theorem cell' (h : Blk w b cs T) {i : Nat} {v : Value} (hi : cs[i]? = some v) : w.cell? ⟨b, i, none⟩ = some v := (h.cell i).trans hi
theorem frozen (h : Blk w b cs T) (i : Nat) : w.frozen? ⟨b, i, none⟩ = false := by
  simp [World.frozen?, show w.heap[b]? = _ from h]
theorem ext (h : Blk w b cs T) (hx : Ext S w w') (hb : ¬ S b) : Blk w' b cs T := (hx.block b h.lt hb).trans h
theorem extNo (h : Blk w b cs T) (hx : Ext No w w') : Blk w' b cs T := h.ext hx id
theorem extOne {k : Nat} (h : Blk w b cs T) (hx : Ext (One k) w w') (hb : b ≠ k) : Blk w' b cs T := h.ext hx hb
theorem set (h : Blk w b cs T) (i : Nat) (v : Value) : Blk (w.setCell ⟨b, i, none⟩ v) b (cs.set i v) T := by
  unfold Blk at *
  simp only [World.setCell, Array.getElem?_modify, h]
  simp
theorem setOther (h : Blk w b cs T) (p : Addr) (v : Value) (hp : b ≠ p.block) : Blk (w.setCell p v) b cs T :=
  (Below.heap_setCell w p v b hp).trans h
theorem alloc (h : Blk w b cs T) (o : Obj) : Blk (w.alloc o) b cs T := (Below.heap_alloc w o b h.lt).trans h
theorem new (w : World) (cs : List Value) (T : TypeId) : Blk (w.alloc (.cells cs.toArray T)) w.heap.size cs T := heap_alloc_new w _
theorem new' (hb : b = w.heap.size) : Blk (w.alloc (.cells cs.toArray T)) b cs T := by subst hb; exact heap_alloc_new w _
theorem drew (h : Blk w b cs T) : Blk w.drew b cs T := h
theorem drewN (h : Blk w b cs T) (n : Nat) : Blk (w.drewN n) b cs T := h
end Blk

/-- The blocks from lo on and below hi. -/
def Iv (lo hi : Nat) : Nat → Prop := fun x => lo ≤ x ∧ x < hi
/-- The block that a slice value leads to. -/
def OwnOf (v : Value) : Nat → Prop := fun x => v.ownBlock = some x

/-- A slice value of n elements of sz cells each, that holds the cells cs, in a block of F. -/
def Rd (F : Nat → Prop) (w : World) (v : Value) (n sz : Nat) (cs : List Value) : Prop :=
  ∃ a cap, v = .slice a n cap ∧ cs.length = n * sz ∧ n ≤ cap ∧ cap ≤ maxLen ∧
    (cs ≠ [] → ∃ b off, a = some ⟨b, off, none⟩ ∧ F b ∧ b < w.heap.size ∧ ∀ i u, cs[i]? = some u → w.cell? ⟨b, off + i, none⟩ = some u)

namespace Rd
variable {S F G : Nat → Prop} {w w' : World} {v : Value} {n sz : Nat} {cs : List Value}
theorem ext (h : Rd F w v n sz cs) (hx : Ext S w w') (hS : ∀ x, F x → ¬ S x) : Rd F w' v n sz cs := by
  obtain ⟨a, cap, h1, h2, h3, h4, h5⟩ := h
  refine ⟨a, cap, h1, h2, h3, h4, fun hne => ?_⟩
  obtain ⟨b, off, g1, g2, g4, g5⟩ := h5 hne
  exact ⟨b, off, g1, g2, Nat.lt_of_lt_of_le g4 hx.size, fun i u hu => hx.cell (g5 i u hu) (hS b g2)⟩
theorem extNo (h : Rd F w v n sz cs) (hx : Ext No w w') : Rd F w' v n sz cs := h.ext hx (fun _ _ => id)
theorem extOne {k : Nat} (h : Rd F w v n sz cs) (hx : Ext (One k) w w') (hk : ¬ F k) : Rd F w' v n sz cs :=
  h.ext hx (fun x h1 (e : x = k) => hk (e ▸ h1))
theorem mono (h : Rd F w v n sz cs) (hG : ∀ x, F x → x < w.heap.size → G x) : Rd G w v n sz cs := by
  obtain ⟨a, cap, e1, e2, e3, e4, h5⟩ := h
  refine ⟨a, cap, e1, e2, e3, e4, fun hne => ?_⟩
  obtain ⟨b, off, g1, g2, g4, g5⟩ := h5 hne
  exact ⟨b, off, g1, hG b g2 g4, g4, g5⟩
theorem nil (F : Nat → Prop) (w : World) (sz : Nat) : Rd F w (.slice none 0 0) 0 sz [] := ⟨none, 0, rfl, by simp, Nat.le_refl _, by simp [maxLen], fun h => absurd rfl h⟩
theorem of_own {base e : Nat} (h : w.ownsRow base e sz v n cs) : Rd (OwnOf v) w v n sz cs := by
  obtain ⟨h1, h2⟩ := h
  rcases h2 with ⟨rfl, rfl⟩ | ⟨g, cap, cur, rfl, hb, hg, hn, hm, hs, ht⟩
  · exact ⟨none, 0, rfl, h1, Nat.le_refl _, by simp [maxLen], fun h => absurd (List.eq_nil_of_length_eq_zero (by simpa using h1)) h⟩
  · refine ⟨_, cap, rfl, h1, hn, hm, fun _ => ⟨g, 0, rfl, rfl, (Array.getElem?_eq_some_iff.1 hg).1, fun i u hu => ?_⟩⟩
    rw [Nat.zero_add, cell_of_row w g i cur e (0, 0) hg]
    rw [← ht, List.getElem?_take] at hu
    split at hu
    · simpa using hu
    · cases hu
theorem of_blk {b T : Nat} (h : Blk w b cs T) (hl : cs.length = n * sz) (hn : n ≤ maxLen) : Rd (One b) w (.slice (some ⟨b, 0, none⟩) n n) n sz cs :=
  ⟨_, _, rfl, hl, Nat.le_refl _, hn, fun _ => ⟨b, 0, rfl, rfl, h.lt, fun i u hu => by rw [Nat.zero_add]; exact h.cell' hu⟩⟩
theorem len (h : Rd F w v n sz cs) : cs.length = n * sz := by
  obtain ⟨_, _, _, h, _⟩ := h; exact h
theorem val (h : Rd F w v n sz cs) : ∃ a cap, v = .slice a n cap ∧ n ≤ cap ∧ cap ≤ 9223372036854775807 := by
  obtain ⟨a, cap, h, _, h3, h4, _⟩ := h; exact ⟨a, cap, h, h3, by simpa [maxLen] using h4⟩
/-- The slice's value written out, where something is in it. -/
theorem open_ (h : Rd F w v n sz cs) (hne : 0 < n * sz) :
    ∃ b off cap, v = .slice (some ⟨b, off, none⟩) n cap ∧ n ≤ cap ∧ cap ≤ 9223372036854775807 ∧ F b ∧ b < w.heap.size ∧ ∀ i u, cs[i]? = some u → w.cell? ⟨b, off + i, none⟩ = some u := by
  obtain ⟨a, cap, h1, h2, h3, h4, h5⟩ := h
  obtain ⟨b, off, g1, g2, g4, g5⟩ := h5 (by intro e; rw [e] at h2; simp at h2; omega)
  subst g1
  exact ⟨b, off, cap, h1, h3, by simpa [maxLen] using h4, g2, g4, g5⟩
theorem at1 {a : Option Addr} {cap : Nat} (h : Rd F w (.slice a n cap) n 1 cs) {k : Nat} (hk : k < n) :
    ∃ b off, a = some ⟨b, off, none⟩ ∧ F b ∧ b < w.heap.size ∧ w.cell? ⟨b, off + k, none⟩ = cs[k]? := by
  obtain ⟨a', cap', h1, h2, h3, h4, h5⟩ := h
  cases h1
  have hlt : k < cs.length := by omega
  obtain ⟨b, off, g1, g2, g4, g5⟩ := h5 (by intro e; rw [e] at hlt; simp at hlt)
  exact ⟨b, off, g1, g2, g4, by rw [List.getElem?_eq_getElem hlt]; exact g5 k _ (List.getElem?_eq_getElem hlt)⟩
end Rd

/-- An element of a list, as a word that no simp opens. -/
def nth {α : Type} [Inhabited α] (l : List α) (k : Nat) : α := l.getD k default
theorem nth_eq {α : Type} [Inhabited α] {l : List α} {k : Nat} (h : k < l.length) : nth l k = l[k] := by simp [nth, List.getD, h]
theorem nth_some {α : Type} [Inhabited α] {l : List α} {k : Nat} (h : k < l.length) : l[k]? = some (nth l k) := by rw [nth_eq h]; exact List.getElem?_eq_getElem h
theorem take_nth {α : Type} [Inhabited α] {l : List α} {k : Nat} (h : k < l.length) : l.take (k + 1) = l.take k ++ [nth l k] := by
  rw [List.take_succ_eq_append_getElem h, nth_eq h]
theorem drop_nth {α : Type} [Inhabited α] {l : List α} {k : Nat} (h : k < l.length) : l.drop k = nth l k :: l.drop (k + 1) := by
  rw [nth_eq h]; exact List.drop_eq_getElem_cons h

/-! ### Slices of numbers -/
def int (x : Int) : Value := .int .i64 x
def byt (x : Nat) : Value := .int .u8 x
/-- A slice of whole numbers, of bytes. -/
def RdI (F : Nat → Prop) (w : World) (v : Value) (l : List Int) : Prop := Rd F w v l.length 1 (l.map int)
def RdB (F : Nat → Prop) (w : World) (v : Value) (l : List Nat) : Prop := Rd F w v l.length 1 (l.map byt) ∧ ∀ x ∈ l, x < 256

section
variable {S F G : Nat → Prop} {w w' : World} {v : Value} {k : Nat}
theorem RdB.ext {l : List Nat} (h : RdB F w v l) (hx : Ext S w w') (hS : ∀ x, F x → ¬ S x) : RdB F w' v l := ⟨h.1.ext hx hS, h.2⟩
theorem RdB.extNo {l : List Nat} (h : RdB F w v l) (hx : Ext No w w') : RdB F w' v l := ⟨h.1.extNo hx, h.2⟩
theorem RdB.extOne {l : List Nat} (h : RdB F w v l) (hx : Ext (One k) w w') (hk : ¬ F k) : RdB F w' v l := ⟨h.1.extOne hx hk, h.2⟩
theorem RdB.mono {l : List Nat} (h : RdB F w v l) (hG : ∀ x, F x → x < w.heap.size → G x) : RdB G w v l := ⟨h.1.mono hG, h.2⟩
theorem RdI.ext {l : List Int} (h : RdI F w v l) (hx : Ext S w w') (hS : ∀ x, F x → ¬ S x) : RdI F w' v l := Rd.ext h hx hS
theorem RdI.extNo {l : List Int} (h : RdI F w v l) (hx : Ext No w w') : RdI F w' v l := Rd.extNo h hx
theorem RdI.extOne {l : List Int} (h : RdI F w v l) (hx : Ext (One k) w w') (hk : ¬ F k) : RdI F w' v l := Rd.extOne h hx hk
theorem RdI.mono {l : List Int} (h : RdI F w v l) (hG : ∀ x, F x → x < w.heap.size → G x) : RdI G w v l := Rd.mono h hG
theorem Ext.set1 (w : World) (b i : Nat) (v : Value) : Ext (One b) w (w.setCell ⟨b, i, none⟩ v) := (Ext.refl _ _).setCell _ _ (.inr rfl)
theorem RdB.cell {x : Nat} {l : List Nat} (h : RdB F w v (x :: l)) :
    ∃ b off cap, v = .slice (some ⟨b, off, none⟩) (l.length + 1) cap ∧ l.length + 1 ≤ cap ∧ cap ≤ 9223372036854775807 ∧ F b ∧ w.cell? ⟨b, off, none⟩ = some (.int .u8 x) ∧ x < 256 := by
  obtain ⟨b, off, cap, h1, h2, h3, h4, h6, h7⟩ := h.1.open_ (by simp)
  exact ⟨b, off, cap, h1, h2, h3, h4, by simpa [byt] using h7 0 (byt x) rfl, h.2 x (by simp)⟩
theorem RdB.tail {x : Nat} {l : List Nat} {b off cap : Nat} (h : RdB F w (.slice (some ⟨b, off, none⟩) (l.length + 1) cap) (x :: l)) :
    RdB F w (.slice (if cap = 1 then some ⟨b, off, none⟩ else some ⟨b, off + 1, none⟩) l.length (cap - 1)) l := by
  obtain ⟨b', off', cap', h1, h2, h3, h4, h6, h7⟩ := h.1.open_ (by simp)
  simp only [List.length_cons] at h1 h2
  cases h1
  refine ⟨⟨_, _, rfl, by simp, by omega, by unfold maxLen; omega, fun hne => ?_⟩, fun y hy => h.2 y (by simp [hy])⟩
  have hl : l ≠ [] := by simpa using hne
  have hl2 : 0 < l.length := List.length_pos_iff.2 hl
  have : ¬ cap = 1 := by omega
  simp only [this, if_false]
  refine ⟨b, off + 1, rfl, h4, h6, fun i u hu => ?_⟩
  have := h7 (i + 1) u (by simpa using hu)
  rw [Nat.add_assoc, Nat.add_comm 1 i]; exact this
theorem RdB.cellAt {l : List Nat} (h : RdB F w v l) (hk : k < l.length) :
    ∃ b off cap, v = .slice (some ⟨b, off, none⟩) l.length cap ∧ l.length ≤ cap ∧ cap ≤ 9223372036854775807 ∧ F b ∧ w.cell? ⟨b, off + k, none⟩ = some (.int .u8 (nth l k : Nat)) ∧ nth l k < 256 := by
  obtain ⟨b, off, cap, h1, h2, h3, h4, h6, h7⟩ := h.1.open_ (by omega)
  refine ⟨b, off, cap, h1, h2, h3, h4, ?_, h.2 _ (by rw [nth_eq hk]; exact List.getElem_mem _)⟩
  have := h7 k (byt (nth l k)) (by rw [List.getElem?_map, nth_some hk]; rfl)
  simpa [byt] using this
end

theorem bits_and_i64 (a b : Nat) (ha : a < 4611686018427387904) (hb : b < 4611686018427387904) (hf : a &&& b < 4611686018427387904) :
    Go.bits .and .i64 (a : Int) (b : Int) = ((a &&& b : Nat) : Int) := by
  have h1 : (BitVec.ofInt 64 (a : Int)).toNat = a := by
    rw [BitVec.ofInt_natCast, BitVec.toNat_ofNat]; exact Nat.mod_eq_of_lt (by omega)
  have h2 : (BitVec.ofInt 64 (b : Int)).toNat = b := by
    rw [BitVec.ofInt_natCast, BitVec.toNat_ofNat]; exact Nat.mod_eq_of_lt (by omega)
  show IntKind.i64.wrap ((BitVec.ofInt 64 (a : Int) &&& BitVec.ofInt 64 (b : Int)).toNat : Int) = _
  rw [BitVec.toNat_and, h1, h2, IntKind.wrap_i64]
  omega
theorem bits_or_i64 (a b : Nat) (ha : a < 4611686018427387904) (hb : b < 4611686018427387904) (hf : a ||| b < 4611686018427387904) :
    Go.bits .or .i64 (a : Int) (b : Int) = ((a ||| b : Nat) : Int) := by
  have h1 : (BitVec.ofInt 64 (a : Int)).toNat = a := by
    rw [BitVec.ofInt_natCast, BitVec.toNat_ofNat]; exact Nat.mod_eq_of_lt (by omega)
  have h2 : (BitVec.ofInt 64 (b : Int)).toNat = b := by
    rw [BitVec.ofInt_natCast, BitVec.toNat_ofNat]; exact Nat.mod_eq_of_lt (by omega)
  show IntKind.i64.wrap ((BitVec.ofInt 64 (a : Int) ||| BitVec.ofInt 64 (b : Int)).toNat : Int) = _
  rw [BitVec.toNat_or, h1, h2, IntKind.wrap_i64]
  omega
theorem bits_xor_i64 (a b : Nat) (ha : a < 4611686018427387904) (hb : b < 4611686018427387904) (hf : a ^^^ b < 4611686018427387904) :
    Go.bits .xor .i64 (a : Int) (b : Int) = ((a ^^^ b : Nat) : Int) := by
  have h1 : (BitVec.ofInt 64 (a : Int)).toNat = a := by
    rw [BitVec.ofInt_natCast, BitVec.toNat_ofNat]; exact Nat.mod_eq_of_lt (by omega)
  have h2 : (BitVec.ofInt 64 (b : Int)).toNat = b := by
    rw [BitVec.ofInt_natCast, BitVec.toNat_ofNat]; exact Nat.mod_eq_of_lt (by omega)
  show IntKind.i64.wrap ((BitVec.ofInt 64 (a : Int) ^^^ BitVec.ofInt 64 (b : Int)).toNat : Int) = _
  rw [BitVec.toNat_xor, h1, h2, IntKind.wrap_i64]
  omega

/-- The first of a list of numbers, 0 if there is none. -/
def hd0 (l : List Nat) : Nat := l.headD 0
theorem hd0_lt {l : List Nat} (h : ∀ x ∈ l, x < 256) : hd0 l < 256 := by
  cases l with
  | nil => simp [hd0]
  | cons x l => exact h x (by simp)
theorem or_byte (x y : Nat) (hx : x < 256) (hy : y < 256) : Go.bits .or .i64 ((x : Int) * 256) (y : Int) = ((x * 256 + y : Nat) : Int) := by
  have e : x * 256 ||| y = x * 256 + y := by
    have := Nat.two_pow_add_eq_or_of_lt (i := 8) (show y < 2 ^ 8 by omega) x
    rw [show (2 : Nat) ^ 8 = 256 from rfl, Nat.mul_comm] at this
    exact this.symm
  have := bits_or_i64 (x * 256) y (by omega) (by omega) (by rw [e]; omega)
  rw [e] at this
  rw [← this]; congr 1
/-- A goal that the walk leaves alone. -/
def Stop (p : Prop) : Prop := p
theorem stop_here {p : Prop} (h : Stop p) : p := h
theorem Stop.mk {p : Prop} (h : p) : Stop p := h

theorem ret_eq {a b : Value} (h : a = b) : Ending.returned a = .returned b := by rw [h]
end Go.Proofs.Ytjkknjohmekeiaa
/- The tape in plain Lean: what bytes say as a script; how scripts lie in memory. No condition. -/
namespace Go.Proofs.Ytjkknjohmekeiaa
open Go.RowKit

structure Cl where
  op : Int
  a : Int
  b : Int
  c : Int
  deriving DecidableEq, Inhabited

structure Scr where
  cpus : Int
  pages : Int
  calls : List (List Cl)
  picks : List Int
  deriving DecidableEq, Inhabited

/-- The byte at a place, 0 behind the last. -/
def bt (l : List Nat) (p : Nat) : Nat := hd0 (l.drop p)
def callAt (l : List Nat) (p : Nat) : Cl := ⟨(bt l p : Int) % 14, (bt l (p + 1) : Int), (bt l (p + 2) : Int) * 256 + (bt l (p + 3) : Int), (bt l (p + 4) : Int)⟩
def listAt (l : List Nat) (p k : Nat) : List Cl := (List.range k).map fun i => callAt l (p + 5 * i)
/-- Where the i-th list begins. -/
def posL (l : List Nat) : Nat → Nat
  | 0 => 3
  | i + 1 => posL l i + 1 + 5 * (bt l (posL l i) % 65)
def listOf (l : List Nat) (i : Nat) : List Cl := listAt l (posL l i + 1) (bt l (posL l i) % 65)
def cpusOf (l : List Nat) : Nat := 1 + bt l 0 % 8
def pagesOf (l : List Nat) : Nat := 1 + (bt l 1 * 256 + bt l 2) % 1024
def listsTo (l : List Nat) (k : Nat) : List (List Cl) := (List.range k).map (listOf l)
def restOf (l : List Nat) : List Nat := l.drop (posL l (cpusOf l))
def script (l : List Nat) : Scr := ⟨cpusOf l, pagesOf l, listsTo l (cpusOf l), ((restOf l).take 4096).map fun (x : Nat) => (x : Int)⟩

theorem listAt_succ (l : List Nat) (p k : Nat) : listAt l p (k + 1) = listAt l p k ++ [callAt l (p + 5 * k)] := by simp [listAt, List.range_succ]
theorem listsTo_succ (l : List Nat) (k : Nat) : listsTo l (k + 1) = listsTo l k ++ [listOf l k] := by simp [listsTo, List.range_succ]
theorem drop_tail (l : List Nat) (p : Nat) : (l.drop p).tail = l.drop (p + 1) := by simp

theorem bt_nth {l : List Nat} {k : Nat} (h : k < l.length) : bt l k = nth l k := by unfold bt; rw [drop_nth h]; rfl

/-! ### In memory -/
def clCells (c : Cl) : List Value := [.int .i64 c.op, .int .i64 c.a, .int .i64 c.b, .int .i64 c.c]
def clsCells (l : List Cl) : List Value := l.flatMap clCells
theorem clsCells_snoc (l : List Cl) (c : Cl) : clsCells (l ++ [c]) = clsCells l ++ clCells c := by simp [clsCells]
theorem clsCells_len (l : List Cl) : (clsCells l).length = l.length * 4 := by
  induction l with
  | nil => rfl
  | cons c l ih => simp [clsCells, clCells] at *; omega
theorem flat_at {α : Type} (f : α → List Value) (m : Nat) (hf : ∀ x, (f x).length = m) (l : List α) (k i : Nat) (hk : k < l.length) (hi : i < m) : (l.flatMap f)[k * m + i]? = (f l[k])[i]? := by
  induction l generalizing k with
  | nil => simp at hk
  | cons x l ih =>
    cases k with
    | zero => simp only [List.flatMap_cons, Nat.zero_mul, Nat.zero_add]; rw [List.getElem?_append_left (by rw [hf]; omega)]; rfl
    | succ k =>
      simp only [List.flatMap_cons]
      rw [List.getElem?_append_right (by rw [hf, Nat.succ_mul]; omega), hf, show (k + 1) * m + i - m = k * m + i from by rw [Nat.succ_mul]; omega]
      rw [ih k (by simpa using hk)]; simp
theorem clsCells_at {l : List Cl} {k i : Nat} (hk : k < l.length) (hi : i < 4) : (clsCells l)[k * 4 + i]? = (clCells (nth l k))[i]? := by
  rw [nth_eq hk]; exact flat_at clCells 4 (fun _ => rfl) l k i hk hi

/-- A slice of calls. -/
def RdC (F : Nat → Prop) (w : World) (v : Value) (l : List Cl) : Prop := Rd F w v l.length 4 (clsCells l)
/-- A slice of slices of calls. -/
def RdCC (F G : Nat → Prop) (w : World) (v : Value) (ll : List (List Cl)) : Prop :=
  ∃ vs : List Value, vs.length = ll.length ∧ Rd F w v ll.length 1 vs ∧ ∀ i, i < ll.length → RdC G w (nth vs i) (nth ll i)
/-- A script. -/
def RdS (F : Nat → Prop) (w : World) (v : Value) (s : Scr) : Prop :=
  ∃ vc vp, v = .agg #[.int .i64 s.cpus, .int .i64 s.pages, vc, vp] ∧ RdCC F F w vc s.calls ∧ RdI F w vp s.picks

section
variable {S F G F' G' : Nat → Prop} {w w' : World} {v : Value}
theorem RdC.ext {l : List Cl} (h : RdC F w v l) (hx : Ext S w w') (hS : ∀ x, F x → ¬ S x) : RdC F w' v l := Rd.ext h hx hS
theorem RdC.mono {l : List Cl} (h : RdC F w v l) (hG : ∀ x, F x → x < w.heap.size → G x) : RdC G w v l := Rd.mono h hG
theorem RdCC.ext {ll : List (List Cl)} (h : RdCC F G w v ll) (hx : Ext S w w') (hF : ∀ x, F x → ¬ S x) (hG : ∀ x, G x → ¬ S x) : RdCC F G w' v ll := by
  obtain ⟨vs, h1, h2, h3⟩ := h
  exact ⟨vs, h1, h2.ext hx hF, fun i hi => (h3 i hi).ext hx hG⟩
theorem RdCC.mono {ll : List (List Cl)} (h : RdCC F G w v ll) (hF : ∀ x, F x → x < w.heap.size → F' x) (hG : ∀ x, G x → x < w.heap.size → G' x) : RdCC F' G' w v ll := by
  obtain ⟨vs, h1, h2, h3⟩ := h
  exact ⟨vs, h1, h2.mono hF, fun i hi => (h3 i hi).mono hG⟩
theorem RdS.ext {s : Scr} (h : RdS F w v s) (hx : Ext S w w') (hF : ∀ x, F x → ¬ S x) : RdS F w' v s := by
  obtain ⟨vc, vp, h1, h2, h3⟩ := h
  exact ⟨vc, vp, h1, h2.ext hx hF hF, h3.ext hx hF⟩
theorem RdS.mono {s : Scr} (h : RdS F w v s) (hF : ∀ x, F x → x < w.heap.size → F' x) : RdS F' w v s := by
  obtain ⟨vc, vp, h1, h2, h3⟩ := h
  exact ⟨vc, vp, h1, h2.mono hF hF, h3.mono hF⟩
end
/-- A script whose picks may be written. -/
def RdSo (F : Nat → Prop) (w : World) (v : Value) (s : Scr) : Prop :=
  ∃ vc vp, v = .agg #[.int .i64 s.cpus, .int .i64 s.pages, vc, vp] ∧ RdCC F F w vc s.calls ∧ RdI F w vp s.picks ∧ w.ownsRow 0 3 1 vp s.picks.length (s.picks.map int) ∧ ∀ x, OwnOf vp x → F x
theorem ownsRow_ext' {S : Nat → Prop} {w w' : World} {base e size n : Nat} {v : Value} {xs : List Value} (h : w.ownsRow base e size v n xs) (hx : Ext S w w') (hS : ∀ k, v.ownBlock = some k → ¬ S k) : w'.ownsRow base e size v n xs := by
  refine ⟨h.1, ?_⟩
  rcases h.2 with hn | ⟨g, cap, cur, rfl, hb, hgg, rest⟩
  · exact .inl hn
  · refine .inr ⟨g, cap, cur, rfl, hb, ?_, rest⟩
    rw [hx.block g (Array.getElem?_eq_some_iff.1 hgg).1 (hS g rfl)]
    exact hgg
theorem ownsRow_base {w : World} {base base' e size n : Nat} {v : Value} {xs : List Value} (h : w.ownsRow base e size v n xs) (hb : base' ≤ base) : w.ownsRow base' e size v n xs := by
  refine ⟨h.1, ?_⟩
  rcases h.2 with hn | ⟨g, cap, cur, e1, e2, rest⟩
  · exact .inl hn
  · exact .inr ⟨g, cap, cur, e1, by omega, rest⟩
section
variable {S F F' : Nat → Prop} {w w' : World} {v : Value} {s : Scr}
theorem RdSo.rd (h : RdSo F w v s) : RdS F w v s := by
  obtain ⟨vc, vp, h1, h2, h3, _⟩ := h
  exact ⟨vc, vp, h1, h2, h3⟩
theorem RdSo.ext (h : RdSo F w v s) (hx : Ext S w w') (hF : ∀ x, F x → ¬ S x) : RdSo F w' v s := by
  obtain ⟨vc, vp, h1, h2, h3, h4, h5⟩ := h
  exact ⟨vc, vp, h1, h2.ext hx hF hF, h3.ext hx hF, ownsRow_ext' h4 hx (fun k hk => hF k (h5 k hk)), h5⟩
theorem RdSo.mono (h : RdSo F w v s) (hF : ∀ x, F x → x < w.heap.size → F' x) : RdSo F' w v s := by
  obtain ⟨vc, vp, h1, h2, h3, h4, h5⟩ := h
  exact ⟨vc, vp, h1, h2.mono hF hF, h3.mono hF, h4, fun x hx => hF x (h5 x hx) (h4.lt x hx).2⟩
end
theorem nth_append_left {α : Type} [Inhabited α] {l m : List α} {i : Nat} (h : i < l.length) : nth (l ++ m) i = nth l i := by
  rw [nth_eq (by simp; omega), nth_eq h, List.getElem_append_left h]
theorem nth_snoc {α : Type} [Inhabited α] {l : List α} {x : α} : nth (l ++ [x]) l.length = x := by
  rw [nth_eq (by simp)]; simp
end Go.Proofs.Ytjkknjohmekeiaa
/- append, over this program's element types, in this seat's words. No condition. -/
namespace Go.Proofs.Ytjkknjohmekeiaa
open Go.RowKit

/-- t is the type of slices of e, whose elements take so many cells and bytes. -/
structure SlTy (t e size bytes : Nat) : Prop where
  under : Try.prog.underlying t = some (.slice e)
  info : ∃ i z, Try.prog.info? e = some i ∧ i.zero = some z ∧ i.size = size ∧ i.bytes = bytes ∧ z.cells.size = size
  pos : 0 < size

theorem SlTy.mk' {t e size bytes : Nat} {z : Value} (h : (Try.prog.info? e).map (fun i => (i.zero, i.size, i.bytes)) = some (some z, size, bytes)) (hu : Try.prog.underlying t = some (.slice e)) (hz : z.cells.size = size) (hp : 0 < size) : SlTy t e size bytes := by
  obtain ⟨i, h1, h2, h3, h4⟩ := info_parts h
  exact ⟨hu, ⟨i, z, h1, h2, h3, h4, hz⟩, hp⟩

section
variable {t e size bytes base : Nat} {w : World} {v xv : Value} {n m : Nat} {xs news : List Value} {F : Nat → Prop}

theorem ownsRow_val (h : w.ownsRow base e size v n xs) : ∃ a cap, v = .slice a n cap ∧ n ≤ cap := by
  obtain ⟨_, ⟨rfl, rfl⟩ | ⟨g, cap, cur, rfl, _, _, hc, _⟩⟩ := h
  · exact ⟨none, 0, rfl, Nat.le_refl _⟩
  · exact ⟨_, cap, rfl, hc⟩

/-- append of what is read to what is owned: the run. -/
theorem app_run (T : SlTy t e size bytes) (ty : TypeId) (hown : w.ownsRow base e size v n xs) (hx : Rd F w xv m size news) (h1 : ∀ u ∈ news, u.oneCell' = true)
    (hbytes : (n + m) * bytes ≤ 140737488355328) (h63 : n + m ≤ maxLen) (hbase : base ≤ w.heap.size) :
    ∃ v' w', (Builtin.append_ #[t, t] ty #[v, xv]).run Try.prog w = .ok v' w' ∧ w'.ownsRow base e size v' (n + m) (xs ++ news) ∧ Ext (OwnOf v) w w' ∧ (v' = .slice none 0 0 ↔ v = .slice none 0 0 ∧ m = 0) ∧ (∀ x, OwnOf v' x → OwnOf v x ∨ w.heap.size ≤ x) := by
  obtain ⟨i, z, hi, hz, hs, hb, hzs⟩ := T.info
  have hlen := hx.len
  obtain ⟨a, cap, rfl, h3, h4, h5, h6⟩ := hx
  cases a with
  | none =>
    have hm : m = 0 := by
      rcases Nat.eq_zero_or_pos m with h | h
      · exact h
      · exfalso
        have hne : news ≠ [] := by intro e; rw [e] at hlen; simp only [List.length_nil] at hlen; have := Nat.mul_pos h T.pos; omega
        obtain ⟨b, off, h, _⟩ := h6 hne
        cases h
    subst hm
    have hn : news = [] := List.eq_nil_of_length_eq_zero (by simpa using hlen)
    subst hn
    obtain ⟨a', cap', rfl, hc⟩ := ownsRow_val hown
    refine ⟨.slice a' n cap', w, ?_, by simpa using hown, Ext.refl _ _, by simp, fun x hx => .inl hx⟩
    subst hs
    cases a' <;> simp [Builtin.append_, run_underlying T.under, sizeOf, typeInfo, hi, Builtin.lenOf, hc, Builtin.firstCells, storeCells]
  | some ad =>
    have hn' : ∀ j u, news[j]? = some u → w.cell? (ad.add j) = some u := by
      intro j u hu
      have hne : news ≠ [] := by rintro rfl; simp at hu
      obtain ⟨b, off, h, _, _, hc⟩ := h6 hne
      cases h
      have : (⟨b, off, none⟩ : Addr).add j = ⟨b, off + j, none⟩ := by unfold Addr.add; split <;> simp_all
      rw [this]; exact hc j u hu
    obtain ⟨v', w', h1', h2', h3', h4'⟩ := run_append_own (P := Try.prog) w base t ty e i z size bytes T.under hi hz hs hb hzs T.pos v n xs hown ad m cap news hlen hn' h1 h63 hbytes hbase
    refine ⟨v', w', h1', h2', Ext.of_grownBy h3', h4', ?_⟩
    subst hs hb
    obtain ⟨hxl, ⟨rfl, rfl⟩ | ⟨g, c, cur, rfl, hbg, hg, hnc, hcm, hcs, htake⟩⟩ := id hown
    · rcases Nat.eq_zero_or_pos m with rfl | hm
      · have hn0 : news = [] := List.eq_nil_of_length_eq_zero (by simpa using hlen)
        subst hn0
        have : v' = .slice none 0 0 := h4'.2 ⟨rfl, rfl⟩
        subst this
        exact fun x hx => .inl hx
      · have hr := run_append_nil (P := Try.prog) w t ty e i z T.under hi hz ad m cap news hlen hn' hm (by simp only [maxLen] at h63; omega) (by simp only [Nat.zero_add] at hbytes; omega)
        rw [hr] at h1'
        cases h1'
        exact fun x hx => .inr (by simp only [OwnOf, Value.ownBlock, Option.some.injEq] at hx; omega)
    · by_cases hroom : n + m ≤ c
      · have hfit : n * i.size + news.length ≤ cur.size := by rw [hlen, hcs, ← Nat.add_mul]; exact Nat.mul_le_mul_right _ hroom
        have hr := run_append_room (P := Try.prog) w t ty e i T.under hi g n c cur hg ad m cap news hlen hn' h1 hroom hfit
        rw [hr] at h1'
        cases h1'
        exact fun x hx => .inl hx
      · have holds : ∀ j u, xs[j]? = some u → w.cell? ((⟨g, 0, none⟩ : Addr).add j) = some u := hown.cells (g := g) rfl
        have hr := run_append_grow (P := Try.prog) w t ty e i z T.under hi hz ⟨g, 0, none⟩ n c xs hown.1 holds ad m cap news hlen hn' (by omega) (by simp only [maxLen] at h63; omega) (growslice_fits (by omega) hbytes)
        rw [hr] at h1'
        cases h1'
        exact fun x hx => .inr (by simp only [OwnOf, Value.ownBlock, Option.some.injEq] at hx; omega)

/-- append of what is read to what is owned: the walk's step. -/
theorem wpList_app (T : SlTy t e size bytes) {ops : Array Oper} {rest : List Oper} {o : Oper} {a : Act} {Q : Exit → Act → World → Prop} (hgd : o.guard = none) (s x : Operand)
    (ho : o.op = .call { callee := .builtin .append, args := #[s, x], argTypes := #[t, t] })
    (hs : a.eval s = v) (hown : w.ownsRow base e size v n xs) (hx : a.eval x = xv) (hrd : Rd F w xv m size news) (h1 : ∀ u ∈ news, u.oneCell' = true)
    (hbytes : (n + m) * bytes ≤ 140737488355328) (h63 : n + m ≤ maxLen) (hbase : base ≤ w.heap.size)
    (h : ∀ v' w', w'.ownsRow base e size v' (n + m) (xs ++ news) → Ext (OwnOf v) w w' → (v' = .slice none 0 0 ↔ v = .slice none 0 0 ∧ m = 0) → (∀ x, OwnOf v' x → OwnOf v x ∨ w.heap.size ≤ x) → wpList Try.prog ops Q rest (a.put o.dst v') w') :
    wpList Try.prog ops Q (o :: rest) a w :=
  wpList_plain hgd fun _ hK => by
    obtain ⟨v', w', hr, h2, h3, h4, h5⟩ := app_run T o.type hown hrd h1 hbytes h63 hbase
    unfold Oper.wp execOp
    simp only [ho, resolve, invoke, builtin, Sem.run_bind, Sem.run_pure, Result.andThen_ok, List.map_toArray, List.map_cons, List.map_nil, hs, hx, hr]
    exact hK _ _ (h v' w' h2 h3 h4 h5)

/-- The same as one step of a region that draws its order. -/
theorem held_app (T : SlTy t e size bytes) {ops : Array Oper} {o : Oper} {a : Act} {K : Act → World → Prop} {Q : Exit → Act → World → Prop} {E : Prop} (hgd : o.guard = none) (s x : Operand)
    (ho : o.op = .call { callee := .builtin .append, args := #[s, x], argTypes := #[t, t] })
    (hs : a.eval s = v) (hown : w.ownsRow base e size v n xs) (hx : a.eval x = xv) (hrd : Rd F w xv m size news) (h1 : ∀ u ∈ news, u.oneCell' = true)
    (hbytes : (n + m) * bytes ≤ 140737488355328) (h63 : n + m ≤ maxLen) (hbase : base ≤ w.heap.size)
    (h : ∀ v' w', w'.ownsRow base e size v' (n + m) (xs ++ news) → Ext (OwnOf v) w w' → (v' = .slice none 0 0 ↔ v = .slice none 0 0 ∧ m = 0) → (∀ x, OwnOf v' x → OwnOf v x ∨ w.heap.size ≤ x) → K (a.put o.dst v') w') :
    if Region.wanted o (yielded ops a.tmps) = true then Oper.wp Try.prog o a w K Q else E := by
  have hw : Region.wanted o (yielded ops a.tmps) = true := by simp [Region.wanted, hgd]
  rw [if_pos hw]
  obtain ⟨v', w', hr, h2, h3, h4, h5⟩ := app_run T o.type hown hrd h1 hbytes h63 hbase
  unfold Oper.wp execOp
  simp only [ho, resolve, invoke, builtin, Sem.run_bind, Sem.run_pure, Result.andThen_ok, List.map_toArray, List.map_cons, List.map_nil, hs, hx, hr]
  exact h v' w' h2 h3 h4 h5

/-- Owned rows over worlds that extend. -/
theorem ownsRow_ext {S : Nat → Prop} {w w' : World} {base e size n : Nat} {v : Value} {xs : List Value} (h : w.ownsRow base e size v n xs) (hx : Ext S w w') (hS : ∀ k, v.ownBlock = some k → ¬ S k) : w'.ownsRow base e size v n xs := by
  refine ⟨h.1, ?_⟩
  rcases h.2 with hn | ⟨g, cap, cur, rfl, hb, hgg, rest⟩
  · exact .inl hn
  · refine .inr ⟨g, cap, cur, rfl, hb, ?_, rest⟩
    rw [hx.block g (Array.getElem?_eq_some_iff.1 hgg).1 (hS g rfl)]
    exact hgg
end
/-- An owned row of one-cell elements: the cell at a place; what a store there leaves. -/
theorem own_at {w : World} {base e n k : Nat} {v : Value} {xs : List Value} (h : w.ownsRow base e 1 v n xs) (hk : k < n) :
    ∃ b cap, v = .slice (some ⟨b, 0, none⟩) n cap ∧ n ≤ cap ∧ cap ≤ 9223372036854775807 ∧ OwnOf v b ∧ b < w.heap.size ∧ w.cell? ⟨b, k, none⟩ = some (nth xs k) ∧ w.frozen? ⟨b, k, none⟩ = false ∧
      ∀ u, (w.setCell ⟨b, k, none⟩ u).ownsRow base e 1 v n (xs.set k u) := by
  obtain ⟨hl, ⟨rfl, rfl⟩ | ⟨g, cap, cur, rfl, hb, hg, hn, hm, hs, ht⟩⟩ := h
  · omega
  · simp only [Nat.mul_one] at hl hs ht
    refine ⟨g, cap, rfl, hn, by simpa [maxLen] using hm, rfl, (Array.getElem?_eq_some_iff.1 hg).1, ?_, by simp [World.frozen?, hg], fun u => ⟨by simp [hl], .inr ⟨g, cap, cur.setIfInBounds k u, rfl, hb, ?_, hn, hm, by simp [hs], ?_⟩⟩⟩
    · rw [cell_of_row w g k cur e (0, 0) hg]
      have h1 : xs[k]? = some (nth xs k) := nth_some (by omega)
      rw [← h1, ← ht, List.getElem?_take, if_pos hk]; simp
    · simp only [World.setCell, Array.getElem?_modify, hg]; simp
    · simp only [Nat.mul_one, Array.toList_setIfInBounds]
      rw [← ht, List.take_set]
/-- t is the type of slices of e, whose zero is size cells z0. -/
structure MkTy (t e size bytes : Nat) (z0 : Value) : Prop where
  under : Try.prog.underlying t = some (.slice e)
  info : ∃ i z, Try.prog.info? e = some i ∧ i.zero = some z ∧ i.size = size ∧ i.bytes = bytes ∧ z.cells = (List.replicate size z0).toArray
  pos : 0 < size
theorem MkTy.mk' {t e size bytes : Nat} {z z0 : Value} (h : (Try.prog.info? e).map (fun i => (i.zero, i.size, i.bytes)) = some (some z, size, bytes)) (hu : Try.prog.underlying t = some (.slice e)) (hz : z.cells = (List.replicate size z0).toArray) (hp : 0 < size) : MkTy t e size bytes z0 := by
  obtain ⟨i, h1, h2, h3, h4⟩ := info_parts h
  exact ⟨hu, ⟨i, z, h1, h2, h3, h4, hz⟩, hp⟩
theorem madeCells_rep (size : Nat) (hp : 0 < size) (z0 : Value) (n : Nat) : madeCells (List.replicate size z0).toArray n = (List.replicate n z0).toArray := by
  apply Array.ext
  · simp [madeCells]
  · intro i h1 h2
    simp only [madeCells, Array.getElem_map, Array.getElem_range, List.size_toArray, List.length_replicate]
    have : i % size < size := Nat.mod_lt _ hp
    simp [this]
/-- make of n elements: the run. -/
theorem mk_run {t e size bytes : Nat} {z0 : Value} (T : MkTy t e size bytes z0) (n : Nat) (hb : bytes * n ≤ 281474976710656) (h63 : n ≤ 9223372036854775807) (w : World) :
    (Instr.makeSlice t (.int .i64 (n : Int)) (.int .i64 (n : Int))).run Try.prog w = .ok (.slice (some ⟨w.heap.size, 0, none⟩) n n) (w.alloc (.cells (List.replicate (n * size) z0).toArray e)) := by
  obtain ⟨i, z, hi, hz, hs, hb', hzc⟩ := T.info
  have := run_make (P := Try.prog) w t e i z T.under hi hz .i64 .i64 (n : Int) (n : Int) (by omega) (by omega) (by rw [hb', ← Int.natCast_mul]; omega) (by omega)
  rw [this, hzc, hs, madeCells_rep size T.pos]
  simp
theorem mk_rows : MkTy 24 42 1 24 (.slice none 0 0) := .mk' (z := .slice none 0 0) (by kernel_rfl) Try.underlying24 rfl (by decide)
theorem ty_int : SlTy 25 3 1 8 := .mk' (z := .int .i64 0) (by kernel_rfl) Try.underlying25 rfl (by decide)
theorem ty_byte : SlTy 22 5 1 1 := .mk' (z := .int .u8 0) (by kernel_rfl) Try.underlying22 rfl (by decide)
theorem ty_call : SlTy 42 44 4 32 := .mk' (z := .agg #[.int .i64 0, .int .i64 0, .int .i64 0, .int .i64 0]) (by kernel_rfl) Try.underlying42 rfl (by decide)
theorem ty_rows : SlTy 24 42 1 24 := .mk' (z := .slice none 0 0) (by kernel_rfl) Try.underlying24 rfl (by decide)
end Go.Proofs.Ytjkknjohmekeiaa
/- A region that draws its order, walked by hand: what yields the same in every world of a class C, as long as operation z has not come up, is taken first. No condition. -/
namespace Go.Proofs.Ytjkknjohmekeiaa
open Go.RowKit

section
variable {P : Program} {ops : Array Oper} {Q : Exit → Act → World → Prop} {md : Region.Mode} {z : Nat} {C : World → Prop}

/-- Whatever order is picked from here on; behind each operation but z the world is of the class. -/
def AnyZ (P : Program) (md : Region.Mode) (ops : Array Oper) (Q : Exit → Act → World → Prop) (z : Nat) (C : World → Prop) : Nat → Array Bool → Act → World → Prop
  | 0, listed, a, w => Region.ready md ops listed = [] ∧ Q .normal a w
  | fuel + 1, listed, a, w =>
    (Region.ready md ops listed = [] → Q .normal a w) ∧
    ∀ i ∈ Region.ready md ops listed, wpOp P ops Q i (fun a' w' => (i ≠ z → C w') ∧ AnyZ P md ops Q z C fuel (listed.setIfInBounds i true) a' w') a w

theorem wpAny_of_anyZ : ∀ (fuel : Nat) (listed : Array Bool) (a : Act) (w : World), AnyZ P md ops Q z C fuel listed a w → wpAny P md ops Q fuel listed a w
  | 0, _, _, _, h => h
  | fuel + 1, _, _, _, h => ⟨h.1, fun i hi => wpOp_mono (fun a' w' h' => wpAny_of_anyZ fuel _ a' w' h'.2) (h.2 i hi)⟩

/-- Who is listed has all listed that it waits for. -/
def Closed (md : Region.Mode) (ops : Array Oper) (listed : Array Bool) : Prop :=
  ∀ (j : Nat) (oj : Oper), ops[j]? = some oj → listed.getD j false = true → ∀ e ∈ oj.after, Region.binds md e = true → listed.getD e.on false = true

/-- z waits for i, directly or through others. -/
def waits (md : Region.Mode) (ops : Array Oper) (i : Nat) : Nat → Nat → Bool
  | 0, _ => false
  | n + 1, z => match ops[z]? with
    | none => false
    | some oz => oz.after.any fun e => Region.binds md e && (e.on == i || waits md ops i n e.on)

theorem waits_listed {listed : Array Bool} (hc : Closed md ops listed) (i : Nat) : ∀ (n z : Nat), waits md ops i n z = true →
    (∀ oz, ops[z]? = some oz → ∀ e ∈ oz.after, Region.binds md e = true → listed.getD e.on false = true) → listed.getD i false = true
  | 0, _, h, _ => by simp [waits] at h
  | n + 1, z, h, hd => by
    simp only [waits] at h
    split at h
    · cases h
    · rename_i oz hoz
      simp only [Array.any_eq_true, Bool.and_eq_true, Bool.or_eq_true, beq_iff_eq] at h
      obtain ⟨k, hk, h1, h2⟩ := h
      have hl := hd oz hoz _ (Array.getElem_mem hk) h1
      rcases h2 with h2 | h2
      · rw [← h2]; exact hl
      · exact waits_listed hc i n _ h2 (fun o ho e he hb => hc _ o ho hl e he hb)

theorem getD_up {listed : Array Bool} {j x : Nat} (h : listed.getD x false = true) : (listed.setIfInBounds j true).getD x false = true := by
  rw [Array.getD_eq_getD_getElem?] at *
  rw [Array.getElem?_setIfInBounds]
  split
  · rename_i e; subst e
    split
    · rfl
    · rename_i hs; rw [Array.getElem?_eq_none (by omega)] at h; exact h
  · exact h

theorem Closed.set {listed : Array Bool} (hc : Closed md ops listed) {j : Nat} (hj : j ∈ Region.ready md ops listed) : Closed md ops (listed.setIfInBounds j true) := by
  obtain ⟨hjun, oj, hoj, hall⟩ := mem_ready.1 hj
  intro k ok hk hlk e he hb
  by_cases hjk : j = k
  · subst hjk
    rw [hoj] at hk; cases hk
    exact getD_up (hall e he hb)
  · have : listed.getD k false = true := by
      rw [Array.getD_eq_getD_getElem?] at *
      rw [Array.getElem?_setIfInBounds, if_neg hjk] at hlk
      exact hlk
    exact getD_up (hc k ok hk this e he hb)

theorem anyZ_first {i : Nat} {oi : Oper} {v : Value} (hi : ops[i]? = some oi) (hsel : ∀ (j : Nat) (o : Oper) cs b, ops[j]? = some o → o.op ≠ .select cs b)
    (hQ : ∀ c a w, Q (.panic c) (a.put oi.dst v) w → Q (.panic c) a w) (hiz : i ≠ z) (N : Nat) (hz : ops[z]? = none ∨ waits md ops i N z = true) :
    ∀ (fuel : Nat) (listed : Array Bool) (a : Act) (w : World), Closed md ops listed →
      (∀ j oj, ops[j]? = some oj → j ≠ i → listed.getD j true = false → (∀ e ∈ oj.after, Region.binds md e = true → e.on ≠ i) → oi.apart ops oj = true) →
      i ∈ Region.ready md ops listed → YieldsIf P ops C oi v a → C w →
      AnyZ P md ops Q z C fuel (listed.setIfInBounds i true) (a.put oi.dst v) w → AnyZ P md ops Q z C (fuel + 1) listed a w := by
  intro fuel
  induction fuel with
  | zero =>
    intro listed a w _ _ hr hy hS H
    refine ⟨fun h => (by rw [h] at hr; cases hr), fun j hj => ?_⟩
    by_cases hji : j = i
    · subst hji; exact hy.wpOp hi hS ⟨fun _ => hS, H⟩
    · have := ready_mono hj hji
      rw [H.1] at this
      cases this
  | succ fuel ih =>
    intro listed a w hcl hfree hr hy hS H
    refine ⟨fun h => (by rw [h] at hr; cases hr), fun j hj => ?_⟩
    by_cases hji : j = i
    · subst hji; exact hy.wpOp hi hS ⟨fun _ => hS, H⟩
    · have h1 := H.2 j (ready_mono hj hji)
      obtain ⟨hjun, oj, hoj, hall⟩ := mem_ready.1 hj
      have hnot : ∀ e ∈ oj.after, Region.binds md e = true → e.on ≠ i := fun e he hb heq => by
        have h1 := hall e he hb
        have h0 := (mem_ready.1 hr).1
        rw [heq] at h1
        rcases Nat.lt_or_ge i listed.size with h' | h'
        · simp [h'] at h0 h1; rw [h0] at h1; cases h1
        · simp [Array.getElem?_eq_none h'] at h1
      have hjz : j ≠ z := fun e => by
        subst e
        rcases hz with hz | hz
        · rw [hoj] at hz; cases hz
        · have h1 := waits_listed hcl i N j hz (fun o ho e he hb => by rw [hoj] at ho; cases ho; exact hall e he hb)
          have h0 := (mem_ready.1 hr).1
          rcases Nat.lt_or_ge i listed.size with h' | h'
          · simp [h'] at h0 h1; rw [h0] at h1; cases h1
          · simp [Array.getElem?_eq_none h'] at h1
      have h2 := wpOp_putIf hoj (hfree j oj hoj hji hjun hnot) (fun cs b => hsel i oi cs b hi) (fun cs b => hsel j oj cs b hoj) hQ hy h1
      have hfree' : ∀ k ok, ops[k]? = some ok → k ≠ i → (listed.setIfInBounds j true).getD k true = false →
          (∀ e ∈ ok.after, Region.binds md e = true → e.on ≠ i) → oi.apart ops ok = true := fun k ok hk hki hun hno => by
        refine hfree k ok hk hki ?_ hno
        by_cases hjk : j = k
        · subst hjk; exact hjun
        · rw [getD_set_ne true hjk] at hun; exact hun
      refine wpOp_mono (fun a' w' h3 => ⟨fun _ => h3.2.1 hjz, ih (listed.setIfInBounds j true) a' w' (hcl.set hj) hfree' (ready_mono hr (Ne.symm hji)) h3.1 (h3.2.1 hjz) ?_⟩) h2
      rw [Array.setIfInBounds_comm _ _ hji]
      exact h3.2.2

def closedB (md : Region.Mode) (ops : Array Oper) (listed : Array Bool) : Bool :=
  (List.range ops.size).all fun j => !(listed.getD j false) || match ops[j]? with
    | none => true
    | some o => o.after.all fun e => !(Region.binds md e) || listed.getD e.on false
theorem closedB_spec {listed : Array Bool} (h : closedB md ops listed = true) : Closed md ops listed := by
  intro j oj hj hl e he hb
  have hs := (Array.getElem?_eq_some_iff.1 hj).1
  have h1 := List.all_eq_true.1 h j (by simpa using hs)
  rw [hj, hl] at h1
  simp only [Bool.not_true, Bool.false_or, Array.all_eq_true', Bool.or_eq_true, Bool.not_eq_true'] at h1
  have h2 := h1 e he
  rw [hb] at h2
  simpa using h2

theorem hA {l : List Oper} {i : Nat} {o : Oper} (h : l[i]? = some o) : l.toArray[i]? = some o := by simpa using h
theorem anyZ_take (i : Nat) {l : List Oper} {oi : Oper} {v : Value} {fuel : Nat} {listed : Array Bool} {a : Act} {w : World} (hi : l[i]? = some oi)
    (hs : Region.noSelect l.toArray = true) (hf : Region.free md l.toArray listed i = true) (hr : (Region.ready md l.toArray listed).contains i = true)
    (hz : (i != z && closedB md l.toArray listed && (Nat.ble l.length z || waits md l.toArray i l.length z)) = true)
    (hQ : ∀ c a w, Q (.panic c) (a.put oi.dst v) w → Q (.panic c) a w) (hS : C w) (hy : YieldsIf P l.toArray C oi v a)
    (h : AnyZ P md l.toArray Q z C fuel (listed.setIfInBounds i true) (a.put oi.dst v) w) : AnyZ P md l.toArray Q z C (fuel + 1) listed a w := by
  simp only [Bool.and_eq_true, Bool.or_eq_true, bne_iff_ne, ne_eq, Nat.ble_eq] at hz
  exact anyZ_first (hA hi) (Region.noSelect_spec hs) hQ hz.1.1 l.length (hz.2.imp (fun h => by simp; omega) id) fuel listed a w (closedB_spec hz.1.2) (Region.free_spec (hA hi) hf) (by simpa using hr) hy hS h

/-- One alone may come up: not z: the class is to be shown anew. -/
theorem anyZ_step (i : Nat) {l : List Oper} {oi : Oper} {fuel : Nat} {listed : Array Bool} {a : Act} {w : World} (hi : l[i]? = some oi) (hr : Region.ready md l.toArray listed = [i])
    (h : ∀ K : Act → World → Prop, (∀ a w, C w → AnyZ P md l.toArray Q z C fuel (listed.setIfInBounds i true) a w → K a w) →
      if Region.wanted oi (yielded l.toArray a.tmps) = true then Oper.wp P oi a w K Q else K (a.put oi.dst undef) w) : AnyZ P md l.toArray Q z C (fuel + 1) listed a w := by
  refine ⟨fun h0 => (by rw [hr] at h0; cases h0), fun j hj => ?_⟩
  rw [hr] at hj
  obtain rfl : j = i := by simpa using hj
  exact wpOp_step (hA hi) (fun K' hK => h K' (fun a w h1 h2 => hK a w ⟨fun _ => h1, h2⟩))

/-- z alone may come up. -/
theorem anyZ_last {l : List Oper} {oi : Oper} {fuel : Nat} {listed : Array Bool} {a : Act} {w : World} (hi : l[z]? = some oi) (hr : Region.ready md l.toArray listed = [z])
    (h : ∀ K : Act → World → Prop, (∀ a w, AnyZ P md l.toArray Q z C fuel (listed.setIfInBounds z true) a w → K a w) →
      if Region.wanted oi (yielded l.toArray a.tmps) = true then Oper.wp P oi a w K Q else K (a.put oi.dst undef) w) : AnyZ P md l.toArray Q z C (fuel + 1) listed a w := by
  refine ⟨fun h0 => (by rw [hr] at h0; cases h0), fun j hj => ?_⟩
  rw [hr] at hj
  obtain rfl : j = z := by simpa using hj
  exact wpOp_step (hA hi) (fun K' hK => h K' (fun a w h2 => hK a w ⟨fun e => absurd rfl e, h2⟩))

theorem anyZ_done {listed : Array Bool} {a : Act} {w : World} (hr : Region.ready md ops listed = []) (h : Q .normal a w) : ∀ fuel, AnyZ P md ops Q z C fuel listed a w
  | 0 => ⟨hr, h⟩
  | _ + 1 => ⟨fun _ => h, by rw [hr]; simp⟩

/-- The beginning. -/
theorem anyZ_begin (z : Nat) (C : World → Prop) {id : Nat} {a : Act} {w : World} (hm : P.follows .mixedOrders = true)
    (h : AnyZ P .any ops Q z C ops.size (Array.replicate ops.size false) a w.drew) : (Code.region id ops true).wp P Q a w :=
  wp_region_any hm (wpAny_of_anyZ _ _ _ _ h)
end
end Go.Proofs.Ytjkknjohmekeiaa
/- Copies and comparisons of bytes, numbers and scripts. Lengths of copies at most 2^47 bytes. -/
namespace Go.Proofs.Ytjkknjohmekeiaa
open Go.RowKit

set_option maxHeartbeats 800000 in
theorem copyBytes_spec (w : World) (v : Value) (l : List Nat) (F : Nat → Prop) (hb : RdB F w v l) (hlen : l.length ≤ 140737488355328) :
    Calls Try.prog 24 #[v] w fun e w' => ∃ r, e = .returned r ∧ (RdB (OwnOf r) w' r l ∧ w'.ownsRow w.heap.size 5 1 r l.length (l.map byt)) ∧ Ext No w w' := by
  go_enter Try.func24, Try.ntmps24
  go_wp2_with (at_builtin; refine stop_here ?_)
  refine Stop.mk ?_
  refine wpList_app (v := .slice none 0 0) ty_byte rfl _ _ rfl rfl (World.ownsRow_nil w w.heap.size 5 1) rfl hb.1 (by simp [byt, Value.oneCell']) (by omega) (by unfold maxLen; omega) (Nat.le_refl _) ?_
  intro v' w' hown hx _ hfr
  simp only [Nat.zero_add, List.nil_append] at hown
  go_wp2_with fail
  go_ret
  have hx' : Ext No w w' := hx.mono (fun x _ (h : OwnOf _ x) => by simp [OwnOf, Value.ownBlock] at h)
  exact ⟨_, rfl, ⟨⟨Rd.of_own hown, hb.2⟩, hown⟩, hx'⟩

set_option maxHeartbeats 800000 in
theorem copyInts_spec (w : World) (v : Value) (l : List Int) (F : Nat → Prop) (hb : RdI F w v l) (hlen : l.length * 8 ≤ 140737488355328) :
    Calls Try.prog 36 #[v] w fun e w' => ∃ r, e = .returned r ∧ (RdI (OwnOf r) w' r l ∧ w'.ownsRow w.heap.size 3 1 r l.length (l.map int)) ∧ Ext No w w' := by
  go_enter Try.func36, Try.ntmps36
  go_wp2_with (at_builtin; refine stop_here ?_)
  refine Stop.mk ?_
  refine wpList_app (v := .slice none 0 0) ty_int rfl _ _ rfl rfl (World.ownsRow_nil w w.heap.size 3 1) rfl hb (by simp [int, Value.oneCell']) (by omega) (by unfold maxLen; omega) (Nat.le_refl _) ?_
  intro v' w' hown hx _ hfr
  simp only [Nat.zero_add, List.nil_append] at hown
  go_wp2_with fail
  go_ret
  have hx' : Ext No w w' := hx.mono (fun x _ (h : OwnOf _ x) => by simp [OwnOf, Value.ownBlock] at h)
  exact ⟨_, rfl, ⟨Rd.of_own hown, hown⟩, hx'⟩

def strOf (l : List Nat) : ByteArray := strOfNums (l.map fun (x : Nat) => (x : Int))
theorem conv_run (w : World) (v : Value) (l : List Nat) (F : Nat → Prop) (hb : RdB F w v l) : (convert 22 9 v).run Try.prog w = .ok (.string (strOf l)) w := by
  cases l with
  | nil =>
    obtain ⟨a, cap, rfl, _, _⟩ := hb.1.val
    show (convert 22 9 (.slice a 0 cap)).run Try.prog w = _
    rw [run_convert_bytes_string w 22 9 5 a 0 cap Try.underlying22 Try.underlying5 Try.underlying9]
    cases a with
    | none => simp [Conv.bytesToString]; rfl
    | some a => rw [run_bytesToString w a 0 cap [] (by simp [loadCells, loadCellsFrom])]; rfl
  | cons x l =>
    obtain ⟨b, off, cap, rfl, h2, h3, h4, h6, h7⟩ := hb.1.open_ (by simp)
    refine run_convert_bytes_arg (P := Try.prog) w 22 5 Try.underlying22 Try.underlying5 b off _ cap _ (by simp) (fun i hi => ?_) 9 Try.underlying9
    have := h7 i (byt ((x :: l)[i])) (by rw [List.getElem?_map, List.getElem?_eq_getElem hi]; rfl)
    rw [this]
    simp only [byt, List.getD, List.getElem?_map, List.getElem?_eq_getElem hi, Option.map_some, Option.getD_some]
theorem strOf_inj {l m : List Nat} (hl : ∀ x ∈ l, x < 256) (hm : ∀ x ∈ m, x < 256) (h : strOf l = strOf m) : l = m := by
  have h2 : (strOf l).data.toList = (strOf m).data.toList := by rw [h]
  unfold strOf at h2
  rw [strOfNums_data, strOfNums_data, List.map_map, List.map_map] at h2
  have e : ∀ k : List Nat, (∀ x ∈ k, x < 256) → ((k.map ((fun n : Int => UInt8.ofNat n.toNat) ∘ fun (x : Nat) => (x : Int))).map UInt8.toNat) = k := by
    intro k hk
    rw [List.map_map]
    conv => rhs; rw [← List.map_id k]
    apply List.map_congr_left
    intro x hx
    have := hk x hx
    simp; omega
  rw [← e l hl, ← e m hm, h2]

set_option maxHeartbeats 800000 in
theorem eqBytes_spec (w : World) (a b : Value) (l m : List Nat) (F G : Nat → Prop) (ha : RdB F w a l) (hb : RdB G w b m) :
    Calls Try.prog 28 #[a, b] w fun e w' => e = .returned (.bool (decide (l = m))) ∧ w = w' := by
  have h1 := conv_run w a l F ha
  have h2 := conv_run w b m G hb
  have h3 : Hid (((strOf l).toList == (strOf m).toList) = decide (l = m)) := by
    show _ = _
    by_cases h : l = m
    · subst h; simp
    · have : strOf l ≠ strOf m := fun e => h (strOf_inj ha.2 hb.2 e)
      have h4 : (strOf l).toList ≠ (strOf m).toList := fun e => this (by
        rw [Go.ByteArray.toList_eq, Go.ByteArray.toList_eq] at e
        exact Go.WideShapes.bytes_inj e)
      simp [h, h4]
  go_enter Try.func28, Try.ntmps28
  go_wp2_with fail
  go_ret
  exact ⟨by rw [← h3.out]; rfl, rfl⟩

set_option maxHeartbeats 800000 in
theorem eqInts_spec (w : World) (a b : Value) (xs ys : List Int) (F G : Nat → Prop) (ha : RdI F w a xs) (hb : RdI G w b ys) :
    Calls Try.prog 37 #[a, b] w fun e w' => e = .returned (.bool (decide (xs = ys))) ∧ ∃ n, w' = w.drewN n := by
  obtain ⟨a1, cap1, rfl, hc1, hc1'⟩ := Rd.val ha
  obtain ⟨a2, cap2, rfl, hc2, hc2'⟩ := Rd.val hb
  by_cases hl : xs.length = ys.length
  · obtain ⟨n, hn⟩ : ∃ n, xs.length = n := ⟨_, rfl⟩
    have hn2 : ys.length = n := by omega
    have hpost : (∀ i, i < n → nth xs i = nth ys i) → decide (xs = ys) = true := by
      intro h
      simp only [decide_eq_true_eq]
      apply List.ext_getElem hl
      intro i h1 h2
      have := h i (by omega)
      rwa [nth_eq h1, nth_eq h2] at this
    unfold RdI at ha hb
    rw [hn] at ha ⊢
    rw [hn2] at hb ⊢
    have hpost' := Lib.hid hpost
    have hne : ((n : Int) != (n : Int)) = false := by simp
    rw [hn] at hc1; rw [hn2] at hc2
    have hnx := Lib.hid hn; have hny := Lib.hid hn2
    clear hpost hn hn2 hl
    go_enter Try.func37, Try.ntmps37
    go_wp2
    go_loopg [5] n (fun g i wr => ∃ k : Nat, k + g = n ∧ i = .int .i64 k ∧ (∀ j, j < k → nth xs j = nth ys j) ∧ ∃ m, wr = w.drewN m)
    case atStart => exact ⟨0, by omega, rfl, by omega, 0, rfl⟩
    case round =>
      obtain ⟨k, hk, rfl, heq, m, rfl⟩ := hrel
      have hk' := Lib.hid hk
      have hkn : k ≤ n := by omega
      have heq' := Lib.hid heq
      clear hk heq
      by_cases hlt : k < n
      · obtain ⟨b1, o1, rfl, _, _, c1⟩ := ha.at1 hlt
        obtain ⟨b2, o2, rfl, _, _, c2⟩ := hb.at1 hlt
        rw [List.getElem?_map, nth_some (by rw [hnx.out]; exact hlt)] at c1
        rw [List.getElem?_map, nth_some (by rw [hny.out]; exact hlt)] at c2
        simp only [Option.map_some, int] at c1 c2
        by_cases hv : nth xs k = nth ys k
        · have hv1 : (nth xs k != nth ys k) = false := by simp [hv]
          have hv' := Lib.hid hv; clear hv
          go_wp2
          go_quiet (fail)
          go_wp2
          go_roundg (n - (k + 1))
          case measure => have := hk'.out; omega
          case rel =>
            refine ⟨k + 1, by omega, by go_num, fun j hj => ?_, m + nq, rfl⟩
            by_cases hjk : j < k
            · exact heq'.out j hjk
            · obtain rfl : j = k := by omega
              exact hv'.out
        · have hv1 : (nth xs k != nth ys k) = true := by simp [hv]
          have hfin : Hid (decide (xs = ys) = false) := by
            show _ = _; simp only [decide_eq_false_iff_not]; intro h; exact hv (by rw [h])
          clear hv
          go_wp2
          go_quiet (fail)
          go_wp2
          go_ret
          exact ⟨by rw [hfin.out]; rfl, m + nq, by simp⟩
      · go_wp2
        go_ret
        have := hpost'.out (fun i hi => heq'.out i (by omega))
        exact ⟨by rw [this]; rfl, m, rfl⟩
  · have hne : ((xs.length : Int) != (ys.length : Int)) = true := by simp; omega
    have hfin : Hid (decide (xs = ys) = false) := by
      show _ = _; simp only [decide_eq_false_iff_not]; intro h; exact hl (by rw [h])
    clear hl
    go_enter Try.func37, Try.ntmps37
    go_wp2
    go_ret
    exact ⟨by rw [hfin.out]; rfl, 0, rfl⟩

/-! ### Scripts -/
theorem RdCC.val {F G : Nat → Prop} {w : World} {v : Value} {ll : List (List Cl)} (h : RdCC F G w v ll) : ∃ a cap, v = .slice a ll.length cap ∧ ll.length ≤ cap ∧ cap ≤ 9223372036854775807 := by
  obtain ⟨vs, _, h, _⟩ := h
  exact h.val
/-- The row at a place. -/
theorem RdCC.at {F G : Nat → Prop} {w : World} {a : Option Addr} {n cap : Nat} {ll : List (List Cl)} (h : RdCC F G w (.slice a n cap) ll) {i : Nat} (hi : i < ll.length) :
    ∃ b off ai ci, a = some ⟨b, off, none⟩ ∧ w.cell? ⟨b, off + i, none⟩ = some (.slice ai (nth ll i).length ci) ∧ RdC G w (.slice ai (nth ll i).length ci) (nth ll i) ∧ (nth ll i).length ≤ ci ∧ ci ≤ 9223372036854775807 := by
  obtain ⟨vs, h1, h2, h3⟩ := h
  have hn : n = ll.length := by obtain ⟨_, _, e, _⟩ := h2; cases e; rfl
  subst hn
  obtain ⟨b, off, e, _, _, hc⟩ := h2.at1 hi
  have hr := h3 i hi
  obtain ⟨ai, ci, e2, h5, h6⟩ := Rd.val hr
  refine ⟨b, off, ai, ci, e, ?_, e2 ▸ hr, h5, h6⟩
  rw [hc, nth_some (by omega), e2]
/-- The four cells of a call at a place. -/
theorem RdC.at {F : Nat → Prop} {w : World} {a : Option Addr} {n cap : Nat} {l : List Cl} (h : RdC F w (.slice a n cap) l) {k : Nat} (hk : k < l.length) :
    ∃ b off, a = some ⟨b, off, none⟩ ∧ b < w.heap.size ∧ F b ∧ w.cell? ⟨b, off + k * 4, none⟩ = some (.int .i64 (nth l k).op) ∧ w.cell? ⟨b, off + k * 4 + 1, none⟩ = some (.int .i64 (nth l k).a) ∧
      w.cell? ⟨b, off + k * 4 + 2, none⟩ = some (.int .i64 (nth l k).b) ∧ w.cell? ⟨b, off + k * 4 + 3, none⟩ = some (.int .i64 (nth l k).c) := by
  obtain ⟨b, off, cap', e, _, _, hF, hlt, hc⟩ := Rd.open_ h (by omega)
  cases e
  refine ⟨b, off, rfl, hlt, hF, ?_, ?_, ?_, ?_⟩
  · exact hc (k * 4) _ (clsCells_at (i := 0) hk (by omega))
  · rw [Nat.add_assoc]; exact hc (k * 4 + 1) _ (clsCells_at (i := 1) hk (by omega))
  · rw [Nat.add_assoc]; exact hc (k * 4 + 2) _ (clsCells_at (i := 2) hk (by omega))
  · rw [Nat.add_assoc]; exact hc (k * 4 + 3) _ (clsCells_at (i := 3) hk (by omega))

theorem Cl.ne_cases {x y : Cl} (h : ¬ x = y) : (x.op == y.op) = false ∨ ((x.op == y.op) = true ∧ (x.a == y.a) = false) ∨ ((x.op == y.op) = true ∧ (x.a == y.a) = true ∧ (x.b == y.b) = false) ∨
    ((x.op == y.op) = true ∧ (x.a == y.a) = true ∧ (x.b == y.b) = true ∧ (x.c == y.c) = false) := by
  simp only [beq_eq_false_iff_ne, beq_iff_eq]
  by_cases h1 : x.op = y.op
  · by_cases h2 : x.a = y.a
    · by_cases h3 : x.b = y.b
      · by_cases h4 : x.c = y.c
        · exfalso; apply h; cases x; cases y; simp only at h1 h2 h3 h4; rw [h1, h2, h3, h4]
        · exact .inr (.inr (.inr ⟨h1, h2, h3, h4⟩))
      · exact .inr (.inr (.inl ⟨h1, h2, h3⟩))
    · exact .inr (.inl ⟨h1, h2⟩)
  · exact .inl h1
set_option maxRecDepth 100000 in
set_option maxHeartbeats 1600000 in
theorem same26_spec (w : World) (va vb : Value) (a b : Scr) (F G : Nat → Prop) (ha : RdS F w va a) (hb : RdS G w vb b) :
    Calls Try.prog 26 #[va, vb] w fun e w' => e = .returned (.bool (decide (a = b))) ∧ Ext No w w' := by
  obtain ⟨c1, p1, rfl, hc1, hp1⟩ := ha
  obtain ⟨c2, p2, rfl, hc2, hp2⟩ := hb
  obtain ⟨ac1, kc1, rfl, _, _⟩ := hc1.val
  obtain ⟨ac2, kc2, rfl, _, _⟩ := hc2.val
  obtain ⟨ap1, kp1, rfl, _, _⟩ := Rd.val hp1
  obtain ⟨ap2, kp2, rfl, _, _⟩ := Rd.val hp2
  have hX : Ext No w ((w.alloc (.cells #[.int .i64 a.cpus, .int .i64 a.pages, .slice ac1 a.calls.length kc1, .slice ap1 a.picks.length kp1] 27)).alloc (.cells #[.int .i64 b.cpus, .int .i64 b.pages, .slice ac2 b.calls.length kc2, .slice ap2 b.picks.length kp2] 27)) := ((Ext.refl _ _).alloc _).alloc _
  by_cases h1 : a.cpus = b.cpus
  · by_cases h2 : a.pages = b.pages
    · by_cases h3 : a.calls.length = b.calls.length
      · have g1 : (a.cpus != b.cpus) = false := by simp [h1]
        have g2 : (a.pages != b.pages) = false := by simp [h2]
        have g3 : ((a.calls.length : Int) != (b.calls.length : Int)) = false := by simp [h3]
        have h1' := Lib.hid h1; have h2' := Lib.hid h2; have h3' := Lib.hid h3
        clear h1 h2 h3
        go_enter Try.func26, Try.ntmps26
        go_wp2_with fail
        refine (eqInts_spec _ _ _ _ _ F G (hp1.extNo hX) (hp2.extNo hX)).mono ?_
        rintro e w1 ⟨rfl, m0, hw1⟩
        have hX1 : Ext No w w1 := by rw [hw1]; exact hX.drewN _
        have hA : Blk w1 w.heap.size [.int .i64 a.cpus, .int .i64 a.pages, .slice ac1 a.calls.length kc1, .slice ap1 a.picks.length kp1] 27 := by rw [hw1]; exact ((Blk.new _ _ _).alloc _).drewN _
        have hB : Blk w1 (w.heap.size + 1) [.int .i64 b.cpus, .int .i64 b.pages, .slice ac2 b.calls.length kc2, .slice ap2 b.picks.length kp2] 27 := by rw [hw1]; exact (Blk.new' (by simp)).drewN _
        clear hw1 hX
        by_cases hpk : a.picks = b.picks
        · have g4 : decide (a.picks = b.picks) = true := by simp [hpk]
          rw [g4]
          clear g4
          have hpk' := Lib.hid hpk; clear hpk
          have cA := hA.cell' (i := 2) rfl
          have cB := hB.cell' (i := 2) rfl
          have hc1 := hc1.ext hX1 (fun _ _ => id) (fun _ _ => id)
          have hc2 := hc2.ext hX1 (fun _ _ => id) (fun _ _ => id)
          go_wp2_with fail
          go_loopg [5] a.calls.length (fun g i wr => ∃ k : Nat, k + g = a.calls.length ∧ i = .int .i64 k ∧ (∀ j, j < k → nth a.calls j = nth b.calls j) ∧ ∃ m, wr = w1.drewN m)
          case atStart => exact ⟨0, by omega, rfl, by omega, 0, rfl⟩
          case round =>
            obtain ⟨k, hk, rfl, heq, m, rfl⟩ := hrel
            have hk' := Lib.hid hk
            have hkn : k ≤ a.calls.length := by omega
            have heq' := Lib.hid heq
            clear hk heq
            by_cases hlt : k < a.calls.length
            · have hlt2 : k < b.calls.length := by have := h3'.out; omega
              obtain ⟨b1, o1, ai, ci, rfl, r1, q1, _, _⟩ := hc1.at hlt
              obtain ⟨b2, o2, aj, cj, rfl, r2, q2, _, _⟩ := hc2.at hlt2
              by_cases hle : (nth a.calls k).length = (nth b.calls k).length
              · have g5 : (((nth a.calls k).length : Int) != ((nth b.calls k).length : Int)) = false := by simp [hle]
                have hle' := Lib.hid hle; clear hle
                go_wp2
                go_quiet (fail)
                go_wp2
                clear g5
                go_loopg [6] (nth a.calls k).length (fun g i wr => ∃ t : Nat, t + g = (nth a.calls k).length ∧ i = .int .i64 t ∧ (∀ j, j < t → nth (nth a.calls k) j = nth (nth b.calls k) j) ∧ ∃ m, wr = w1.drewN m)
                case atStart => exact ⟨0, by omega, rfl, by omega, m + nq, by simp⟩
                case round =>
                  obtain ⟨t, ht, rfl, hte, m', rfl⟩ := hrel
                  have ht' := Lib.hid ht
                  have htn : t ≤ (nth a.calls k).length := by omega
                  have hte' := Lib.hid hte
                  clear ht hte
                  by_cases htl : t < (nth a.calls k).length
                  · have htl2 : t < (nth b.calls k).length := by have := hle'.out; omega
                    obtain ⟨b3, o3, rfl, _, _, x0, x1, x2, x3⟩ := q1.at htl
                    obtain ⟨b4, o4, rfl, _, _, y0, y1, y2, y3⟩ := q2.at htl2
                    by_cases hv : nth (nth a.calls k) t = nth (nth b.calls k) t
                    · have hv' := Lib.hid hv
                      rw [hv] at x0 x1 x2 x3
                      clear hv
                      go_wp2
                      go_quiet (fail)
                      go_wp2
                      go_roundg ((nth a.calls k).length - (t + 1))
                      case measure => have := ht'.out; omega
                      case rel =>
                        refine ⟨t + 1, by omega, by go_num, fun j hj => ?_, m' + nq, by simp⟩
                        by_cases hjt : j < t
                        · exact hte'.out j hjt
                        · obtain rfl : j = t := by omega
                          exact hv'.out
                    · have hfin : Hid (decide (a = b) = false) := by show _ = _; simp only [decide_eq_false_iff_not]; intro h; exact hv (by rw [h])
                      rcases Cl.ne_cases hv with e1 | ⟨e1, e2⟩ | ⟨e1, e2, e3⟩ | ⟨e1, e2, e3, e4⟩
                      all_goals
                        clear hv
                        go_wp2
                        go_quiet (fail)
                        go_wp2
                        go_ret
                        exact ⟨by rw [hfin.out]; rfl, (hX1.drewN _).drewN _⟩
                  · go_wp2
                    go_roundg (a.calls.length - (k + 1))
                    case measure => have := hk'.out; omega
                    case rel =>
                      refine ⟨k + 1, by omega, by go_num, fun j hj => ?_, m', rfl⟩
                      by_cases hjk : j < k
                      · exact heq'.out j hjk
                      · obtain rfl : j = k := by omega
                        apply List.ext_getElem hle'.out
                        intro i h1 h2
                        have := hte'.out i (by omega)
                        rwa [nth_eq h1, nth_eq h2] at this
              · have g5 : (((nth a.calls k).length : Int) != ((nth b.calls k).length : Int)) = true := by simp; omega
                have hfin : Hid (decide (a = b) = false) := by show _ = _; simp only [decide_eq_false_iff_not]; intro h; exact hle (by rw [h])
                clear hle
                go_wp2
                go_quiet (fail)
                go_wp2
                go_ret
                exact ⟨by rw [hfin.out]; rfl, (hX1.drewN _).drewN _⟩
            · go_wp2
              go_ret
              have hfin : decide (a = b) = true := by
                simp only [decide_eq_true_eq]
                have hcc : a.calls = b.calls := by
                  apply List.ext_getElem h3'.out
                  intro i h1 h2
                  have := heq'.out i (by omega)
                  rwa [nth_eq h1, nth_eq h2] at this
                have e1 := h1'.out; have e2 := h2'.out; have e3 := hpk'.out
                cases a; cases b
                simp only at e1 e2 e3 hcc
                rw [e1, e2, e3, hcc]
              exact ⟨by rw [hfin]; rfl, hX1.drewN _⟩
        · have g4 : decide (a.picks = b.picks) = false := by simp [hpk]
          have hfin : Hid (decide (a = b) = false) := by show _ = _; simp only [decide_eq_false_iff_not]; intro h; exact hpk (by rw [h])
          rw [g4]
          clear hpk g4
          go_wp2_with fail
          go_ret
          exact ⟨by rw [hfin.out]; rfl, hX1⟩
      · have g1 : (a.cpus != b.cpus) = false := by simp [h1]
        have g2 : (a.pages != b.pages) = false := by simp [h2]
        have g3 : ((a.calls.length : Int) != (b.calls.length : Int)) = true := by simp; omega
        have hfin : Hid (decide (a = b) = false) := by show _ = _; simp only [decide_eq_false_iff_not]; intro h; exact h3 (by rw [h])
        clear h1 h2 h3
        go_enter Try.func26, Try.ntmps26
        go_wp2_with fail
        go_ret
        exact ⟨by rw [hfin.out]; rfl, hX⟩
    · have g1 : (a.cpus != b.cpus) = false := by simp [h1]
      have g2 : (a.pages != b.pages) = true := by simp [h2]
      have hfin : Hid (decide (a = b) = false) := by show _ = _; simp only [decide_eq_false_iff_not]; intro h; exact h2 (by rw [h])
      clear h1 h2
      go_enter Try.func26, Try.ntmps26
      go_wp2_with fail
      go_ret
      exact ⟨by rw [hfin.out]; rfl, hX⟩
  · have g1 : (a.cpus != b.cpus) = true := by simp [h1]
    have hfin : Hid (decide (a = b) = false) := by show _ = _; simp only [decide_eq_false_iff_not]; intro h; exact h1 (by rw [h])
    clear h1
    go_enter Try.func26, Try.ntmps26
    go_wp2_with fail
    go_ret
    exact ⟨by rw [hfin.out]; rfl, hX⟩

end Go.Proofs.Ytjkknjohmekeiaa
