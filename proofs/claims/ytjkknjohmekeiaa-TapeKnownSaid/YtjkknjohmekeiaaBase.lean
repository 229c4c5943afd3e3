/- Words that all texts of this seat use: worlds that extend one another outside some blocks, blocks known whole, rows of cells that are read. No condition. -/
import Derived.WalkKit
import Derived.Deep.QuietTactic
import Derived.BigQuiet
import Derived.Deep.LoopGhost
import Derived.Deep.RegionHeld3
import Derived.Lib.Hide
import Derived.WalkLawsBesides
import Derived.Deep.DeepFit
import Derived.Handy
namespace Go.Proofs.Ytjkknjohmekeiaa
open Go.RowKit

/-- Outside the blocks S the world w' is as w was. -/
structure Ext (S : Nat → Prop) (w w' : World) : Prop where
  os : w'.os = w.os
  tape : w'.tape = w.tape
  output : w'.output = w.output
  size : w.heap.size ≤ w'.heap.size
  block : ∀ k, k < w.heap.size → ¬ S k → w'.heap[k]? = w.heap[k]?

def No : Nat → Prop := fun _ => False
def One (b : Nat) : Nat → Prop := fun x => x = b

theorem no_iff {x : Nat} : No x ↔ False := Iff.rfl
theorem one_iff {b x : Nat} : One b x ↔ x = b := Iff.rfl

namespace Ext
variable {S T : Nat → Prop} {a w w' : World}
theorem refl (S : Nat → Prop) (w : World) : Ext S w w := ⟨rfl, rfl, rfl, Nat.le_refl _, fun _ _ _ => rfl⟩
theorem trans (h : Ext S a w) (k : Ext T w w') (hT : ∀ x, x < a.heap.size → T x → S x) : Ext S a w' :=
  ⟨k.os.trans h.os, k.tape.trans h.tape, k.output.trans h.output, Nat.le_trans h.size k.size,
    fun i hi hs => (k.block i (Nat.lt_of_lt_of_le hi h.size) (fun ht => hs (hT i hi ht))).trans (h.block i hi hs)⟩
theorem mono (h : Ext S w w') (hST : ∀ x, x < w.heap.size → S x → T x) : Ext T w w' := ⟨h.os, h.tape, h.output, h.size, fun k hk ht => h.block k hk (fun hs => ht (hST k hk hs))⟩
theorem of_no (h : Ext No w w') : Ext S w w' := h.mono (fun _ _ => False.elim)
theorem transNo (h : Ext S a w) (k : Ext No w w') : Ext S a w' := h.trans k (fun _ _ => False.elim)
theorem transSame (h : Ext S a w) (k : Ext S w w') : Ext S a w' := h.trans k (fun _ _ h => h)
/-- The second step wrote blocks that are new since a. -/
theorem transNew (h : Ext S a w) (k : Ext T w w') (hT : ∀ x, T x → a.heap.size ≤ x) : Ext S a w' :=
  h.trans k (fun x hx ht => by have := hT x ht; omega)
theorem transOne {b : Nat} (h : Ext S a w) (k : Ext (One b) w w') (hb : a.heap.size ≤ b ∨ S b) : Ext S a w' :=
  h.trans k (fun x hx (ht : x = b) => by subst ht; rcases hb with hb | hb; omega; exact hb)
theorem drew (h : Ext S a w) : Ext S a w.drew := ⟨h.os, h.tape, h.output, h.size, h.block⟩
theorem drewN (h : Ext S a w) (n : Nat) : Ext S a (w.drewN n) := ⟨h.os, h.tape, h.output, h.size, h.block⟩
theorem alloc (h : Ext S a w) (o : Obj) : Ext S a (w.alloc o) :=
  h.trans (T := No) ⟨rfl, rfl, rfl, by simp, fun k hk _ => Below.heap_alloc _ _ _ hk⟩ (fun _ _ => False.elim)
theorem setCell (h : Ext S a w) (p : Addr) (v : Value) (hp : a.heap.size ≤ p.block ∨ S p.block) : Ext S a (w.setCell p v) :=
  h.trans (T := fun x => x = p.block) ⟨rfl, rfl, rfl, by simp [World.setCell], fun k _ hs => Below.heap_setCell _ _ _ _ hs⟩
    (fun x hx ht => by subst ht; rcases hp with hp | hp; omega; exact hp)
theorem grown (h : Ext S a w) {row : Option Nat} (hg : w.grownBy w' row) (hr : ∀ k, row = some k → a.heap.size ≤ k ∨ S k) : Ext S a w' :=
  h.trans (T := fun x => row = some x) ⟨hg.os, hg.tape, hg.output, hg.size, fun k hk hs => hg.block k hk (fun e => hs e.symm)⟩
    (fun x hx ht => by rcases hr x ht with h | h; omega; exact h)
theorem cell (h : Ext S w w') {p : Addr} {v : Value} (hc : w.cell? p = some v) (hp : ¬ S p.block) : w'.cell? p = some v :=
  (World.cell?_of_block (h.block p.block (World.block_lt_of_cell? w p hc) hp)).trans hc
theorem frozen (h : Ext S w w') {p : Addr} (hlt : p.block < w.heap.size) (hp : ¬ S p.block) : w'.frozen? p = w.frozen? p :=
  World.frozen?_of_block (h.block p.block hlt hp)
theorem below (h : Ext S w w') {B : Nat} (hB : B ≤ w.heap.size) (hS : ∀ x, x < B → ¬ S x) : Below B w w' :=
  ⟨h.os, h.tape, h.output, h.size, fun k hk => h.block k (by omega) (hS k hk)⟩
theorem belowNo (h : Ext No w w') : Below w.heap.size w w' := h.below (Nat.le_refl _) (fun _ _ h => h)
theorem of_below (h : Below w.heap.size w w') : Ext S w w' := ⟨h.os, h.tape, h.output, h.size, fun k hk _ => h.block k hk⟩
theorem grownBy {b : Nat} (h : Ext (One b) w w') : w.grownBy w' (some b) := ⟨h.os, h.tape, h.output, h.size, fun k hk hs => h.block k hk (fun e => hs (by rw [show k = b from e]))⟩
theorem grownByNo (h : Ext No w w') (row : Option Nat) : w.grownBy w' row := ⟨h.os, h.tape, h.output, h.size, fun k hk _ => h.block k hk id⟩
theorem of_grownBy {row : Option Nat} (hg : w.grownBy w' row) : Ext (fun x => row = some x) w w' := ⟨hg.os, hg.tape, hg.output, hg.size, fun k hk hs => hg.block k hk (fun e => hs e.symm)⟩
end Ext

/-- Block b is known whole, and may be written. -/
def Blk (w : World) (b : Nat) (cs : List Value) (T : TypeId) : Prop := w.heap[b]? = some (.cells cs.toArray T (0, 0))

namespace Blk
variable {S : Nat → Prop} {w w' : World} {b T : Nat} {cs : List Value}
theorem lt (h : Blk w b cs T) : b < w.heap.size := (Array.getElem?_eq_some_iff.1 h).1
theorem cell (h : Blk w b cs T) (i : Nat) : w.cell? ⟨b, i, none⟩ = cs[i]? := by
  simp [World.cell?, show w.heap[b]? = _ from h]
theorem cell' (h : Blk w b cs T) {i : Nat} {v : Value} (hi : cs[i]? = some v) : w.cell? ⟨b, i, none⟩ = some v := (h.cell i).trans hi
theorem frozen (h : Blk w b cs T) (i : Nat) : w.frozen? ⟨b, i, none⟩ = false := by
  simp [World.frozen?, show w.heap[b]? = _ from h]
theorem ext (h : Blk w b cs T) (hx : Ext S w w') (hb : ¬ S b) : Blk w' b cs T := (hx.block b h.lt hb).trans h
theorem extNo (h : Blk w b cs T) (hx : Ext No w w') : Blk w' b cs T := h.ext hx id
theorem extOne {k : Nat} (h : Blk w b cs T) (hx : Ext (One k) w w') (hb : b ≠ k) : Blk w' b cs T := h.ext hx hb
theorem set (h : Blk w b cs T) (i : Nat) (v : Value) : Blk (w.setCell ⟨b, i, none⟩ v) b (cs.set i v) T := by
  unfold Blk at *
  simp only [World.setCell, Array.getElem?_modify, h]
  simp
theorem setOther (h : Blk w b cs T) (p : Addr) (v : Value) (hp : b ≠ p.block) : Blk (w.setCell p v) b cs T :=
  (Below.heap_setCell w p v b hp).trans h
theorem alloc (h : Blk w b cs T) (o : Obj) : Blk (w.alloc o) b cs T := (Below.heap_alloc w o b h.lt).trans h
theorem new (w : World) (cs : List Value) (T : TypeId) : Blk (w.alloc (.cells cs.toArray T)) w.heap.size cs T := heap_alloc_new w _
theorem new' (hb : b = w.heap.size) : Blk (w.alloc (.cells cs.toArray T)) b cs T := by subst hb; exact heap_alloc_new w _
theorem drew (h : Blk w b cs T) : Blk w.drew b cs T := h
theorem drewN (h : Blk w b cs T) (n : Nat) : Blk (w.drewN n) b cs T := h
end Blk

/-- The blocks from lo on and below hi. -/
def Iv (lo hi : Nat) : Nat → Prop := fun x => lo ≤ x ∧ x < hi
/-- The block that a slice value leads to. -/
def OwnOf (v : Value) : Nat → Prop := fun x => v.ownBlock = some x

/-- A slice value of n elements of sz cells each, that holds the cells cs, in a block of F. -/
def Rd (F : Nat → Prop) (w : World) (v : Value) (n sz : Nat) (cs : List Value) : Prop :=
  ∃ a cap, v = .slice a n cap ∧ cs.length = n * sz ∧ n ≤ cap ∧ cap ≤ maxLen ∧
    (cs ≠ [] → ∃ b off, a = some ⟨b, off, none⟩ ∧ F b ∧ b < w.heap.size ∧ ∀ i u, cs[i]? = some u → w.cell? ⟨b, off + i, none⟩ = some u)

namespace Rd
variable {S F G : Nat → Prop} {w w' : World} {v : Value} {n sz : Nat} {cs : List Value}
theorem ext (h : Rd F w v n sz cs) (hx : Ext S w w') (hS : ∀ x, F x → ¬ S x) : Rd F w' v n sz cs := by
  obtain ⟨a, cap, h1, h2, h3, h4, h5⟩ := h
  refine ⟨a, cap, h1, h2, h3, h4, fun hne => ?_⟩
  obtain ⟨b, off, g1, g2, g4, g5⟩ := h5 hne
  exact ⟨b, off, g1, g2, Nat.lt_of_lt_of_le g4 hx.size, fun i u hu => hx.cell (g5 i u hu) (hS b g2)⟩
theorem extNo (h : Rd F w v n sz cs) (hx : Ext No w w') : Rd F w' v n sz cs := h.ext hx (fun _ _ => id)
theorem extOne {k : Nat} (h : Rd F w v n sz cs) (hx : Ext (One k) w w') (hk : ¬ F k) : Rd F w' v n sz cs :=
  h.ext hx (fun x h1 (e : x = k) => hk (e ▸ h1))
theorem mono (h : Rd F w v n sz cs) (hG : ∀ x, F x → x < w.heap.size → G x) : Rd G w v n sz cs := by
  obtain ⟨a, cap, e1, e2, e3, e4, h5⟩ := h
  refine ⟨a, cap, e1, e2, e3, e4, fun hne => ?_⟩
  obtain ⟨b, off, g1, g2, g4, g5⟩ := h5 hne
  exact ⟨b, off, g1, hG b g2 g4, g4, g5⟩
theorem nil (F : Nat → Prop) (w : World) (sz : Nat) : Rd F w (.slice none 0 0) 0 sz [] := ⟨none, 0, rfl, by simp, Nat.le_refl _, by simp [maxLen], fun h => absurd rfl h⟩
theorem of_own {base e : Nat} (h : w.ownsRow base e sz v n cs) : Rd (OwnOf v) w v n sz cs := by
  obtain ⟨h1, h2⟩ := h
  rcases h2 with ⟨rfl, rfl⟩ | ⟨g, cap, cur, rfl, hb, hg, hn, hm, hs, ht⟩
  · exact ⟨none, 0, rfl, h1, Nat.le_refl _, by simp [maxLen], fun h => absurd (List.eq_nil_of_length_eq_zero (by simpa using h1)) h⟩
  · refine ⟨_, cap, rfl, h1, hn, hm, fun _ => ⟨g, 0, rfl, rfl, (Array.getElem?_eq_some_iff.1 hg).1, fun i u hu => ?_⟩⟩
    rw [Nat.zero_add, cell_of_row w g i cur e (0, 0) hg]
    rw [← ht, List.getElem?_take] at hu
    split at hu
    · simpa using hu
    · cases hu
theorem of_blk {b T : Nat} (h : Blk w b cs T) (hl : cs.length = n * sz) (hn : n ≤ maxLen) : Rd (One b) w (.slice (some ⟨b, 0, none⟩) n n) n sz cs :=
  ⟨_, _, rfl, hl, Nat.le_refl _, hn, fun _ => ⟨b, 0, rfl, rfl, h.lt, fun i u hu => by rw [Nat.zero_add]; exact h.cell' hu⟩⟩
theorem len (h : Rd F w v n sz cs) : cs.length = n * sz := by
  obtain ⟨_, _, _, h, _⟩ := h; exact h
theorem val (h : Rd F w v n sz cs) : ∃ a cap, v = .slice a n cap ∧ n ≤ cap ∧ cap ≤ 9223372036854775807 := by
  obtain ⟨a, cap, h, _, h3, h4, _⟩ := h; exact ⟨a, cap, h, h3, by simpa [maxLen] using h4⟩
/-- The slice's value written out, where something is in it. -/
theorem open_ (h : Rd F w v n sz cs) (hne : 0 < n * sz) :
    ∃ b off cap, v = .slice (some ⟨b, off, none⟩) n cap ∧ n ≤ cap ∧ cap ≤ 9223372036854775807 ∧ F b ∧ b < w.heap.size ∧ ∀ i u, cs[i]? = some u → w.cell? ⟨b, off + i, none⟩ = some u := by
  obtain ⟨a, cap, h1, h2, h3, h4, h5⟩ := h
  obtain ⟨b, off, g1, g2, g4, g5⟩ := h5 (by intro e; rw [e] at h2; simp at h2; omega)
  subst g1
  exact ⟨b, off, cap, h1, h3, by simpa [maxLen] using h4, g2, g4, g5⟩
theorem at1 {a : Option Addr} {cap : Nat} (h : Rd F w (.slice a n cap) n 1 cs) {k : Nat} (hk : k < n) :
    ∃ b off, a = some ⟨b, off, none⟩ ∧ F b ∧ b < w.heap.size ∧ w.cell? ⟨b, off + k, none⟩ = cs[k]? := by
  obtain ⟨a', cap', h1, h2, h3, h4, h5⟩ := h
  cases h1
  have hlt : k < cs.length := by omega
  obtain ⟨b, off, g1, g2, g4, g5⟩ := h5 (by intro e; rw [e] at hlt; simp at hlt)
  exact ⟨b, off, g1, g2, g4, by rw [List.getElem?_eq_getElem hlt]; exact g5 k _ (List.getElem?_eq_getElem hlt)⟩
end Rd

/-- An element of a list, as a word that no simp opens. -/
def nth {α : Type} [Inhabited α] (l : List α) (k : Nat) : α := l.getD k default
theorem nth_eq {α : Type} [Inhabited α] {l : List α} {k : Nat} (h : k < l.length) : nth l k = l[k] := by simp [nth, List.getD, h]
theorem nth_some {α : Type} [Inhabited α] {l : List α} {k : Nat} (h : k < l.length) : l[k]? = some (nth l k) := by rw [nth_eq h]; exact List.getElem?_eq_getElem h
theorem take_nth {α : Type} [Inhabited α] {l : List α} {k : Nat} (h : k < l.length) : l.take (k + 1) = l.take k ++ [nth l k] := by
  rw [List.take_succ_eq_append_getElem h, nth_eq h]
theorem drop_nth {α : Type} [Inhabited α] {l : List α} {k : Nat} (h : k < l.length) : l.drop k = nth l k :: l.drop (k + 1) := by
  rw [nth_eq h]; exact List.drop_eq_getElem_cons h

/-! ### Slices of numbers -/
def int (x : Int) : Value := .int .i64 x
def byt (x : Nat) : Value := .int .u8 x
/-- A slice of whole numbers, of bytes. -/
def RdI (F : Nat → Prop) (w : World) (v : Value) (l : List Int) : Prop := Rd F w v l.length 1 (l.map int)
def RdB (F : Nat → Prop) (w : World) (v : Value) (l : List Nat) : Prop := Rd F w v l.length 1 (l.map byt) ∧ ∀ x ∈ l, x < 256

section
variable {S F G : Nat → Prop} {w w' : World} {v : Value} {k : Nat}
theorem RdB.ext {l : List Nat} (h : RdB F w v l) (hx : Ext S w w') (hS : ∀ x, F x → ¬ S x) : RdB F w' v l := ⟨h.1.ext hx hS, h.2⟩
theorem RdB.extNo {l : List Nat} (h : RdB F w v l) (hx : Ext No w w') : RdB F w' v l := ⟨h.1.extNo hx, h.2⟩
theorem RdB.extOne {l : List Nat} (h : RdB F w v l) (hx : Ext (One k) w w') (hk : ¬ F k) : RdB F w' v l := ⟨h.1.extOne hx hk, h.2⟩
theorem RdB.mono {l : List Nat} (h : RdB F w v l) (hG : ∀ x, F x → x < w.heap.size → G x) : RdB G w v l := ⟨h.1.mono hG, h.2⟩
theorem RdI.ext {l : List Int} (h : RdI F w v l) (hx : Ext S w w') (hS : ∀ x, F x → ¬ S x) : RdI F w' v l := Rd.ext h hx hS
theorem RdI.extNo {l : List Int} (h : RdI F w v l) (hx : Ext No w w') : RdI F w' v l := Rd.extNo h hx
theorem RdI.extOne {l : List Int} (h : RdI F w v l) (hx : Ext (One k) w w') (hk : ¬ F k) : RdI F w' v l := Rd.extOne h hx hk
theorem RdI.mono {l : List Int} (h : RdI F w v l) (hG : ∀ x, F x → x < w.heap.size → G x) : RdI G w v l := Rd.mono h hG
theorem Ext.set1 (w : World) (b i : Nat) (v : Value) : Ext (One b) w (w.setCell ⟨b, i, none⟩ v) := (Ext.refl _ _).setCell _ _ (.inr rfl)
theorem RdB.cell {x : Nat} {l : List Nat} (h : RdB F w v (x :: l)) :
    ∃ b off cap, v = .slice (some ⟨b, off, none⟩) (l.length + 1) cap ∧ l.length + 1 ≤ cap ∧ cap ≤ 9223372036854775807 ∧ F b ∧ w.cell? ⟨b, off, none⟩ = some (.int .u8 x) ∧ x < 256 := by
  obtain ⟨b, off, cap, h1, h2, h3, h4, h6, h7⟩ := h.1.open_ (by simp)
  exact ⟨b, off, cap, h1, h2, h3, h4, by simpa [byt] using h7 0 (byt x) rfl, h.2 x (by simp)⟩
theorem RdB.tail {x : Nat} {l : List Nat} {b off cap : Nat} (h : RdB F w (.slice (some ⟨b, off, none⟩) (l.length + 1) cap) (x :: l)) :
    RdB F w (.slice (if cap = 1 then some ⟨b, off, none⟩ else some ⟨b, off + 1, none⟩) l.length (cap - 1)) l := by
  obtain ⟨b', off', cap', h1, h2, h3, h4, h6, h7⟩ := h.1.open_ (by simp)
  simp only [List.length_cons] at h1 h2
  cases h1
  refine ⟨⟨_, _, rfl, by simp, by omega, by unfold maxLen; omega, fun hne => ?_⟩, fun y hy => h.2 y (by simp [hy])⟩
  have hl : l ≠ [] := by simpa using hne
  have hl2 : 0 < l.length := List.length_pos_iff.2 hl
  have : ¬ cap = 1 := by omega
  simp only [this, if_false]
  refine ⟨b, off + 1, rfl, h4, h6, fun i u hu => ?_⟩
  have := h7 (i + 1) u (by simpa using hu)
  rw [Nat.add_assoc, Nat.add_comm 1 i]; exact this
theorem RdB.cellAt {l : List Nat} (h : RdB F w v l) (hk : k < l.length) :
    ∃ b off cap, v = .slice (some ⟨b, off, none⟩) l.length cap ∧ l.length ≤ cap ∧ cap ≤ 9223372036854775807 ∧ F b ∧ w.cell? ⟨b, off + k, none⟩ = some (.int .u8 (nth l k : Nat)) ∧ nth l k < 256 := by
  obtain ⟨b, off, cap, h1, h2, h3, h4, h6, h7⟩ := h.1.open_ (by omega)
  refine ⟨b, off, cap, h1, h2, h3, h4, ?_, h.2 _ (by rw [nth_eq hk]; exact List.getElem_mem _)⟩
  have := h7 k (byt (nth l k)) (by rw [List.getElem?_map, nth_some hk]; rfl)
  simpa [byt] using this
end

theorem bits_and_i64 (a b : Nat) (ha : a < 4611686018427387904) (hb : b < 4611686018427387904) (hf : a &&& b < 4611686018427387904) :
    Go.bits .and .i64 (a : Int) (b : Int) = ((a &&& b : Nat) : Int) := by
  have h1 : (BitVec.ofInt 64 (a : Int)).toNat = a := by
    rw [BitVec.ofInt_natCast, BitVec.toNat_ofNat]; exact Nat.mod_eq_of_lt (by omega)
  have h2 : (BitVec.ofInt 64 (b : Int)).toNat = b := by
    rw [BitVec.ofInt_natCast, BitVec.toNat_ofNat]; exact Nat.mod_eq_of_lt (by omega)
  show IntKind.i64.wrap ((BitVec.ofInt 64 (a : Int) &&& BitVec.ofInt 64 (b : Int)).toNat : Int) = _
  rw [BitVec.toNat_and, h1, h2, IntKind.wrap_i64]
  omega
theorem bits_or_i64 (a b : Nat) (ha : a < 4611686018427387904) (hb : b < 4611686018427387904) (hf : a ||| b < 4611686018427387904) :
    Go.bits .or .i64 (a : Int) (b : Int) = ((a ||| b : Nat) : Int) := by
  have h1 : (BitVec.ofInt 64 (a : Int)).toNat = a := by
    rw [BitVec.ofInt_natCast, BitVec.toNat_ofNat]; exact Nat.mod_eq_of_lt (by omega)
  have h2 : (BitVec.ofInt 64 (b : Int)).toNat = b := by
    rw [BitVec.ofInt_natCast, BitVec.toNat_ofNat]; exact Nat.mod_eq_of_lt (by omega)
  show IntKind.i64.wrap ((BitVec.ofInt 64 (a : Int) ||| BitVec.ofInt 64 (b : Int)).toNat : Int) = _
  rw [BitVec.toNat_or, h1, h2, IntKind.wrap_i64]
  omega
theorem bits_xor_i64 (a b : Nat) (ha : a < 4611686018427387904) (hb : b < 4611686018427387904) (hf : a ^^^ b < 4611686018427387904) :
    Go.bits .xor .i64 (a : Int) (b : Int) = ((a ^^^ b : Nat) : Int) := by
  have h1 : (BitVec.ofInt 64 (a : Int)).toNat = a := by
    rw [BitVec.ofInt_natCast, BitVec.toNat_ofNat]; exact Nat.mod_eq_of_lt (by omega)
  have h2 : (BitVec.ofInt 64 (b : Int)).toNat = b := by
    rw [BitVec.ofInt_natCast, BitVec.toNat_ofNat]; exact Nat.mod_eq_of_lt (by omega)
  show IntKind.i64.wrap ((BitVec.ofInt 64 (a : Int) ^^^ BitVec.ofInt 64 (b : Int)).toNat : Int) = _
  rw [BitVec.toNat_xor, h1, h2, IntKind.wrap_i64]
  omega

/-- The first of a list of numbers, 0 if there is none. -/
def hd0 (l : List Nat) : Nat := l.headD 0
theorem hd0_lt {l : List Nat} (h : ∀ x ∈ l, x < 256) : hd0 l < 256 := by
  cases l with
  | nil => simp [hd0]
  | cons x l => exact h x (by simp)
theorem or_byte (x y : Nat) (hx : x < 256) (hy : y < 256) : Go.bits .or .i64 ((x : Int) * 256) (y : Int) = ((x * 256 + y : Nat) : Int) := by
  have e : x * 256 ||| y = x * 256 + y := by
    have := Nat.two_pow_add_eq_or_of_lt (i := 8) (show y < 2 ^ 8 by omega) x
    rw [show (2 : Nat) ^ 8 = 256 from rfl, Nat.mul_comm] at this
    exact this.symm
  have := bits_or_i64 (x * 256) y (by omega) (by omega) (by rw [e]; omega)
  rw [e] at this
  rw [← this]; congr 1
/-- A goal that the walk leaves alone. -/
def Stop (p : Prop) : Prop := p
theorem stop_here {p : Prop} (h : Stop p) : p := h
theorem Stop.mk {p : Prop} (h : p) : Stop p := h

theorem ret_eq {a b : Value} (h : a = b) : Ending.returned a = .returned b := by rw [h]
end Go.Proofs.Ytjkknjohmekeiaa
