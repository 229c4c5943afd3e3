/- Buddies that are new since a world; the chapter's pages are as the chapter says. No condition. -/
import Derived.Test.YtjkknjohmekeiaaBuddyM
import Derived.Test.YtjkknjohmekeiaaBuddyH
import Derived.Test.YtjkknjohmekeiaaBuddyI
namespace Go.Proofs.Ytjkknjohmekeiaa
open Go.RowKit

/-- Buddies, all of whose blocks are new since w0; of what lay there nothing has changed. -/
structure BT (w0 w : World) (p : Nat) (v : Value) (l : List T3) (T : TypeId := 126) : Prop where
  x : Ext No w0 w
  r : ∃ base, BR w p base v l T
  i : BI l
  pn : w0.heap.size ≤ p
  vn : ∀ x, OwnOf v x → w0.heap.size ≤ x
section
variable {w0 w w' : World} {p : Nat} {v : Value} {l : List T3} {T : TypeId}
theorem BT.ext {S : Nat → Prop} (h : BT w0 w p v l T) (hx : Ext S w w') (h1 : ¬ S p) (h2 : ∀ x, OwnOf v x → ¬ S x) (h3 : ∀ x, S x → w0.heap.size ≤ x) : BT w0 w' p v l T := by
  obtain ⟨base, hr⟩ := h.r
  exact ⟨h.x.transNew hx h3, ⟨base, hr.ext hx h1 h2⟩, h.i, h.pn, h.vn⟩
theorem BT.extNo (h : BT w0 w p v l T) (hx : Ext No w w') : BT w0 w' p v l T := h.ext hx id (fun _ _ => id) (fun _ h => h.elim)
theorem BT.lt (h : BT w0 w p v l T) : p < w.heap.size ∧ ∀ x, OwnOf v x → x < w.heap.size := by
  obtain ⟨base, hr⟩ := h.r
  exact ⟨hr.b.lt, fun x hx => (hr.p.lt x hx).2⟩

theorem bt_new (w0 w : World) (hx : Ext No w0 w) (n : Nat) (h1 : 1 ≤ n) (h2 : n ≤ 1024) {L : List T3} (hL : full n = L) :
    Calls Try.prog 73 #[.int .i64 n] w fun e w' => ∃ p v, e = .returned (.tuple #[.pointer (some ⟨p, 0, none⟩), .int .i64 0]) ∧ BT w0 w' p v L ∧ (∀ x, OwnOf v x → w.heap.size ≤ x) ∧ w.heap.size ≤ p ∧ Ext No w w' := by
  subst hL
  refine (new73_spec w n h1 h2).mono ?_
  rintro e w' ⟨p, v, base, he, hB, h3, h4, h5⟩
  have := hx.size
  exact ⟨p, v, he, ⟨hx.transNo h5, ⟨base, hB⟩, bi_full h1 h2, by omega, fun x h => by have := h4 x h; omega⟩, h4, h3, h5⟩
theorem bt_alloc (h : BT w0 w p v l) (o c : Nat) (ho : o ≤ 10) (hc : c ≤ 8) {X E : Int} {L : List T3} (hX : allocX l o = X) (hE : allocE l o = E) (hL : allocL l o c = L) :
    Calls Try.prog 72 #[.pointer (some ⟨p, 0, none⟩), .int .i64 o, .int .i64 c] w fun e w' => e = .returned (.tuple #[.int .i64 X, .int .i64 E]) ∧ BT w0 w' p v L ∧ Ext (OwnOf v) w w' := by
  subst hX hE hL
  obtain ⟨base, hr⟩ := h.r
  refine (alloc72_spec w p base v l hr h.i.pos h.i.va o c ho hc).mono ?_
  rintro e w' ⟨he, hB, hx⟩
  refine ⟨he, ⟨h.x.transNew hx h.vn, ⟨base, hB⟩, ?_, h.pn, h.vn⟩, hx⟩
  cases hb : leastL l o with
  | none => rw [BI.none c hb]; exact h.i
  | some b => exact (h.i.alloc hc hb).2
theorem bt_free (h : BT w0 w p v l) (i : Nat) (hi : i < l.length) (ha : (nth l i).a = 2) {L : List T3} (hL : freeT l i = L) :
    Calls Try.prog 69 #[.pointer (some ⟨p, 0, none⟩), .int .i64 i] w fun e w' => e = .returned (.int .i64 0) ∧ BT w0 w' p v L ∧ Ext (OwnOf v) w w' := by
  subst hL
  obtain ⟨base, hr⟩ := h.r
  refine (free69_spec w p base v l hr h.i.pos h.i.va i hi ha).mono ?_
  rintro e w' ⟨he, hB, hx⟩
  obtain ⟨k, c, _, hk⟩ := out_is h.i.va hi ha
  exact ⟨he, ⟨h.x.transNew hx h.vn, ⟨base, hB⟩, (h.i.free hi hk).2, h.pn, h.vn⟩, hx⟩
theorem bt_bad (h : BT w0 w p v l) (page : Int) (hb : outAt l page = false) :
    Calls Try.prog 69 #[.pointer (some ⟨p, 0, none⟩), .int .i64 page] w fun e w' => e = .returned (.int .i64 60) ∧ w = w' := by
  obtain ⟨base, hr⟩ := h.r
  exact free69_bad w p base v l hr h.i.pos page hb
theorem bt_frees (h : BT w0 w p v l) (o : Nat) (ho : o ≤ 10) {L : List Nat} (hL : freesL l o 0 = L) :
    Calls Try.prog 70 #[.pointer (some ⟨p, 0, none⟩), .int .i64 o] w fun e w' => ∃ a cap, e = .returned (.slice a L.length cap) ∧ Ans w' (.slice a L.length cap) (toI L) (fun b => w.heap.size ≤ b) ∧ BT w0 w' p v l ∧ Ext No w w' := by
  subst hL
  obtain ⟨base, hr⟩ := h.r
  refine (frees70_spec w p base v l hr h.i.pos o ho).mono ?_
  rintro e w' ⟨r, rfl, ho, hx⟩
  have ho' := ho
  rw [← toI_len] at ho'
  have ha := (Ans.of_own ho').mono (fun b hb => (ho.lt b hb).1)
  obtain ⟨a, cap, rfl, _⟩ := ownsRow_val ho
  exact ⟨a, cap, rfl, ha, h.extNo hx, hx⟩
theorem bt_left (h : BT w0 w p v l) {N : Int} (hN : frS l = N) :
    Calls Try.prog 67 #[.pointer (some ⟨p, 0, none⟩)] w fun e w' => e = .returned (.int .i64 N) ∧ BT w0 w' p v l ∧ Ext No w w' := by
  subst hN
  obtain ⟨base, hr⟩ := h.r
  refine (left67_spec w p base v l hr h.i.pos).mono ?_
  rintro e w' ⟨he, hx⟩
  rw [h.i.left] at he
  exact ⟨he, h.extNo hx, hx⟩
theorem bt_whole (h : BT w0 w p v l) {B : Bool} (hB : decide (l = full l.length) = B) :
    Calls Try.prog 68 #[.pointer (some ⟨p, 0, none⟩)] w fun e w' => e = .returned (.bool B) ∧ BT w0 w' p v l ∧ Ext No w w' := by
  subst hB
  obtain ⟨base, hr⟩ := h.r
  refine (whole68_spec w p base v l hr h.i.pos).mono ?_
  rintro e w' ⟨he, hx⟩
  exact ⟨he, h.extNo hx, hx⟩
theorem bt_pages (h : BT w0 w p v l) :
    Calls Try.prog 71 #[.pointer (some ⟨p, 0, none⟩)] w fun e w' => ∃ r, e = .returned r ∧ w'.ownsRow w.heap.size 98 3 r l.length (t3sCells l) ∧ BT w0 w' p v l ∧ Ext No w w' := by
  obtain ⟨base, hr⟩ := h.r
  refine (pages71_spec w p base v l hr h.i.pos).mono ?_
  rintro e w' ⟨r, he, ho, hx⟩
  exact ⟨r, he, ho, h.extNo hx, hx⟩
theorem bt_eq (h : BT w0 w p v l) {r : Value} {xs : List Int} {N : Nat → Prop} (ha : Ans w r xs N) {cs : Array Value} {n : Nat} (ys : List Int) (hcs : cs = (ys.map int).toArray) (hn : ys.length = n) (hle : n ≤ 64) {B : Bool} (hB : decide (xs = ys) = B) :
    Calls Try.prog 37 #[r, .slice (some ⟨w.heap.size, 0, none⟩) n n] (w.alloc (.cells cs 3)) fun e w' => e = .returned (.bool B) ∧ BT w0 w' p v l ∧ Ext No w w' := by
  subst hcs hn hB
  have hx : Ext No w (w.alloc (.cells (ys.map int).toArray 3)) := (Ext.refl _ _).alloc _
  refine (eqInts_spec _ _ _ xs ys _ _ (ha.rd.extNo hx) (Rd.of_blk (Blk.new' (b := w.heap.size) rfl) (by simp) (by unfold maxLen; omega))).mono ?_
  rintro e w' ⟨he, n, rfl⟩
  exact ⟨he, h.extNo (hx.drewN n), hx.drewN n⟩
end

def F7 : List T3 := [⟨0, 2, 0⟩, inside, inside, inside, ⟨0, 1, 0⟩, inside, ⟨0, 0, 0⟩]
def G1 : List T3 := [⟨0, 2, 0⟩, inside, inside, inside, ⟨0, 1, 0⟩, inside, ⟨2, 0, 1⟩]
def G2 : List T3 := [⟨0, 2, 0⟩, inside, inside, inside, ⟨2, 0, 1⟩, ⟨0, 0, 0⟩, ⟨2, 0, 1⟩]
def G3 : List T3 := [⟨0, 2, 0⟩, inside, inside, inside, ⟨2, 0, 1⟩, ⟨2, 0, 1⟩, ⟨2, 0, 1⟩]
def G4 : List T3 := [⟨0, 2, 0⟩, inside, inside, inside, ⟨0, 0, 0⟩, ⟨2, 0, 1⟩, ⟨2, 0, 1⟩]
def F8 : List T3 := [⟨0, 3, 0⟩, inside, inside, inside, inside, inside, inside, inside]
def H1 : List T3 := [⟨2, 1, 0⟩, inside, ⟨0, 1, 0⟩, inside, ⟨0, 2, 0⟩, inside, inside, inside]

set_option maxRecDepth 100000 in
set_option maxHeartbeats 6400000 in
theorem works65_spec (w : World) :
    Calls Try.prog 65 #[] w fun e w' => e = .returned (.bool true) ∧ Ext No w w' := by
  go_enter Try.func65, Try.ntmps65
  go_wp2_with fail
  refine (bt_new w w (Ext.refl _ _) 7 (by decide) (by decide) (L := F7) (by decide)).mono ?_
  rintro e w1 ⟨p, v, rfl, h1, _, _, _⟩
  go_wp2_with fail
  refine (bt_frees h1 2 (by decide) (L := [0]) (by decide)).mono ?_
  rintro e w2 ⟨aa, ca, rfl, a2, h2, _⟩
  clear h1
  go_wp2_with fail
  refine (bt_eq h2 a2 [0] rfl rfl (by decide) (B := true) (by decide)).mono ?_
  rintro e w3 ⟨rfl, h3, _⟩
  clear a2 h2
  go_wp2_with fail
  refine (bt_frees h3 1 (by decide) (L := [4]) (by decide)).mono ?_
  rintro e w4 ⟨ab, cb, rfl, a4, h4, _⟩
  clear h3
  go_wp2_with fail
  refine (bt_eq h4 a4 [4] rfl rfl (by decide) (B := true) (by decide)).mono ?_
  rintro e w5 ⟨rfl, h5, _⟩
  clear a4 h4
  go_wp2_with fail
  refine (bt_frees h5 0 (by decide) (L := [6]) (by decide)).mono ?_
  rintro e w6 ⟨ac, cc, rfl, a6, h6, _⟩
  clear h5
  go_wp2_with fail
  refine (bt_eq h6 a6 [6] rfl rfl (by decide) (B := true) (by decide)).mono ?_
  rintro e w7 ⟨rfl, h7, _⟩
  clear a6 h6
  go_wp2_with fail
  refine (bt_alloc h7 0 1 (by decide) (by decide) (X := 6) (E := 0) (L := G1) (by decide) (by decide) (by decide)).mono ?_
  rintro e w8 ⟨rfl, h8, _⟩
  clear h7
  go_wp2_with fail
  refine (bt_alloc h8 0 1 (by decide) (by decide) (X := 4) (E := 0) (L := G2) (by decide) (by decide) (by decide)).mono ?_
  rintro e w9 ⟨rfl, h9, _⟩
  clear h8
  go_wp2_with fail
  refine (bt_alloc h9 0 1 (by decide) (by decide) (X := 5) (E := 0) (L := G3) (by decide) (by decide) (by decide)).mono ?_
  rintro e w10 ⟨rfl, h10, _⟩
  clear h9
  go_wp2_with fail
  refine (bt_frees h10 1 (by decide) (L := []) (by decide)).mono ?_
  rintro e w11 ⟨ad, cd, rfl, a11, h11, _⟩
  clear h10 a11
  go_wp2_with fail
  refine (bt_free h11 4 (by decide) (by decide) (L := G4) (by decide)).mono ?_
  rintro e w12 ⟨rfl, h12, _⟩
  clear h11
  go_wp2_with fail
  refine (bt_free h12 5 (by decide) (by decide) (L := G1) (by decide)).mono ?_
  rintro e w13 ⟨rfl, h13, _⟩
  clear h12
  go_wp2_with fail
  refine (bt_frees h13 1 (by decide) (L := [4]) (by decide)).mono ?_
  rintro e w14 ⟨ae, ce, rfl, a14, h14, _⟩
  clear h13
  go_wp2_with fail
  refine (bt_eq h14 a14 [4] rfl rfl (by decide) (B := true) (by decide)).mono ?_
  rintro e w15 ⟨rfl, h15, _⟩
  clear a14 h14
  go_wp2_with fail
  refine (bt_bad h15 5 (by decide)).mono ?_
  rintro e w16 ⟨rfl, rfl⟩
  go_wp2_with fail
  refine (bt_new w _ h15.x 8 (by decide) (by decide) (L := F8) (by decide)).mono ?_
  rintro e w17 ⟨q, vq, rfl, h17, _, _, _⟩
  clear h15
  go_wp2_with fail
  refine (bt_alloc h17 1 0 (by decide) (by decide) (X := 0) (E := 0) (L := H1) (by decide) (by decide) (by decide)).mono ?_
  rintro e w18 ⟨rfl, h18, _⟩
  clear h17
  go_wp2_with fail
  refine (bt_frees h18 2 (by decide) (L := [4]) (by decide)).mono ?_
  rintro e w19 ⟨af, cf, rfl, a19, h19, _⟩
  clear h18
  go_wp2_with fail
  refine (bt_eq h19 a19 [4] rfl rfl (by decide) (B := true) (by decide)).mono ?_
  rintro e w20 ⟨rfl, h20, _⟩
  clear a19 h19
  go_wp2_with fail
  refine (bt_frees h20 1 (by decide) (L := [2]) (by decide)).mono ?_
  rintro e w21 ⟨ag, cg, rfl, a21, h21, _⟩
  clear h20
  go_wp2_with fail
  refine (bt_eq h21 a21 [2] rfl rfl (by decide) (B := true) (by decide)).mono ?_
  rintro e w22 ⟨rfl, h22, _⟩
  go_wp2_with fail
  go_ret
  exact ⟨rfl, h22.x⟩
end Go.Proofs.Ytjkknjohmekeiaa
