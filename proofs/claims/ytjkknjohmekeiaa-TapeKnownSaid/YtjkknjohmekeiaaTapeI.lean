/- The bytes of a script: the program's closures and Bytes. Lengths below 2^47. -/
import Derived.Test.YtjkknjohmekeiaaTapeH
namespace Go.Proofs.Ytjkknjohmekeiaa
open Go.RowKit

/-- A number as a byte. -/
def byteOf (x : Int) : Nat := (x % 256).toNat
theorem byteOf_lt (x : Int) : byteOf x < 256 := by unfold byteOf; omega
theorem byteOf_mod (x : Int) : x % 256 = (byteOf x : Int) := by unfold byteOf; omega

set_option maxHeartbeats 1600000 in
theorem one86_spec (w : World) (v vo : Value) (xs : List Int) (F : Nat → Prop) (ob base : Nat) (out : List Nat) (hob : Blk w ob [vo] 22) (hown : w.ownsRow base 5 1 vo out.length (out.map byt)) (hobl : ob < base)
    (hv : RdI F w v xs) (hF : ∀ x, F x → x < w.heap.size ∧ x ≠ ob ∧ ¬ OwnOf vo x) (hlen : out.length + xs.length ≤ 140737488355328) (hbase : base ≤ w.heap.size) :
    Calls Try.prog 86 #[v, .pointer (some ⟨ob, 0, none⟩)] w fun e w' => e = .returned (.tuple #[]) ∧ (∃ vo', Blk w' ob [vo'] 22 ∧ w'.ownsRow base 5 1 vo' (out.length + xs.length) ((out ++ xs.map byteOf).map byt) ∧
      (∀ x, OwnOf vo' x → OwnOf vo x ∨ w.heap.size ≤ x)) ∧ Ext (fun x => x = ob ∨ OwnOf vo x) w w' := by
  obtain ⟨a, cap, rfl, hc1, hc2⟩ := Rd.val hv
  have hF' := Lib.hid hF
  clear hF
  go_enter Try.func86, Try.ntmps86
  go_wp2_with fail
  go_loopg [7] xs.length (fun g i wr => ∃ (k : Nat) (vo' : Value), k + g = xs.length ∧ i = .int .i64 k ∧ Blk wr ob [vo'] 22 ∧ wr.ownsRow base 5 1 vo' (out.length + k) ((out ++ (xs.take k).map byteOf).map byt) ∧ Ext (fun x => x = ob ∨ OwnOf vo x) w wr ∧ (∀ x, OwnOf vo' x → OwnOf vo x ∨ w.heap.size ≤ x))
  case atStart => exact ⟨0, vo, by omega, rfl, hob, by simpa using hown, Ext.refl _ _, fun x hx => .inl hx⟩
  case round =>
    obtain ⟨k, vo', hk, rfl, hb, hw, hx, hvo⟩ := hrel
    have hk' := Lib.hid hk
    have hkn : k ≤ xs.length := by omega
    clear hk
    obtain ⟨ao, co, rfl, hco⟩ := ownsRow_val hw
    have hz := hx.size
    by_cases hlt : k < xs.length
    · have hvr := Rd.ext hv hx (fun x hf hs => by
        have h1 := hF'.out x hf
        rcases hs with h | h
        · exact h1.2.1 h
        · exact h1.2.2 h)
      obtain ⟨bx, ox, rfl, hfx, _, x0⟩ := hvr.at1 hlt
      rw [List.getElem?_map, nth_some hlt] at x0
      simp only [Option.map_some, int] at x0
      have b0 := hb.cell' (i := 0) rfl
      go_wp2_with (at_builtin; refine stop_here ?_)
      refine Stop.mk ?_
      have hxa : Ext No wr (wr.alloc (.cells #[.int .u8 (byteOf (nth xs k) : Int)] 5)) := (Ext.refl _ _).alloc _
      rw [byteOf_mod]
      refine wpList_app (v := .slice ao (out.length + k) co) ty_byte rfl _ _ rfl rfl (ownsRow_ext hw hxa (fun _ _ => id)) rfl (Rd.of_blk (n := 1) (Blk.new' rfl) rfl (by decide)) (by simp [Value.oneCell']) (by omega) (by unfold maxLen; omega) (by simp only [World.size_alloc]; omega) ?_
      intro v' w1 hown' hx1 _ hfr
      obtain ⟨a9, c9, rfl, hc9⟩ := ownsRow_val hown'
      have hno : ¬ OwnOf (.slice ao (out.length + k) co) ob := fun h => by have := (hw.lt _ h).1; omega
      have hb1 := (hb.extNo hxa).ext hx1 hno
      have c0 := hb1.cell' (i := 0) rfl
      have f0 := hb1.frozen 0
      clear b0
      go_wp2_with fail
      go_roundg (xs.length - (k + 1))
      case measure => have := hk'.out; omega
      case rel =>
        have hxs : Ext (One ob) w1 (w1.setCell ⟨ob, 0, none⟩ (.slice a9 (out.length + k + 1) c9)) := Ext.set1 _ _ _ _
        refine ⟨k + 1, .slice a9 (out.length + k + 1) c9, by omega, by go_num, hb1.set 0 _, ?_, ?_, ?_⟩
        · have := ownsRow_ext hown' hxs (fun x hx' (e : x = ob) => by have := (hown'.lt x hx').1; omega)
          have e : (out ++ (xs.take (k + 1)).map byteOf).map byt = (out ++ (xs.take k).map byteOf).map byt ++ [byt (byteOf (nth xs k))] := by rw [take_nth hlt]; simp
          rw [e]
          exact this
        · refine ((hx.transNo hxa).trans hx1 (fun x hx' hs => ?_)).trans hxs (fun x _ e => .inl e)
          rcases hvo x hs with h | h
          · exact .inr h
          · omega
        · intro x hx'
          rcases hfr x hx' with h | h
          · exact hvo x h
          · right; simp only [World.size_alloc] at h; omega
    · go_wp2_with fail
      go_end0
      have e : xs.take k = xs := List.take_of_length_le (by omega)
      rw [e] at hw
      have e2 : k = xs.length := by omega
      rw [e2] at hw hb hvo
      exact ⟨rfl, ⟨_, hb, hw, hvo⟩, hx⟩

/-- What the closures' variables hold: ob: the bytes; tb: the closure 'one'. -/
structure Clo (w : World) (ob tb base : Nat) (out : List Nat) (vo : Value) : Prop where
  o : Blk w ob [vo] 22
  row : w.ownsRow base 5 1 vo out.length (out.map byt)
  t : Blk w tb [.func (.func 86) #[] #[.pointer (some ⟨ob, 0, none⟩)]] 140
  nums : ob < base ∧ tb < base ∧ ob ≠ tb ∧ base ≤ w.heap.size

theorem Clo.extNo {w w' : World} {ob tb base : Nat} {out : List Nat} {vo : Value} (h : Clo w ob tb base out vo) (hx : Ext No w w') : Clo w' ob tb base out vo :=
  ⟨h.o.extNo hx, ownsRow_ext h.row hx (fun _ _ => id), h.t.extNo hx, by have := h.nums; have := hx.size; omega⟩

/-- 'one' over numbers in a block of F. -/
theorem one_clo (w : World) (v vo : Value) (xs : List Int) (F : Nat → Prop) (ob tb base : Nat) (out : List Nat) (hc : Clo w ob tb base out vo) (hv : RdI F w v xs) (hF : ∀ x, F x → x < w.heap.size ∧ x ≠ ob ∧ ¬ OwnOf vo x)
    (hlen : out.length + xs.length ≤ 140737488355328) :
    Calls Try.prog 86 #[v, .pointer (some ⟨ob, 0, none⟩)] w fun e w' => e = .returned (.tuple #[]) ∧ (∃ vo', Clo w' ob tb base (out ++ xs.map byteOf) vo' ∧ (∀ x, OwnOf vo' x → OwnOf vo x ∨ w.heap.size ≤ x)) ∧ Ext (fun x => x = ob ∨ OwnOf vo x) w w' :=
  (one86_spec w v vo xs F ob base out hc.o hc.row hc.nums.1 hv hF hlen hc.nums.2.2.2).mono fun e w' ⟨he, ⟨vo', h1, h2, h3⟩, hx⟩ => by
    have hn := hc.nums
    refine ⟨he, ⟨vo', ⟨h1, by simpa using h2, hc.t.ext hx (fun h => ?_), by have := hx.size; omega⟩, h3⟩, hx⟩
    rcases h with h | h
    · omega
    · have := (hc.row.lt _ h).1; omega

/-- 'one' over numbers just laid out in a new block. -/
theorem one_new (w : World) (vo : Value) (xs : List Int) (ob tb base : Nat) (out : List Nat) (hc : Clo w ob tb base out vo) (hlen : out.length + xs.length ≤ 140737488355328) (cs : Array Value) (hcs : cs = (xs.map int).toArray) (n : Nat) (hn : n = xs.length) :
    Calls Try.prog 86 #[.slice (some ⟨w.heap.size, 0, none⟩) n n, .pointer (some ⟨ob, 0, none⟩)] (w.alloc (.cells cs 3)) fun e w' => e = .returned (.tuple #[]) ∧ (∃ vo', Clo w' ob tb base (out ++ xs.map byteOf) vo' ∧ (∀ x, OwnOf vo' x → OwnOf vo x ∨ w.heap.size ≤ x)) ∧ Ext (fun x => x = ob ∨ OwnOf vo x) w w' := by
  subst hcs hn
  have hx : Ext No w (w.alloc (.cells (xs.map int).toArray 3)) := (Ext.refl _ _).alloc _
  have hnm := hc.nums
  refine (one_clo _ _ vo xs (One w.heap.size) ob tb base out (hc.extNo hx) (Rd.of_blk (Blk.new' rfl) (by simp) (by unfold maxLen; omega)) (fun x (e : x = w.heap.size) => ⟨by simp only [World.size_alloc]; omega, by omega, fun h => by have := (hc.row.lt _ h).2; omega⟩) hlen).mono ?_
  rintro e w' ⟨he, ⟨vo', h1, h2⟩, h3⟩
  refine ⟨he, ⟨vo', h1, fun x hx' => ?_⟩, ?_⟩
  · rcases h2 x hx' with h | h
    · exact .inl h
    · right; simp only [World.size_alloc] at h; omega
  · exact ((hx.of_no (S := fun x => x = ob ∨ OwnOf vo x))).transSame h3

set_option maxHeartbeats 1600000 in
theorem two_clo (w : World) (n : Int) (vo : Value) (ob tb base : Nat) (out : List Nat) (hc : Clo w ob tb base out vo) (hn0 : 0 ≤ n) (hn1 : n < 4611686018427387904) (hlen : out.length + 2 ≤ 140737488355328) :
    Calls Try.prog 87 #[.int .i64 n, .pointer (some ⟨tb, 0, none⟩)] w fun e w' => e = .returned (.tuple #[]) ∧ (∃ vo', Clo w' ob tb base (out ++ [byteOf (n / 256), byteOf n]) vo' ∧ (∀ x, OwnOf vo' x → OwnOf vo x ∨ w.heap.size ≤ x)) ∧ Ext (fun x => x = ob ∨ OwnOf vo x) w w' := by
  have t0 := hc.t.cell' (i := 0) rfl
  go_enter Try.func87, Try.ntmps87
  go_wp2_with fail
  refine (one_new w vo [n / 256, n] ob tb base out hc (by simpa using hlen) _ rfl 2 rfl).mono ?_
  rintro e w1 ⟨rfl, h1, h2⟩
  go_wp2_with fail
  go_end0
  exact ⟨rfl, h1, h2⟩
end Go.Proofs.Ytjkknjohmekeiaa
