/- Texts of ours, one behind the other (BuddyH, BuddyY, BuddyZ, BuddyI, RefA, RefB, BuddyN, RefC): each says in its own first lines what it proves. No condition. -/
import Derived.Test.YtjkknjohmekeiaaPackH
/- Buddies in memory: Frees. No condition. -/
namespace Go.Proofs.Ytjkknjohmekeiaa
open Go.RowKit

def toI (l : List Nat) : List Int := l.map (fun x : Nat => (x : Int))
theorem toI_len (l : List Nat) : (toI l).length = l.length := by simp [toI]
theorem toI_snoc (l : List Nat) (x : Nat) : (toI (l ++ [x])).map int = (toI l).map int ++ [.int .i64 x] := by simp [toI, int]

theorem frees70_out (w : World) (bb base : Nat) (v : Value) (l : List T3) (h : BR w bb base v l) (h0 : 0 < l.length) (o : Int) (ho : o < 0 ∨ 10 < o) :
    Calls Try.prog 70 #[.pointer (some ⟨bb, 0, none⟩), .int .i64 o] w fun e w' => e = .returned (.slice none 0 0) ∧ w = w' := by
  by_cases h1 : o < 0
  · go_enter Try.func70, Try.ntmps70
    go_wp2_with fail
    refine (none112_no w bb base v l h h0).mono ?_
    rintro e w1 ⟨rfl, rfl⟩
    go_wp2_with fail
    go_ret
    exact ⟨rfl, rfl⟩
  · have h2 : 10 < o := by omega
    go_enter Try.func70, Try.ntmps70
    go_wp2_with fail
    refine (none112_no w bb base v l h h0).mono ?_
    rintro e w1 ⟨rfl, rfl⟩
    go_wp2_with fail
    go_ret
    exact ⟨rfl, rfl⟩

set_option maxRecDepth 100000 in
set_option maxHeartbeats 3200000 in
theorem frees70_spec (w : World) (bb base : Nat) (v : Value) (l : List T3) (h : BR w bb base v l) (h0 : 0 < l.length) (o : Nat) (ho : o ≤ 10) :
    Calls Try.prog 70 #[.pointer (some ⟨bb, 0, none⟩), .int .i64 o] w fun e w' => ∃ r, e = .returned r ∧ w'.ownsRow w.heap.size 3 1 r (freesL l o 0).length ((toI (freesL l o 0)).map int) ∧ Ext No w w' := by
  obtain ⟨a, cap, rfl, hlc, hcap⟩ := h.val
  have hn := h.n
  have hbl := h.b.lt
  have hfl := frees_len (l := l) (o := o) l.length 0 (by omega)
  obtain ⟨L, hL⟩ : ∃ L, freesL l o 0 = L := ⟨_, rfl⟩
  rw [hL] at hfl ⊢
  have hL' := Lib.hid hL
  clear hL
  obtain ⟨n, hnn⟩ : ∃ n, l.length = n := ⟨_, rfl⟩
  have hnn' := Lib.hid hnn
  have hno := none112_no w bb base _ l h h0
  rw [hnn] at hlc hn h hfl
  clear hnn
  go_enter Try.func70, Try.ntmps70
  go_wp2_with fail
  refine hno.mono ?_
  rintro e w1 ⟨rfl, rfl⟩
  clear hno
  go_wp2_with fail
  go_loopg [4, 5] n (fun g s4 s5 wr => ∃ (i : Nat) (acc : List Nat), n - i ≤ g ∧ i < 4611686018427387904 ∧ s5 = .int .i64 i ∧ wr.ownsRow w.heap.size 3 1 s4 acc.length ((toI acc).map int) ∧ Ext No w wr ∧ acc ++ freesL l o i = L)
  case atStart => exact ⟨0, [], by omega, by omega, rfl, World.ownsRow_nil _ _ _ _, Ext.refl _ _, hL'.out⟩
  case round =>
    obtain ⟨i, acc, hi, hi2, rfl, hown, hx, hf⟩ := hrel
    obtain ⟨wz, hwz⟩ : ∃ wz, wr = wz := ⟨_, rfl⟩
    rw [hwz] at hown hx ⊢
    clear hwz
    have hal : acc.length ≤ n := by
      have : acc.length ≤ L.length := by rw [← hf]; simp
      omega
    have hi' := Lib.hid hi
    have hf' := Lib.hid hf
    clear hi hf
    have hB := h.extNo hx
    have v0 := hB.b.cell' (i := 0) rfl
    have hbl2 := hB.b.lt
    have hwr := wrap_pw ho
    have hpp := pw_le ho
    have hsh := shl_pw ho
    by_cases hin : i < n
    · go_wp2_with fail
      refine (free115_spec _ bb base _ l hB i o hi2).mono ?_
      rintro e w2 ⟨rfl, hx3⟩
      have hx4 := hx.transNo hx3
      have hown4 := ownsRow_ext hown hx3 (fun _ _ => id)
      clear hB hx hown v0
      cases hb : freeB l i o
      · have hfn : Hid (acc ++ freesL l o (i + pw o) = L) := by show _ = _; rw [← hf'.out, frees_no (by rw [hnn'.out]; exact hin) hb]
        clear hb
        go_wp2_with fail
        go_roundg (n - (i + pw o))
        case measure => have := hi'.out; have := pw_pos o; omega
        case rel => exact ⟨i + pw o, acc, by omega, by omega, by go_num, hown4, hx4, hfn.out⟩
      · have hfn : Hid ((acc ++ [i]) ++ freesL l o (i + pw o) = L) := by show _ = _; rw [← hf'.out, frees_yes (by rw [hnn'.out]; exact hin) hb]; simp
        clear hb
        obtain ⟨av, cv, rfl, hcv⟩ := ownsRow_val hown4
        go_wp2_with (at_builtin; refine stop_here ?_)
        refine Stop.mk ?_
        have hxa : Ext No w2 (w2.alloc (.cells #[.int .i64 i] 3)) := (Ext.refl _ _).alloc _
        refine wpList_app (v := .slice av acc.length cv) (m := 1) ty_int rfl _ _ rfl rfl (ownsRow_ext hown4 hxa (fun _ _ => id)) rfl (Rd.of_blk (n := 1) (Blk.new' rfl) rfl (by decide)) (by simp [Value.oneCell']) (by omega) (by unfold maxLen; omega) (by have := hx4.size; simp only [World.size_alloc]; omega) ?_
        intro v' w3 hown3 hx3 _ hfr3
        have hX : Ext No w w3 := (hx4.transNo hxa).trans hx3 (fun x hx2 h => by have := (hown4.lt x h).1; omega)
        have hown3' : Hid (w3.ownsRow w.heap.size 3 1 v' (acc ++ [i]).length ((toI (acc ++ [i])).map int)) := by
          rw [toI_snoc, List.length_append]; exact hown3
        clear hown3 hx3 hfr3 hown4 hxa hx4
        go_wp2_with fail
        go_roundg (n - (i + pw o))
        case measure => have := hi'.out; have := pw_pos o; omega
        case rel => exact ⟨i + pw o, acc ++ [i], by omega, by omega, by go_num, hown3'.out, hX, hfn.out⟩
    · have hfin : Hid (acc = L) := by
        show _ = _
        have := hf'.out
        rw [frees_out (by rw [hnn'.out]; omega), List.append_nil] at this; exact this
      go_wp2_with fail
      go_ret
      rw [← hfin.out]
      exact ⟨_, rfl, hown, hx⟩
end Go.Proofs.Ytjkknjohmekeiaa
/- The document's buddies in memory: Frees. -/
namespace Go.Proofs.Ytjkknjohmekeiaa
open Go.RowKit

/-- All pages below one, where a free block of an order is. -/
def allF (l : List T3) (o : Int) : Nat → List Nat
  | 0 => []
  | i + 1 => if freeBI l i o then allF l o i ++ [i] else allF l o i
theorem allF_len (l : List T3) (o : Int) : ∀ i, (allF l o i).length ≤ i
  | 0 => by simp [allF]
  | i + 1 => by have := allF_len l o i; simp only [allF]; split <;> simp <;> omega

set_option maxRecDepth 100000 in
set_option maxHeartbeats 3200000 in
theorem frees125_spec (w : World) (bb base : Nat) (v : Value) (l : List T3) (h : BR w bb base v l 122) (o : Int) :
    Calls Try.prog 125 #[.pointer (some ⟨bb, 0, none⟩), .int .i64 o] w fun e w' => ∃ r, e = .returned r ∧ w'.ownsRow w.heap.size 3 1 r (allF l o l.length).length ((toI (allF l o l.length)).map int) ∧ Ext No w w' := by
  obtain ⟨a, cap, rfl, hlc, hcap⟩ := h.val
  have hn := h.n
  have hbl := h.b.lt
  obtain ⟨n, hnn⟩ : ∃ n, l.length = n := ⟨_, rfl⟩
  have hnn' := Lib.hid hnn
  rw [hnn] at hlc hn h ⊢
  clear hnn
  go_enter Try.func125, Try.ntmps125
  go_wp2_with fail
  go_loopg [5, 6] n (fun g s4 s5 wr => ∃ i : Nat, i + g = n ∧ s5 = .int .i64 i ∧ wr.ownsRow w.heap.size 3 1 s4 (allF l o i).length ((toI (allF l o i)).map int) ∧ Ext No w wr)
  case atStart => exact ⟨0, by omega, rfl, World.ownsRow_nil _ _ _ _, Ext.refl _ _⟩
  case round =>
    obtain ⟨i, hi, rfl, hown, hx⟩ := hrel
    obtain ⟨wz, hwz⟩ : ∃ wz, wr = wz := ⟨_, rfl⟩
    rw [hwz] at hown hx ⊢
    clear hwz
    have hi' := Lib.hid hi
    have hin : i ≤ n := by omega
    clear hi
    have hB := h.extNo hx
    have v0 := hB.b.cell' (i := 0) rfl
    have hal := allF_len l o i
    by_cases hlt : i < n
    · have hd : decide ((i : Int) < n) = true := decide_eq_true (by omega)
      go_wp2_with fail
      refine (free120_spec _ bb base _ l hB i o).mono ?_
      rintro e w2 ⟨rfl, hx3⟩
      have hx4 := hx.transNo hx3
      have hown4 := ownsRow_ext hown hx3 (fun _ _ => id)
      clear hB hx hown v0
      cases hb : freeBI l i o
      · have hfn : Hid (allF l o (i + 1) = allF l o i) := by show _ = _; simp only [allF]; rw [if_neg (by rw [hb]; decide)]
        clear hb
        go_wp2_with fail
        go_roundg (n - (i + 1))
        case measure => have := hi'.out; omega
        case rel => exact ⟨i + 1, by omega, by go_num, by rw [hfn.out]; exact hown4, hx4⟩
      · have hfn : Hid (allF l o (i + 1) = allF l o i ++ [i]) := by show _ = _; simp only [allF]; rw [if_pos hb]
        clear hb
        obtain ⟨acc, hacc⟩ : ∃ acc, allF l o i = acc := ⟨_, rfl⟩
        rw [hacc] at hfn hown4 hal
        obtain ⟨av, cv, rfl, hcv⟩ := ownsRow_val hown4
        go_wp2_with (at_builtin; refine stop_here ?_)
        refine Stop.mk ?_
        have hxa : Ext No w2 (w2.alloc (.cells #[.int .i64 i] 3)) := (Ext.refl _ _).alloc _
        refine wpList_app (v := .slice av acc.length cv) (m := 1) ty_int rfl _ _ rfl rfl (ownsRow_ext hown4 hxa (fun _ _ => id)) rfl (Rd.of_blk (n := 1) (Blk.new' rfl) rfl (by decide)) (by simp [Value.oneCell']) (by omega) (by unfold maxLen; omega) (by have := hx4.size; simp only [World.size_alloc]; omega) ?_
        intro v' w3 hown3 hx3 _ hfr3
        have hX : Ext No w w3 := (hx4.transNo hxa).trans hx3 (fun x hx2 h => by have := (hown4.lt x h).1; omega)
        have hown3' : Hid (w3.ownsRow w.heap.size 3 1 v' (acc ++ [i]).length ((toI (acc ++ [i])).map int)) := by
          rw [toI_snoc, List.length_append]; exact hown3
        clear hown3 hx3 hfr3 hown4 hxa hx4
        go_wp2_with fail
        go_roundg (n - (i + 1))
        case measure => have := hi'.out; omega
        case rel => exact ⟨i + 1, by omega, by go_num, by rw [hfn.out]; exact hown3'.out, hX⟩
    · have hd : decide ((i : Int) < n) = false := decide_eq_false (by omega)
      obtain rfl : i = n := by omega
      go_wp2_with fail
      go_ret
      exact ⟨_, rfl, hown, hx⟩
end Go.Proofs.Ytjkknjohmekeiaa
/- Plain: all pages where a free block of an order is, by pages and by blocks. No condition. -/
namespace Go.Proofs.Ytjkknjohmekeiaa

theorem freeBI_out {l : List T3} {x : Nat} {o : Int} (h : l.length ≤ x) : freeBI l x o = false := by
  unfold freeBI; rw [decide_eq_false (show ¬ ((x : Nat) : Int) < l.length by omega)]; simp
theorem allF_pre (l : List T3) (o : Int) (m : Nat) : ∀ d, ∃ t, allF l o (m + d) = allF l o m ++ t
  | 0 => ⟨[], by simp⟩
  | d + 1 => by
    obtain ⟨t, ht⟩ := allF_pre l o m d
    show ∃ t, (if freeBI l (m + d : Nat) o then allF l o (m + d) ++ [m + d] else allF l o (m + d)) = _
    split
    · exact ⟨t ++ [m + d], by rw [ht, List.append_assoc]⟩
    · exact ⟨t, ht⟩
theorem allF_block {l : List T3} (hv : Va l) {o i : Nat} (ha : i % pw o = 0) : ∀ m, 1 ≤ m → m ≤ pw o → allF l o (i + m) = allF l o i ++ (if freeB l i o then [i] else [])
  | 0, h, _ => by omega
  | m + 1, _, h => by
    by_cases h0 : m = 0
    · subst h0
      show (if freeBI l (i : Nat) o then allF l o i ++ [i] else allF l o i) = _
      rw [freeBI_nat]
      split <;> simp
    · have ih := allF_block hv ha m (by omega) (by omega)
      have hno : freeBI l (i + m : Nat) o = false := by
        rw [freeBI_nat]
        cases hf : freeB l (i + m) o
        · rfl
        · exfalso
          obtain ⟨_, _, g, _⟩ := free_ok hv hf
          have h1 := dvd_room (d := pw o) (a := i) (b := i + m) (Nat.dvd_of_mod_eq_zero ha) (Nat.dvd_of_mod_eq_zero g) (by omega)
          omega
      show (if freeBI l (i + m : Nat) o then allF l o (i + m) ++ [i + m] else allF l o (i + m)) = _
      rw [if_neg (by rw [hno]; decide), ih]
theorem allF_far (l : List T3) (o : Int) : ∀ d, allF l o (l.length + d) = allF l o l.length
  | 0 => rfl
  | d + 1 => by
    show (if freeBI l (l.length + d : Nat) o then allF l o (l.length + d) ++ [l.length + d] else allF l o (l.length + d)) = _
    rw [if_neg (by rw [freeBI_out (by omega)]; decide), allF_far l o d]
theorem allF_frees {l : List T3} (hv : Va l) {o : Nat} : ∀ (f i : Nat), l.length - i ≤ f → i % pw o = 0 → allF l o i ++ freesL l o i = allF l o l.length
  | 0, i, h, ha => by
    rw [frees_out (by omega), List.append_nil, show i = l.length + (i - l.length) by omega, allF_far]
  | f + 1, i, h, ha => by
    have hp := pw_pos o
    by_cases hi : i < l.length
    · have hb := allF_block hv ha (pw o) hp (Nat.le_refl _)
      have ih := allF_frees hv f (i + pw o) (by omega) (by rw [Nat.add_mod_right]; exact ha)
      rw [hb] at ih
      rw [← ih]
      cases hf : freeB l i o
      · rw [frees_no hi hf]; simp
      · rw [frees_yes hi hf]; simp
    · rw [frees_out (by omega), List.append_nil, show i = l.length + (i - l.length) by omega, allF_far]
theorem frees_all {l : List T3} (hv : Va l) (o : Nat) : freesL l o 0 = allF l o l.length := by
  have := allF_frees hv (o := o) l.length 0 (by omega) (Nat.zero_mod _)
  simpa [allF] using this
theorem allF_bad {l : List T3} (hv : Va l) {o : Int} (h : o < 0 ∨ 10 < o) : ∀ i, allF l o i = []
  | 0 => rfl
  | i + 1 => by
    have hno : freeBI l (i : Nat) o = false := by
      unfold freeBI
      by_cases hi : i < l.length
      · rw [Int.toNat_natCast]
        have : ¬ nth l i = ⟨0, o, 0⟩ := by
          intro e
          have hr := hd_of_kind hv hi (by rw [e]; show (0 : Int) ≠ 1; decide)
          have := headB_range (hv i hr hi).1
          rw [e] at this
          have h1 : 0 ≤ o := this.1
          have h2 : o ≤ 10 := this.2
          omega
        rw [decide_eq_false this, Bool.and_false, Bool.and_false]
      · rw [decide_eq_false (show ¬ ((i : Nat) : Int) < l.length by omega)]; simp
    simp only [allF]
    rw [if_neg (by rw [hno]; decide), allF_bad hv h i]
end Go.Proofs.Ytjkknjohmekeiaa
/- Buddies in memory: Alloc. No condition. -/
namespace Go.Proofs.Ytjkknjohmekeiaa
open Go.RowKit

theorem lres_some {b : Bk} {e : Ending} (h : LRes (some b) e) : e = .returned (.tuple #[.agg #[.int .i64 b.i, .int .i64 b.o], .bool true]) := h
theorem lres_none {e : Ending} (h : LRes none e) : ∃ x y : Int, e = .returned (.tuple #[.agg #[.int .i64 x, .int .i64 y], .bool false]) := h

/-- Alloc of what may be asked. -/
theorem splitK_len {l : List T3} {i t : Nat} : ∀ d, (i % pw (t + d) = 0) → i + pw (t + d) ≤ l.length → (splitL l i t d).length = l.length := by
  intro d
  induction d generalizing l with
  | zero => intros; rfl
  | succ d ih =>
    intro h1 h2
    have hs := pw_succ (t + d)
    have ho := oth_lo (i := i) (k := t + d) (by rw [show t + d + 1 = t + (d + 1) by omega]; exact h1)
    have e : pw (t + (d + 1)) = 2 * pw (t + d) := by rw [show t + (d + 1) = t + d + 1 by omega]; exact hs
    simp only [splitL]
    have hl : (setL l (oth i (t + d)) ⟨0, (t + d : Nat), 0⟩).length = l.length := setL_len (by rw [sz_mk, ho]; omega)
    rw [ih (al_down (by omega) h1) (by rw [hl]; omega), hl]

set_option maxRecDepth 100000 in
set_option maxHeartbeats 6400000 in
theorem alloc72_spec (w : World) (bb base : Nat) (v : Value) (l : List T3) (h : BR w bb base v l) (h0 : 0 < l.length) (hv : Va l) (order cache : Nat) (ho : order ≤ 10) (hc : cache ≤ 8) :
    Calls Try.prog 72 #[.pointer (some ⟨bb, 0, none⟩), .int .i64 order, .int .i64 cache] w fun e w' => e = .returned (.tuple #[.int .i64 (allocX l order), .int .i64 (allocE l order)]) ∧ BR w' bb base v (allocL l order cache) ∧ Ext (OwnOf v) w w' := by
  obtain ⟨a, cap, rfl, hlc, hcap⟩ := h.val
  have hn := h.n
  have hbl := h.b.lt
  have hvlt : ∀ x, OwnOf (.slice a l.length cap) x → x < w.heap.size := fun x hx => (h.p.lt x hx).2
  have hno := none112_no w bb base _ l h h0
  cases hl : leastL l order with
  | none =>
    have hX : Hid (allocX l order = 0) := by show _ = _; unfold allocX; rw [hl]
    have hE : Hid (allocE l order = 7) := by show _ = _; unfold allocE; rw [hl]
    have hA : Hid (allocL l order cache = l) := by show _ = _; unfold allocL; rw [hl]
    have hle := least118_spec w bb base _ l h order ho
    rw [hl] at hle
    clear hl
    go_enter Try.func72, Try.ntmps72
    go_wp2_with fail
    refine hno.mono ?_
    rintro e w1 ⟨rfl, rfl⟩
    go_wp2_with fail
    refine hle.mono ?_
    rintro e w2 ⟨he, hx⟩
    obtain ⟨x, y, rfl⟩ := lres_none he
    clear he
    go_wp2_with fail
    go_ret2
    rw [hX.out, hE.out, hA.out]
    exact ⟨rfl, h.extNo (hx.transNo ((Ext.refl _ _).alloc _)), ((hx.transNo ((Ext.refl _ _).alloc _))).of_no⟩
  | some b =>
    have hX : Hid (allocX l order = b.i) := by show _ = _; unfold allocX; rw [hl]
    have hE : Hid (allocE l order = 0) := by show _ = _; unfold allocE; rw [hl]
    have hA : Hid (allocL l order cache = setL (splitL l b.i order (b.o - order)) b.i ⟨2, order, cache⟩) := by show _ = _; unfold allocL; rw [hl]
    obtain ⟨hb1, hb2, hb3, hb4, hb5⟩ := least_some (11 - order) order (Nat.le_refl _) b hl
    obtain ⟨_, _, _, hb6⟩ := free_ok hv hb5
    have hle := least118_spec w bb base _ l h order ho
    rw [hl] at hle
    clear hl hb5
    obtain ⟨i, k⟩ := b
    dsimp only at hX hA hb1 hb2 hb3 hb4 hb6
    obtain ⟨n, hnn⟩ : ∃ n, l.length = n := ⟨_, rfl⟩
    have hnn' := Lib.hid hnn
    rw [hnn] at hlc hn h hvlt hb4 hb6 ⊢
    clear hnn
    have hb3' := Lib.hid hb3
    have hb6' := Lib.hid hb6
    clear hb3 hb6
    go_enter Try.func72, Try.ntmps72
    go_wp2_with fail
    refine hno.mono ?_
    rintro e w1 ⟨rfl, rfl⟩
    go_wp2_with fail
    refine hle.mono ?_
    rintro e w2 ⟨he, hx⟩
    have he := lres_some he
    subst he
    dsimp only
    obtain ⟨X, hX1⟩ : ∃ X, w2.heap.size = X := ⟨_, rfl⟩
    have hXw : w.heap.size ≤ X := by have := hx.size; omega
    obtain ⟨W, hW⟩ : ∃ W, w2.alloc (.cells #[.int .i64 i, .int .i64 k] 162) = W := ⟨_, rfl⟩
    have hxa : Ext No w W := by rw [← hW]; exact hx.alloc _
    have hXb : Blk W X [.int .i64 i, .int .i64 k] 162 := by rw [← hW]; exact Blk.new' hX1.symm
    have hB := h.extNo hxa
    go_wp2_with fail
    clear hX1 hW hx hno hle
    go_loopg [] (k - order) (fun g wr => ∃ (m : Nat) (cur : List T3), m - order ≤ g ∧ order ≤ m ∧ m ≤ k ∧ cur.length = n ∧ Blk wr X [.int .i64 i, .int .i64 m] 162 ∧ BR wr bb base (.slice a n cap) cur ∧ Ext (OwnOf (.slice a n cap)) w wr ∧ splitL cur i order (m - order) = splitL l i order (k - order))
    case atStart => exact ⟨k, l, by omega, by omega, by omega, hnn'.out, hXb, hB, hxa.of_no, rfl⟩
    case round =>
      clear hXb hB hxa
      obtain ⟨m, cur, hm, hm1, hm2, hcl, hXb, hB, hx, hs⟩ := hrel
      obtain ⟨wz, hwz⟩ : ∃ wz, wr = wz := ⟨_, rfl⟩
      rw [hwz] at hXb hB hx ⊢
      clear hwz
      have hm' := Lib.hid hm
      have hcl' := Lib.hid hcl
      have hs' := Lib.hid hs
      clear hm hcl hs
      have v0 := hB.b.cell' (i := 0) rfl
      have hbl2 := hB.b.lt
      have hXl := hXb.lt
      have y0 := hXb.cell' (i := 0) rfl
      have y1 := hXb.cell' (i := 1) rfl
      have t1 := hXb.frozen 1
      by_cases hmo : order < m
      · obtain ⟨q, rfl⟩ : ∃ q, m = q + 1 := ⟨m - 1, by omega⟩
        have hoth : Hid (oth i q = i + pw q) := oth_lo (al_down hm2 hb3'.out)
        have hfit : Hid (i + pw q + pw q ≤ n) := by
          show _ ≤ _
          have h1 := Nat.le_of_dvd (by have := pw_pos k; omega) (pw_dvd hm2)
          have h2 := pw_succ q
          have := hb6'.out; omega
        have hoq : oth i q < 4611686018427387904 := by rw [hoth.out]; have := hfit.out; omega
        have hset : Ext (One X) wz (wz.setCell ⟨X, 1, none⟩ (.int .i64 q)) := Ext.set1 _ _ _ _
        have hX2 := hXb.set 1 (.int .i64 q)
        have hB2 := hB.ext hset (fun e : bb = X => by omega) (fun x hx' (e : x = X) => by have := hvlt x hx'; omega)
        have hx2 := hx.trans hset (fun x hx' (e : x = X) => by omega)
        have hq1 : ((q + 1 : Nat) : Int) - 1 = q := by omega
        go_wp2_with fail
        refine (other116_spec _ i q (by omega) (by omega) hoq).mono ?_
        rintro e w3 ⟨rfl, hx3⟩
        have hX3 := hX2.extNo hx3
        have hB3 := hB2.extNo hx3
        have hx3' := hx2.transNo hx3
        clear hB2 hX2 hx2 hset v0 y0 y1 t1
        go_wp2_with fail
        refine (lay117_spec w3 bb base _ cur hB3 (oth i q) q (by omega) (by rw [hcl'.out, hoth.out]; exact hfit.out) ⟨0, 0, 0⟩).mono ?_
        rintro e w4 ⟨⟨u4, rfl⟩, hB4, hx4⟩
        have hX4 := hX3.ext hx4 (fun ho => by have := hvlt X ho; omega)
        have hx4' := hx3'.transSame hx4
        have hl4 : Hid ((setL cur (oth i q) ⟨0, (q : Nat), 0⟩).length = n) := by show _ = _; rw [setL_len (l := cur) (i := oth i q) (p := ⟨0, (q : Nat), 0⟩) (by rw [sz_mk, hcl'.out, hoth.out]; exact hfit.out)]; exact hcl'.out
        have hsp : Hid (splitL (setL cur (oth i q) ⟨0, (q : Nat), 0⟩) i order (q - order) = splitL l i order (k - order)) := by
          show _ = _
          rw [← hs'.out]
          obtain ⟨d, rfl⟩ : ∃ d, q = order + d := ⟨q - order, by omega⟩
          rw [show order + d + 1 - order = d + 1 by omega, show order + d - order = d by omega]
          rfl
        clear hB3 hx4 hX3 hx3'
        go_wp2_with fail
        go_roundg (q - order)
        case measure => have := hm'.out; omega
        case rel => exact ⟨q, _, Nat.le_refl _, by omega, by omega, hl4.out, hX4, hB4, hx4', hsp.out⟩
      · obtain rfl : m = order := by omega
        have hfit : Hid (i + pw m ≤ n) := by
          show _ ≤ _
          have h1 := Nat.le_of_dvd (by have := pw_pos k; omega) (pw_dvd hm2)
          have := hb6'.out; omega
        have hfin : Hid (cur = splitL l i m (k - m)) := by show _ = _; rw [← hs'.out, Nat.sub_self]; rfl
        go_wp2_with fail
        refine (lay117_spec wz bb base _ cur hB i m ho (by rw [hcl'.out]; exact hfit.out) ⟨2, 0, cache⟩).mono ?_
        rintro e w4 ⟨⟨u4, rfl⟩, hB4, hx4⟩
        have hX4 := hXb.ext hx4 (fun ho => by have := hvlt X ho; omega)
        have y0 := hX4.cell' (i := 0) rfl
        have hx4' := hx.transSame hx4
        clear hB hx4 hXb hx
        go_wp2_with fail
        go_ret2
        rw [hX.out, hE.out, hA.out, ← hfin.out]
        exact ⟨rfl, hB4, hx4'⟩
end Go.Proofs.Ytjkknjohmekeiaa
/- The document's buddies in memory: Alloc. -/
namespace Go.Proofs.Ytjkknjohmekeiaa
open Go.RowKit

set_option maxRecDepth 100000 in
set_option maxHeartbeats 2000000 in
theorem alloc75_bad (w : World) (p : Value) (order cache : Int) (hbad : ¬ ((0 ≤ order ∧ order ≤ 10) ∧ 0 ≤ cache ∧ cache ≤ 8)) :
    Calls Try.prog 75 #[p, .int .i64 order, .int .i64 cache] w fun e w' => e = .returned (.tuple #[.int .i64 0, .int .i64 2]) ∧ w = w' := by
  by_cases h1 : order < 0
  · go_enter Try.func75, Try.ntmps75
    go_wp2_with fail
    go_ret2
    exact ⟨rfl, rfl⟩
  · by_cases h2 : 10 < order
    · go_enter Try.func75, Try.ntmps75
      go_wp2_with fail
      go_ret2
      exact ⟨rfl, rfl⟩
    · by_cases h3 : cache < 0
      · go_enter Try.func75, Try.ntmps75
        go_wp2_with fail
        go_ret2
        exact ⟨rfl, rfl⟩
      · have h4 : 8 < cache := by omega
        go_enter Try.func75, Try.ntmps75
        go_wp2_with fail
        go_ret2
        exact ⟨rfl, rfl⟩
set_option maxRecDepth 100000 in
set_option maxHeartbeats 6400000 in
theorem alloc75_spec (w : World) (bb base : Nat) (v : Value) (l : List T3) (h : BR w bb base v l 122) (hv : Va l) (order cache : Nat) (ho : order ≤ 10) (hc : cache ≤ 8) :
    Calls Try.prog 75 #[.pointer (some ⟨bb, 0, none⟩), .int .i64 order, .int .i64 cache] w fun e w' => e = .returned (.tuple #[.int .i64 (allocX l order), .int .i64 (allocE l order)]) ∧ BR w' bb base v (allocL l order cache) 122 ∧ Ext (OwnOf v) w w' := by
  obtain ⟨a, cap, rfl, hlc, hcap⟩ := h.val
  have hn := h.n
  obtain ⟨n, hnn⟩ : ∃ n, l.length = n := ⟨_, rfl⟩
  have hnn' := Lib.hid hnn
  rw [hnn] at hlc hn h ⊢
  clear hnn
  go_enter Try.func75, Try.ntmps75
  go_wp2_with fail
  go_loopg [8] 11 (fun g s wr => ∃ o : Nat, 11 - o ≤ g ∧ order ≤ o ∧ o ≤ 11 ∧ s = .int .i64 o ∧ BR wr bb base (.slice a n cap) l 122 ∧ Ext No w wr ∧ leastL l order = leastL l o)
  case atStart => exact ⟨order, by omega, Nat.le_refl _, by omega, rfl, h, Ext.refl _ _, rfl⟩
  case round =>
    clear h
    obtain ⟨o, hg, ho1, ho2, rfl, hB, hx, hl⟩ := hrel
    have hg' := Lib.hid hg
    have hl' := Lib.hid hl
    clear hg hl
    by_cases h10 : o ≤ 10
    · have hd10 : decide ((o : Int) ≤ 10) = true := decide_eq_true (by omega)
      go_wp2_with fail
      go_loopg [8, 9] n (fun g s8 s wz => ∃ i : Nat, n - i ≤ g ∧ i ≤ n ∧ s8 = .int .i64 o ∧ s = .int .i64 i ∧ BR wz bb base (.slice a n cap) l 122 ∧ Ext No w wz ∧ allF l o i = [])
      case atStart => exact ⟨0, by omega, by omega, rfl, rfl, hB, hx, rfl⟩
      case round =>
        clear hB hx
        obtain ⟨i, hi, hin, rfl, rfl, hB, hx, hf⟩ := hrel
        obtain ⟨wz, hwz⟩ : ∃ wz, wr = wz := ⟨_, rfl⟩
        rw [hwz] at hB hx ⊢
        clear hwz
        have hi' := Lib.hid hi
        have hf' := Lib.hid hf
        clear hi hf
        have v0 := hB.b.cell' (i := 0) rfl
        by_cases hlt : i < n
        · have hd : decide ((i : Int) < n) = true := decide_eq_true (by omega)
          go_wp2_with fail
          refine (free120_spec wz bb base _ l hB i o).mono ?_
          rintro e w2 ⟨rfl, hx2⟩
          rw [freeBI_nat]
          have hB2 := hB.extNo hx2
          have hx2' := hx.transNo hx2
          clear hB hx hx2 v0
          cases hb : freeB l i o
          · have hfn : Hid (allF l o (i + 1) = []) := by show _ = _; simp only [allF]; rw [freeBI_nat, hb]; simpa using hf'.out
            clear hb
            go_wp2_with fail
            go_roundg (n - (i + 1))
            case measure => have := hi'.out; omega
            case rel => exact ⟨i + 1, by omega, by omega, rfl, by go_num, hB2, hx2', hfn.out⟩
          · have hle : leastL l order = some ⟨i, o⟩ := by
              rw [hl'.out]
              obtain ⟨t, ht⟩ := allF_pre l o (i + 1) (n - (i + 1))
              have e1 : allF l o (i + 1) = [i] := by simp only [allF]; rw [freeBI_nat, if_pos hb, hf'.out]; rfl
              rw [show i + 1 + (n - (i + 1)) = l.length by rw [hnn'.out]; omega, ← frees_all hv, e1] at ht
              exact least_yes h10 ht
            have hX : Hid (allocX l order = i) := by show _ = _; unfold allocX; rw [hle]
            have hE : Hid (allocE l order = 0) := by show _ = _; unfold allocE; rw [hle]
            have hA : Hid (allocL l order cache = setL (splitL l i order (o - order)) i ⟨2, order, cache⟩) := by show _ = _; unfold allocL; rw [hle]
            obtain ⟨_, _, hal, hfit⟩ := free_ok hv hb
            rw [hnn'.out] at hfit
            have hal' := Lib.hid hal
            clear hb hle hal
            go_wp2_with fail
            go_loopg [8] (o - order) (fun g s wr => ∃ (m : Nat) (cur : List T3), m - order ≤ g ∧ order ≤ m ∧ m ≤ o ∧ s = .int .i64 m ∧ cur.length = n ∧ BR wr bb base (.slice a n cap) cur 122 ∧ Ext (OwnOf (.slice a n cap)) w wr ∧ splitL cur i order (m - order) = splitL l i order (o - order))
            case atStart => exact ⟨o, l, by omega, ho1, Nat.le_refl _, rfl, hnn'.out, hB2, hx2'.of_no, rfl⟩
            case round =>
              clear hB2 hx2'
              obtain ⟨m, cur, hm, hm1, hm2, rfl, hcl, hB, hx, hs⟩ := hrel
              have hm' := Lib.hid hm
              have hcl' := Lib.hid hcl
              have hs' := Lib.hid hs
              clear hm hcl hs
              by_cases hmo : order < m
              · obtain ⟨q, rfl⟩ : ∃ q, m = q + 1 := ⟨m - 1, by omega⟩
                have hd7 : decide (((q + 1 : Nat) : Int) > order) = true := decide_eq_true (by omega)
                have hd7' : decide (order < q + 1) = true := decide_eq_true hmo
                have hoth : Hid (oth i q = i + pw q) := oth_lo (al_down hm2 hal'.out)
                have hfit2 : i + pw q + pw q ≤ n := by
                  have h1 := Nat.le_of_dvd (by have := pw_pos o; omega) (pw_dvd hm2)
                  have h2 := pw_succ q
                  omega
                have hq10 : q ≤ 10 := by omega
                have hwr := wrap_pw hq10
                have hwrV : Value.int .i64 (wrap64 (2 ^ q)) = Value.int .i64 (pw q : Nat) := by rw [hwr]
                have hsh := shl_pw hq10
                have hpq := pw_le hq10
                have hspec := set121_spec wr bb base _ cur hB (i + pw q) q hq10 (by rw [hcl'.out]; exact hfit2) 0 0
                have hl4 : Hid ((setL cur (oth i q) ⟨0, (q : Nat), 0⟩).length = n) := by show _ = _; rw [setL_len (l := cur) (i := oth i q) (p := ⟨0, (q : Nat), 0⟩) (by rw [sz_mk, hcl'.out, hoth.out]; exact hfit2)]; exact hcl'.out
                have hsp : Hid (splitL (setL cur (oth i q) ⟨0, (q : Nat), 0⟩) i order (q - order) = splitL l i order (o - order)) := by
                  show _ = _
                  rw [← hs'.out]
                  obtain ⟨d, rfl⟩ : ∃ d, q = order + d := ⟨q - order, by omega⟩
                  rw [show order + d + 1 - order = d + 1 by omega, show order + d - order = d by omega]
                  rfl
                clear hwr
                obtain ⟨q1, hq1⟩ : ∃ q1, q + 1 = q1 := ⟨_, rfl⟩
                have hqm : (q1 : Int) - 1 = q := by omega
                rw [hq1] at hd7 hd7' hmo hm2 ⊢
                go_wp2_with fail
                refine hspec.mono ?_
                rintro e w4 ⟨⟨u4, rfl⟩, hB4, hx4⟩
                have hx4' := hx.transSame hx4
                have hB5 : BR w4 bb base (.slice a n cap) (setL cur (oth i q) ⟨0, (q : Nat), 0⟩) 122 := by rw [hoth.out]; exact hB4
                go_wp2_with fail
                go_roundg (q - order)
                case measure => have := hm'.out; omega
                case rel => exact ⟨q, _, Nat.le_refl _, by omega, by omega, by go_num, hl4.out, hB5, hx4', hsp.out⟩
              · obtain rfl : m = order := by omega
                have hd7 : decide (((m : Nat) : Int) > m) = false := decide_eq_false (by omega)
                have hfit2 : i + pw m ≤ n := by
                  have h1 := Nat.le_of_dvd (by have := pw_pos o; omega) (pw_dvd hm2)
                  omega
                have hfin : Hid (cur = splitL l i m (o - m)) := by show _ = _; rw [← hs'.out, Nat.sub_self]; rfl
                go_wp2_with fail
                refine (set121_spec wr bb base _ cur hB i m ho (by rw [hcl'.out]; exact hfit2) 2 cache).mono ?_
                rintro e w4 ⟨⟨u4, rfl⟩, hB4, hx4⟩
                have hx4' := hx.transSame hx4
                go_wp2_with fail
                go_ret2
                rw [hX.out, hE.out, hA.out, ← hfin.out]
                exact ⟨rfl, hB4, hx4'⟩
        · have hfe : Hid (leastL l order = leastL l (o + 1)) := by
            show _ = _
            rw [hl'.out, least_no h10 (by rw [frees_all hv, hnn'.out, ← show i = n by omega]; exact hf'.out)]
          have hd : decide ((i : Int) < n) = false := decide_eq_false (by omega)
          go_wp2_with fail
          go_roundg (11 - (o + 1))
          case measure => have := hg'.out; omega
          case rel => exact ⟨o + 1, by omega, by omega, by omega, by go_num, hB, hx, hfe.out⟩
    · have hd10 : decide ((o : Int) ≤ 10) = false := decide_eq_false (by omega)
      have hle : leastL l order = none := by rw [hl'.out, show o = 11 by omega]; rfl
      have hX : Hid (allocX l order = 0) := by show _ = _; unfold allocX; rw [hle]
      have hE : Hid (allocE l order = 7) := by show _ = _; unfold allocE; rw [hle]
      have hA : Hid (allocL l order cache = l) := BI.none cache hle
      clear hle
      go_wp2_with fail
      go_ret2
      rw [hX.out, hE.out, hA.out]
      exact ⟨rfl, hB, hx.of_no⟩
end Go.Proofs.Ytjkknjohmekeiaa
/- The document's buddies in memory: Free. -/
namespace Go.Proofs.Ytjkknjohmekeiaa
open Go.RowKit

theorem wrap_id {x : Int} (h0 : 0 ≤ x) (h1 : x < 4611686018427387904) : wrap64 x = x := by unfold wrap64; omega
set_option maxRecDepth 100000 in
set_option maxHeartbeats 2000000 in
theorem free77_bad (w : World) (bb base : Nat) (v : Value) (l : List T3) (h : BR w bb base v l 122) (page : Int) (hbad : outAt l page = false) :
    Calls Try.prog 77 #[.pointer (some ⟨bb, 0, none⟩), .int .i64 page] w fun e w' => e = .returned (.int .i64 60) ∧ w = w' := by
  obtain ⟨a, cap, rfl, hlc, hcap⟩ := h.val
  have c0 := h.b.cell' (i := 0) rfl
  by_cases h1 : page < 0
  · clear hbad
    go_enter Try.func77, Try.ntmps77
    go_wp2_with fail
    go_ret
    exact ⟨rfl, rfl⟩
  · by_cases h2 : (l.length : Int) ≤ page
    · clear hbad
      go_enter Try.func77, Try.ntmps77
      go_wp2_with fail
      go_ret
      exact ⟨rfl, rfl⟩
    · obtain ⟨i, rfl⟩ : ∃ i : Nat, page = i := ⟨page.toNat, by omega⟩
      have hi : i < l.length := by omega
      have hk : ((nth l i).a != 2) = true := by
        unfold outAt at hbad
        rw [decide_eq_true (by omega), decide_eq_true (by omega)] at hbad
        simp at hbad
        simpa using hbad
      obtain ⟨b, off, rfl, _, _, x0, x1, x2⟩ := h.rd.at hi
      clear hbad
      go_enter Try.func77, Try.ntmps77
      go_wp2_with fail
      go_ret
      exact ⟨rfl, rfl⟩

set_option maxRecDepth 100000 in
set_option maxHeartbeats 6400000 in
theorem free77_spec (w : World) (bb base : Nat) (v : Value) (l : List T3) (h : BR w bb base v l 122) (hv : Va l) (i : Nat) (hi : i < l.length) (hout : (nth l i).a = 2) :
    Calls Try.prog 77 #[.pointer (some ⟨bb, 0, none⟩), .int .i64 i] w fun e w' => e = .returned (.int .i64 0) ∧ BR w' bb base v (freeT l i) 122 ∧ Ext (OwnOf v) w w' := by
  obtain ⟨a, cap, rfl, hlc, hcap⟩ := h.val
  have hn := h.n
  have c0 := h.b.cell' (i := 0) rfl
  have hr := hd_of_kind hv hi (by rw [hout]; decide)
  obtain ⟨g1, g2, g3, _⟩ := hv i hr hi
  obtain ⟨hb0, hb1⟩ := headB_range g1
  obtain ⟨k, hk⟩ : ∃ k : Nat, (nth l i).b = k := ⟨(nth l i).b.toNat, by omega⟩
  have hszk : sz (nth l i) = pw k := by unfold sz pw; rw [hk]; rfl
  rw [hszk] at g2 g3
  have hk10 : k ≤ 10 := by omega
  have hT : Hid (freeT l i = setL l (mergeL l i k).i ⟨0, (mergeL l i k).o, 0⟩) := by show _ = _; unfold freeT; rw [hk]; rfl
  obtain ⟨b, off, rfl, hbl0, _, x0, x1, x2⟩ := h.rd.at hi
  have hk2 : ((nth l i).a != 2) = false := by rw [hout]; rfl
  rw [hk] at x1
  obtain ⟨n, hnn⟩ : ∃ n, l.length = n := ⟨_, rfl⟩
  have hnn' := Lib.hid hnn
  rw [hnn] at hlc hn h hi g3 c0 ⊢
  clear hnn hk hout hb0 hb1 hszk g1
  have hd1 : decide ((i : Int) < 0) = false := decide_eq_false (by omega)
  have hd2 : decide ((n : Int) ≤ (i : Int)) = false := decide_eq_false (by omega)
  have hd3 : decide (n ≤ i) = false := decide_eq_false (by omega)
  go_enter Try.func77, Try.ntmps77
  go_wp2_with fail
  clear x0 x1 x2 c0
  go_loopg [1, 5] (10 - k) (fun g s1 s5 wr => ∃ (j o : Nat), 10 - o ≤ g ∧ o ≤ 10 ∧ j % pw o = 0 ∧ j + pw o ≤ n ∧ s1 = .int .i64 j ∧ s5 = .int .i64 o ∧ BR wr bb base (.slice (some ⟨b, off, none⟩) n cap) l 122 ∧ Ext No w wr ∧ mergeL l i k = mergeL l j o)
  case atStart => exact ⟨i, k, Nat.le_refl _, hk10, g2, g3, rfl, rfl, h, Ext.refl _ _, rfl⟩
  case round =>
    clear h
    obtain ⟨j, o, hg, ho, hj1, hj2, rfl, rfl, hB, hx, hm⟩ := hrel
    obtain ⟨wz, hwz⟩ : ∃ wz, wr = wz := ⟨_, rfl⟩
    rw [hwz] at hB hx ⊢
    clear hwz
    have hg' := Lib.hid hg
    have hm' := Lib.hid hm
    have hj1' := Lib.hid hj1
    have hj2' := Lib.hid hj2
    clear hg hm
    by_cases h10 : o < 10
    · have hd10 : decide ((o : Int) < 10) = true := decide_eq_true (by omega)
      have hw2 := wrap_pw2 h10
      have hwr := wrap_pw ho
      have hsh := shl_pw ho
      have hz1 := pw_pos o
      have hz2 := pw_le ho
      have hq1 := pw_pos (o + 1)
      have hq2 := pw_le (o := o + 1) (by omega)
      by_cases hal : j % pw (o + 1) = 0
      · have hoth0 := oth_lo hal
        obtain ⟨t, ht⟩ : ∃ t, oth j o = t := ⟨_, rfl⟩
        have hoth : Hid (oth j o = t) := ht
        rw [ht] at hoth0
        obtain ⟨z, hz⟩ : ∃ z, pw o = z := ⟨_, rfl⟩
        obtain ⟨q, hq⟩ : ∃ q, pw (o + 1) = q := ⟨_, rfl⟩
        rw [hz] at hwr hsh hz1 hz2 hoth0 hj2
        rw [hq] at hw2 hq1 hq2 hal
        have hwr' := Lib.hid hwr
        clear hwr
        have e4 : (j : Int) + z = t := by omega
        have hw3 : Hid (wrap64 ((j : Int) + wrap64 (2 ^ o)) = t) := by show _ = _; rw [hwr'.out, wrap_id (by omega) (by omega)]; exact e4
        have e4h := Lib.hid e4
        clear e4
        have hal' := Lib.hid hal
        clear hz hq hj1 ht hal
        have e0 : ¬ q = 0 := by omega
        have e1 : ((j : Int) % q == 0) = true := by rw [beq_iff_eq]; have := hal'.out; omega
        have e1' : ((j : Int) % q != 0) = false := by rw [bne, e1]; rfl
        have e2 : (j : Int) % q = 0 := by have := hal'.out; omega
        go_upto_region 6 with (fail)
        go_wp2_with fail
        rw [hw3.out]
        refine (free120_spec wz bb base _ l hB (t : Nat) o).mono ?_
        rintro e w3 ⟨rfl, hx3⟩
        rw [freeBI_nat]
        have hB3 := hB.extNo hx3
        have hx3' := hx.transNo hx3
        clear hB hx hx3
        cases hb : freeB l t o
        · have hmm : Hid (mergeL l i k = ⟨j, o⟩) := by show _ = _; rw [hm'.out, merge_no h10 (by rw [hoth.out]; exact hb)]
          clear hb
          go_wp2_with fail
          refine (set121_spec w3 bb base _ l hB3 j o ho (by rw [hnn'.out]; exact hj2'.out) 0 0).mono ?_
          rintro e w5 ⟨⟨u5, rfl⟩, hB5, hx5⟩
          go_wp2_with fail
          go_ret
          rw [hT.out, hmm.out]
          exact ⟨rfl, hB5, hx3'.of_no.transSame hx5⟩
        · have hmm : Hid (mergeL l i k = mergeL l (min j t) (o + 1)) := by show _ = _; rw [hm'.out, merge_yes h10 (by rw [hoth.out]; exact hb), hoth.out]
          have hfo := free_ok hv hb
          have hal2 : Hid ((min j t) % pw (o + 1) = 0 ∧ min j t + pw (o + 1) ≤ n) := by
            show _ ∧ _
            have hs := pw_succ o
            have hj2 := hj2'.out
            obtain ⟨_, _, q1, q2⟩ := hfo
            rw [hnn'.out] at q2
            have hoo := hoth.out
            by_cases hal : j % pw (o + 1) = 0
            · rw [oth_lo hal] at hoo
              rw [Nat.min_eq_left (by omega)]
              exact ⟨hal, by omega⟩
            · obtain ⟨k1, k2, k3⟩ := oth_hi hj1'.out hal
              rw [k3] at hoo
              rw [Nat.min_eq_right (by omega), ← hoo]
              exact ⟨k2, by omega⟩
          have hmin : (if t < j then (t : Int) else (j : Int)) = ((min j t : Nat) : Int) := by split <;> omega
          clear hb hfo
          obtain ⟨mn, hmn⟩ : ∃ mn, min j t = mn := ⟨_, rfl⟩
          rw [hmn] at hmin hmm hal2
          have hmn' := Lib.hid hmn
          clear hmn
          go_wp2_with fail
          go_roundg (10 - (o + 1))
          case measure => have := hg'.out; omega
          case rel => exact ⟨mn, o + 1, Nat.le_refl _, by omega, hal2.out.1, hal2.out.2, by first | rfl | (have h9 := hmn'.out; have h8 := e4h.out; congr 1; omega), by go_num, hB3, hx3', hmm.out⟩

      · obtain ⟨k1, k2, k3⟩ := oth_hi hj1'.out hal
        obtain ⟨t, ht⟩ : ∃ t, oth j o = t := ⟨_, rfl⟩
        have hoth : Hid (oth j o = t) := ht
        rw [ht] at k3
        obtain ⟨z, hz⟩ : ∃ z, pw o = z := ⟨_, rfl⟩
        obtain ⟨q, hq⟩ : ∃ q, pw (o + 1) = q := ⟨_, rfl⟩
        rw [hz] at hwr hsh hz1 hz2 k1 k3 hj2
        rw [hq] at hw2 hq1 hq2 hal
        have hwr' := Lib.hid hwr
        clear hwr
        have e4 : (j : Int) - z = t := by omega
        have hw3 : Hid (wrap64 ((j : Int) - wrap64 (2 ^ o)) = t) := by show _ = _; rw [hwr'.out, wrap_id (by omega) (by omega)]; exact e4
        have e4h := Lib.hid e4
        clear e4
        have hal' := Lib.hid hal
        clear hz hq hj1 ht hal k1 k2 k3
        have e0 : ¬ q = 0 := by omega
        have e1 : ((j : Int) % q == 0) = false := by rw [beq_eq_false_iff_ne]; have := hal'.out; omega
        have e1' : ((j : Int) % q != 0) = true := by rw [bne, e1]; rfl
        have e2 : ¬ (j : Int) % q = 0 := by have := hal'.out; omega
        go_upto_region 6 with (fail)
        go_wp2_with fail
        rw [hw3.out]
        refine (free120_spec wz bb base _ l hB (t : Nat) o).mono ?_
        rintro e w3 ⟨rfl, hx3⟩
        rw [freeBI_nat]
        have hB3 := hB.extNo hx3
        have hx3' := hx.transNo hx3
        clear hB hx hx3
        cases hb : freeB l t o
        · have hmm : Hid (mergeL l i k = ⟨j, o⟩) := by show _ = _; rw [hm'.out, merge_no h10 (by rw [hoth.out]; exact hb)]
          clear hb
          go_wp2_with fail
          refine (set121_spec w3 bb base _ l hB3 j o ho (by rw [hnn'.out]; exact hj2'.out) 0 0).mono ?_
          rintro e w5 ⟨⟨u5, rfl⟩, hB5, hx5⟩
          go_wp2_with fail
          go_ret
          rw [hT.out, hmm.out]
          exact ⟨rfl, hB5, hx3'.of_no.transSame hx5⟩
        · have hmm : Hid (mergeL l i k = mergeL l (min j t) (o + 1)) := by show _ = _; rw [hm'.out, merge_yes h10 (by rw [hoth.out]; exact hb), hoth.out]
          have hfo := free_ok hv hb
          have hal2 : Hid ((min j t) % pw (o + 1) = 0 ∧ min j t + pw (o + 1) ≤ n) := by
            show _ ∧ _
            have hs := pw_succ o
            have hj2 := hj2'.out
            obtain ⟨_, _, q1, q2⟩ := hfo
            rw [hnn'.out] at q2
            have hoo := hoth.out
            by_cases hal : j % pw (o + 1) = 0
            · rw [oth_lo hal] at hoo
              rw [Nat.min_eq_left (by omega)]
              exact ⟨hal, by omega⟩
            · obtain ⟨k1, k2, k3⟩ := oth_hi hj1'.out hal
              rw [k3] at hoo
              rw [Nat.min_eq_right (by omega), ← hoo]
              exact ⟨k2, by omega⟩
          have hmin : (if t < j then (t : Int) else (j : Int)) = ((min j t : Nat) : Int) := by split <;> omega
          clear hb hfo
          obtain ⟨mn, hmn⟩ : ∃ mn, min j t = mn := ⟨_, rfl⟩
          rw [hmn] at hmin hmm hal2
          have hmn' := Lib.hid hmn
          clear hmn
          go_wp2_with fail
          go_roundg (10 - (o + 1))
          case measure => have := hg'.out; omega
          case rel => exact ⟨mn, o + 1, Nat.le_refl _, by omega, hal2.out.1, hal2.out.2, by first | rfl | (have h9 := hmn'.out; have h8 := e4h.out; congr 1; omega), by go_num, hB3, hx3', hmm.out⟩

    · have hd10 : decide ((o : Int) < 10) = false := decide_eq_false (by omega)
      have hmm : Hid (mergeL l i k = ⟨j, o⟩) := by show _ = _; rw [hm'.out, merge_top l (by omega)]
      go_wp2_with fail
      refine (set121_spec wz bb base _ l hB j o ho (by rw [hnn'.out]; exact hj2) 0 0).mono ?_
      rintro e w5 ⟨⟨u5, rfl⟩, hB5, hx5⟩
      go_wp2_with fail
      go_ret
      rw [hT.out, hmm.out]
      exact ⟨rfl, hB5, hx.of_no.transSame hx5⟩
end Go.Proofs.Ytjkknjohmekeiaa
/- Buddies that are new since a world; the chapter's pages are as the chapter says. No condition. -/
namespace Go.Proofs.Ytjkknjohmekeiaa
open Go.RowKit

/-- Buddies, all of whose blocks are new since w0; of what lay there nothing has changed. -/
structure BT (w0 w : World) (p : Nat) (v : Value) (l : List T3) (T : TypeId := 126) : Prop where
  x : Ext No w0 w
  r : ∃ base, BR w p base v l T
  i : BI l
  pn : w0.heap.size ≤ p
  vn : ∀ x, OwnOf v x → w0.heap.size ≤ x
section
variable {w0 w w' : World} {p : Nat} {v : Value} {l : List T3} {T : TypeId}
theorem BT.ext {S : Nat → Prop} (h : BT w0 w p v l T) (hx : Ext S w w') (h1 : ¬ S p) (h2 : ∀ x, OwnOf v x → ¬ S x) (h3 : ∀ x, S x → w0.heap.size ≤ x) : BT w0 w' p v l T := by
  obtain ⟨base, hr⟩ := h.r
  exact ⟨h.x.transNew hx h3, ⟨base, hr.ext hx h1 h2⟩, h.i, h.pn, h.vn⟩
theorem BT.extNo (h : BT w0 w p v l T) (hx : Ext No w w') : BT w0 w' p v l T := h.ext hx id (fun _ _ => id) (fun _ h => h.elim)
theorem BT.lt (h : BT w0 w p v l T) : p < w.heap.size ∧ ∀ x, OwnOf v x → x < w.heap.size := by
  obtain ⟨base, hr⟩ := h.r
  exact ⟨hr.b.lt, fun x hx => (hr.p.lt x hx).2⟩

theorem bt_new (w0 w : World) (hx : Ext No w0 w) (n : Nat) (h1 : 1 ≤ n) (h2 : n ≤ 1024) {L : List T3} (hL : full n = L) :
    Calls Try.prog 73 #[.int .i64 n] w fun e w' => ∃ p v, e = .returned (.tuple #[.pointer (some ⟨p, 0, none⟩), .int .i64 0]) ∧ BT w0 w' p v L ∧ (∀ x, OwnOf v x → w.heap.size ≤ x) ∧ w.heap.size ≤ p ∧ Ext No w w' := by
  subst hL
  refine (new73_spec w n h1 h2).mono ?_
  rintro e w' ⟨p, v, base, he, hB, h3, h4, h5⟩
  have := hx.size
  exact ⟨p, v, he, ⟨hx.transNo h5, ⟨base, hB⟩, bi_full h1 h2, by omega, fun x h => by have := h4 x h; omega⟩, h4, h3, h5⟩
theorem bt_alloc (h : BT w0 w p v l) (o c : Nat) (ho : o ≤ 10) (hc : c ≤ 8) {X E : Int} {L : List T3} (hX : allocX l o = X) (hE : allocE l o = E) (hL : allocL l o c = L) :
    Calls Try.prog 72 #[.pointer (some ⟨p, 0, none⟩), .int .i64 o, .int .i64 c] w fun e w' => e = .returned (.tuple #[.int .i64 X, .int .i64 E]) ∧ BT w0 w' p v L ∧ Ext (OwnOf v) w w' := by
  subst hX hE hL
  obtain ⟨base, hr⟩ := h.r
  refine (alloc72_spec w p base v l hr h.i.pos h.i.va o c ho hc).mono ?_
  rintro e w' ⟨he, hB, hx⟩
  refine ⟨he, ⟨h.x.transNew hx h.vn, ⟨base, hB⟩, ?_, h.pn, h.vn⟩, hx⟩
  cases hb : leastL l o with
  | none => rw [BI.none c hb]; exact h.i
  | some b => exact (h.i.alloc hc hb).2
theorem bt_free (h : BT w0 w p v l) (i : Nat) (hi : i < l.length) (ha : (nth l i).a = 2) {L : List T3} (hL : freeT l i = L) :
    Calls Try.prog 69 #[.pointer (some ⟨p, 0, none⟩), .int .i64 i] w fun e w' => e = .returned (.int .i64 0) ∧ BT w0 w' p v L ∧ Ext (OwnOf v) w w' := by
  subst hL
  obtain ⟨base, hr⟩ := h.r
  refine (free69_spec w p base v l hr h.i.pos h.i.va i hi ha).mono ?_
  rintro e w' ⟨he, hB, hx⟩
  obtain ⟨k, c, _, hk⟩ := out_is h.i.va hi ha
  exact ⟨he, ⟨h.x.transNew hx h.vn, ⟨base, hB⟩, (h.i.free hi hk).2, h.pn, h.vn⟩, hx⟩
theorem bt_bad (h : BT w0 w p v l) (page : Int) (hb : outAt l page = false) :
    Calls Try.prog 69 #[.pointer (some ⟨p, 0, none⟩), .int .i64 page] w fun e w' => e = .returned (.int .i64 60) ∧ w = w' := by
  obtain ⟨base, hr⟩ := h.r
  exact free69_bad w p base v l hr h.i.pos page hb
theorem bt_frees (h : BT w0 w p v l) (o : Nat) (ho : o ≤ 10) {L : List Nat} (hL : freesL l o 0 = L) :
    Calls Try.prog 70 #[.pointer (some ⟨p, 0, none⟩), .int .i64 o] w fun e w' => ∃ a cap, e = .returned (.slice a L.length cap) ∧ Ans w' (.slice a L.length cap) (toI L) (fun b => w.heap.size ≤ b) ∧ BT w0 w' p v l ∧ Ext No w w' := by
  subst hL
  obtain ⟨base, hr⟩ := h.r
  refine (frees70_spec w p base v l hr h.i.pos o ho).mono ?_
  rintro e w' ⟨r, rfl, ho, hx⟩
  have ho' := ho
  rw [← toI_len] at ho'
  have ha := (Ans.of_own ho').mono (fun b hb => (ho.lt b hb).1)
  obtain ⟨a, cap, rfl, _⟩ := ownsRow_val ho
  exact ⟨a, cap, rfl, ha, h.extNo hx, hx⟩
theorem bt_left (h : BT w0 w p v l) {N : Int} (hN : frS l = N) :
    Calls Try.prog 67 #[.pointer (some ⟨p, 0, none⟩)] w fun e w' => e = .returned (.int .i64 N) ∧ BT w0 w' p v l ∧ Ext No w w' := by
  subst hN
  obtain ⟨base, hr⟩ := h.r
  refine (left67_spec w p base v l hr h.i.pos).mono ?_
  rintro e w' ⟨he, hx⟩
  rw [h.i.left] at he
  exact ⟨he, h.extNo hx, hx⟩
theorem bt_whole (h : BT w0 w p v l) {B : Bool} (hB : decide (l = full l.length) = B) :
    Calls Try.prog 68 #[.pointer (some ⟨p, 0, none⟩)] w fun e w' => e = .returned (.bool B) ∧ BT w0 w' p v l ∧ Ext No w w' := by
  subst hB
  obtain ⟨base, hr⟩ := h.r
  refine (whole68_spec w p base v l hr h.i.pos).mono ?_
  rintro e w' ⟨he, hx⟩
  exact ⟨he, h.extNo hx, hx⟩
theorem bt_pages (h : BT w0 w p v l) :
    Calls Try.prog 71 #[.pointer (some ⟨p, 0, none⟩)] w fun e w' => ∃ r, e = .returned r ∧ w'.ownsRow w.heap.size 98 3 r l.length (t3sCells l) ∧ BT w0 w' p v l ∧ Ext No w w' := by
  obtain ⟨base, hr⟩ := h.r
  refine (pages71_spec w p base v l hr h.i.pos).mono ?_
  rintro e w' ⟨r, he, ho, hx⟩
  exact ⟨r, he, ho, h.extNo hx, hx⟩
theorem bt_eq (h : BT w0 w p v l) {r : Value} {xs : List Int} {N : Nat → Prop} (ha : Ans w r xs N) {cs : Array Value} {n : Nat} (ys : List Int) (hcs : cs = (ys.map int).toArray) (hn : ys.length = n) (hle : n ≤ 64) {B : Bool} (hB : decide (xs = ys) = B) :
    Calls Try.prog 37 #[r, .slice (some ⟨w.heap.size, 0, none⟩) n n] (w.alloc (.cells cs 3)) fun e w' => e = .returned (.bool B) ∧ BT w0 w' p v l ∧ Ext No w w' := by
  subst hcs hn hB
  have hx : Ext No w (w.alloc (.cells (ys.map int).toArray 3)) := (Ext.refl _ _).alloc _
  refine (eqInts_spec _ _ _ xs ys _ _ (ha.rd.extNo hx) (Rd.of_blk (Blk.new' (b := w.heap.size) rfl) (by simp) (by unfold maxLen; omega))).mono ?_
  rintro e w' ⟨he, n, rfl⟩
  exact ⟨he, h.extNo (hx.drewN n), hx.drewN n⟩
end

def F7 : List T3 := [⟨0, 2, 0⟩, inside, inside, inside, ⟨0, 1, 0⟩, inside, ⟨0, 0, 0⟩]
def G1 : List T3 := [⟨0, 2, 0⟩, inside, inside, inside, ⟨0, 1, 0⟩, inside, ⟨2, 0, 1⟩]
def G2 : List T3 := [⟨0, 2, 0⟩, inside, inside, inside, ⟨2, 0, 1⟩, ⟨0, 0, 0⟩, ⟨2, 0, 1⟩]
def G3 : List T3 := [⟨0, 2, 0⟩, inside, inside, inside, ⟨2, 0, 1⟩, ⟨2, 0, 1⟩, ⟨2, 0, 1⟩]
def G4 : List T3 := [⟨0, 2, 0⟩, inside, inside, inside, ⟨0, 0, 0⟩, ⟨2, 0, 1⟩, ⟨2, 0, 1⟩]
def F8 : List T3 := [⟨0, 3, 0⟩, inside, inside, inside, inside, inside, inside, inside]
def H1 : List T3 := [⟨2, 1, 0⟩, inside, ⟨0, 1, 0⟩, inside, ⟨0, 2, 0⟩, inside, inside, inside]

set_option maxRecDepth 100000 in
set_option maxHeartbeats 6400000 in
theorem works65_spec (w : World) :
    Calls Try.prog 65 #[] w fun e w' => e = .returned (.bool true) ∧ Ext No w w' := by
  go_enter Try.func65, Try.ntmps65
  go_wp2_with fail
  refine (bt_new w w (Ext.refl _ _) 7 (by decide) (by decide) (L := F7) (by decide)).mono ?_
  rintro e w1 ⟨p, v, rfl, h1, _, _, _⟩
  go_wp2_with fail
  refine (bt_frees h1 2 (by decide) (L := [0]) (by decide)).mono ?_
  rintro e w2 ⟨aa, ca, rfl, a2, h2, _⟩
  clear h1
  go_wp2_with fail
  refine (bt_eq h2 a2 [0] rfl rfl (by decide) (B := true) (by decide)).mono ?_
  rintro e w3 ⟨rfl, h3, _⟩
  clear a2 h2
  go_wp2_with fail
  refine (bt_frees h3 1 (by decide) (L := [4]) (by decide)).mono ?_
  rintro e w4 ⟨ab, cb, rfl, a4, h4, _⟩
  clear h3
  go_wp2_with fail
  refine (bt_eq h4 a4 [4] rfl rfl (by decide) (B := true) (by decide)).mono ?_
  rintro e w5 ⟨rfl, h5, _⟩
  clear a4 h4
  go_wp2_with fail
  refine (bt_frees h5 0 (by decide) (L := [6]) (by decide)).mono ?_
  rintro e w6 ⟨ac, cc, rfl, a6, h6, _⟩
  clear h5
  go_wp2_with fail
  refine (bt_eq h6 a6 [6] rfl rfl (by decide) (B := true) (by decide)).mono ?_
  rintro e w7 ⟨rfl, h7, _⟩
  clear a6 h6
  go_wp2_with fail
  refine (bt_alloc h7 0 1 (by decide) (by decide) (X := 6) (E := 0) (L := G1) (by decide) (by decide) (by decide)).mono ?_
  rintro e w8 ⟨rfl, h8, _⟩
  clear h7
  go_wp2_with fail
  refine (bt_alloc h8 0 1 (by decide) (by decide) (X := 4) (E := 0) (L := G2) (by decide) (by decide) (by decide)).mono ?_
  rintro e w9 ⟨rfl, h9, _⟩
  clear h8
  go_wp2_with fail
  refine (bt_alloc h9 0 1 (by decide) (by decide) (X := 5) (E := 0) (L := G3) (by decide) (by decide) (by decide)).mono ?_
  rintro e w10 ⟨rfl, h10, _⟩
  clear h9
  go_wp2_with fail
  refine (bt_frees h10 1 (by decide) (L := []) (by decide)).mono ?_
  rintro e w11 ⟨ad, cd, rfl, a11, h11, _⟩
  clear h10 a11
  go_wp2_with fail
  refine (bt_free h11 4 (by decide) (by decide) (L := G4) (by decide)).mono ?_
  rintro e w12 ⟨rfl, h12, _⟩
  clear h11
  go_wp2_with fail
  refine (bt_free h12 5 (by decide) (by decide) (L := G1) (by decide)).mono ?_
  rintro e w13 ⟨rfl, h13, _⟩
  clear h12
  go_wp2_with fail
  refine (bt_frees h13 1 (by decide) (L := [4]) (by decide)).mono ?_
  rintro e w14 ⟨ae, ce, rfl, a14, h14, _⟩
  clear h13
  go_wp2_with fail
  refine (bt_eq h14 a14 [4] rfl rfl (by decide) (B := true) (by decide)).mono ?_
  rintro e w15 ⟨rfl, h15, _⟩
  clear a14 h14
  go_wp2_with fail
  refine (bt_bad h15 5 (by decide)).mono ?_
  rintro e w16 ⟨rfl, rfl⟩
  go_wp2_with fail
  refine (bt_new w _ h15.x 8 (by decide) (by decide) (L := F8) (by decide)).mono ?_
  rintro e w17 ⟨q, vq, rfl, h17, _, _, _⟩
  clear h15
  go_wp2_with fail
  refine (bt_alloc h17 1 0 (by decide) (by decide) (X := 0) (E := 0) (L := H1) (by decide) (by decide) (by decide)).mono ?_
  rintro e w18 ⟨rfl, h18, _⟩
  clear h17
  go_wp2_with fail
  refine (bt_frees h18 2 (by decide) (L := [4]) (by decide)).mono ?_
  rintro e w19 ⟨af, cf, rfl, a19, h19, _⟩
  clear h18
  go_wp2_with fail
  refine (bt_eq h19 a19 [4] rfl rfl (by decide) (B := true) (by decide)).mono ?_
  rintro e w20 ⟨rfl, h20, _⟩
  clear a19 h19
  go_wp2_with fail
  refine (bt_frees h20 1 (by decide) (L := [2]) (by decide)).mono ?_
  rintro e w21 ⟨ag, cg, rfl, a21, h21, _⟩
  clear h20
  go_wp2_with fail
  refine (bt_eq h21 a21 [2] rfl rfl (by decide) (B := true) (by decide)).mono ?_
  rintro e w22 ⟨rfl, h22, _⟩
  go_wp2_with fail
  go_ret
  exact ⟨rfl, h22.x⟩
end Go.Proofs.Ytjkknjohmekeiaa
/- What is out of the document's buddies; do both stand alike. -/
namespace Go.Proofs.Ytjkknjohmekeiaa
open Go.RowKit

/-- The heads of what is out, below a page. -/
def outL (l : List T3) : Nat → List Nat
  | 0 => []
  | i + 1 => if (nth l i).a = 2 then outL l i ++ [i] else outL l i
theorem outL_len (l : List T3) : ∀ i, (outL l i).length ≤ i
  | 0 => by simp [outL]
  | i + 1 => by have := outL_len l i; simp only [outL]; split <;> simp <;> omega
theorem outL_mem (l : List T3) : ∀ (i x : Nat), x ∈ outL l i ↔ x < i ∧ (nth l x).a = 2
  | 0, x => by simp [outL]
  | i + 1, x => by
    have ih := outL_mem l i x
    simp only [outL]
    split
    · next h =>
      rw [List.mem_append, ih, List.mem_singleton]
      constructor
      · rintro (⟨h1, h2⟩ | rfl)
        · exact ⟨by omega, h2⟩
        · exact ⟨by omega, h⟩
      · rintro ⟨h1, h2⟩
        by_cases e : x = i
        · exact .inr e
        · exact .inl ⟨by omega, h2⟩
    · next h =>
      rw [ih]
      constructor
      · rintro ⟨h1, h2⟩; exact ⟨by omega, h2⟩
      · rintro ⟨h1, h2⟩
        refine ⟨?_, h2⟩
        have : x ≠ i := fun e => h (e ▸ h2)
        omega

set_option maxRecDepth 100000 in
set_option maxHeartbeats 3200000 in
theorem outs76_spec (w : World) (v : Value) (l : List T3) (G : Nat → Prop) (hv : RdT G w v l) (hn : l.length ≤ 1024) :
    Calls Try.prog 76 #[v] w fun e w' => ∃ r, e = .returned r ∧ w'.ownsRow w.heap.size 3 1 r (outL l l.length).length ((toI (outL l l.length)).map int) ∧ Ext No w w' := by
  obtain ⟨a, cap, rfl, hlc, hcap⟩ := hv.val
  obtain ⟨n, hnn⟩ : ∃ n, l.length = n := ⟨_, rfl⟩
  have hnn' := Lib.hid hnn
  rw [hnn] at hlc hn hv ⊢
  clear hnn
  go_enter Try.func76, Try.ntmps76
  go_wp2_with fail
  go_loopg [3, 4] n (fun g s4 s5 wr => ∃ i : Nat, i + g = n ∧ s5 = .int .i64 i ∧ wr.ownsRow w.heap.size 3 1 s4 (outL l i).length ((toI (outL l i)).map int) ∧ Ext No w wr)
  case atStart => exact ⟨0, by omega, rfl, World.ownsRow_nil _ _ _ _, Ext.refl _ _⟩
  case round =>
    obtain ⟨i, hi, rfl, hown, hx⟩ := hrel
    obtain ⟨wz, hwz⟩ : ∃ wz, wr = wz := ⟨_, rfl⟩
    rw [hwz] at hown hx ⊢
    clear hwz
    have hi' := Lib.hid hi
    have hin : i ≤ n := by omega
    clear hi
    have hal := outL_len l i
    by_cases hlt : i < n
    · have hd : decide ((i : Int) < n) = true := decide_eq_true (by omega)
      obtain ⟨b, off, rfl, _, _, x0, x1, x2⟩ := (hv.extNo hx).at (k := i) (by rw [hnn'.out]; exact hlt)
      clear x1 x2
      by_cases ha : (nth l i).a = 2
      · have hq : ((nth l i).a == 2) = true := by rw [ha]; rfl
        have hfn : Hid (outL l (i + 1) = outL l i ++ [i]) := by show _ = _; simp only [outL]; rw [if_pos ha]
        clear ha
        obtain ⟨acc, hacc⟩ : ∃ acc, outL l i = acc := ⟨_, rfl⟩
        rw [hacc] at hfn hown hal
        obtain ⟨av, cv, rfl, hcv⟩ := ownsRow_val hown
        go_wp2_with (at_builtin; refine stop_here ?_)
        refine Stop.mk ?_
        have hxa : Ext No wz (wz.alloc (.cells #[.int .i64 i] 3)) := (Ext.refl _ _).alloc _
        refine wpList_app (v := .slice av acc.length cv) (m := 1) ty_int rfl _ _ rfl rfl (ownsRow_ext hown hxa (fun _ _ => id)) rfl (Rd.of_blk (n := 1) (Blk.new' rfl) rfl (by decide)) (by simp [Value.oneCell']) (by omega) (by unfold maxLen; omega) (by have := hx.size; simp only [World.size_alloc]; omega) ?_
        intro v' w3 hown3 hx3 _ hfr3
        have hX : Ext No w w3 := (hx.transNo hxa).trans hx3 (fun x hx2 h => by have := (hown.lt x h).1; omega)
        have hown3' : Hid (w3.ownsRow w.heap.size 3 1 v' (acc ++ [i]).length ((toI (acc ++ [i])).map int)) := by
          rw [toI_snoc, List.length_append]; exact hown3
        clear hown3 hx3 hfr3 hown hxa hx
        go_wp2_with fail
        go_roundg (n - (i + 1))
        case measure => have := hi'.out; omega
        case rel => exact ⟨i + 1, by omega, by go_num, by rw [hfn.out]; exact hown3'.out, hX⟩
      · have hq : ((nth l i).a == 2) = false := by rw [beq_eq_false_iff_ne]; exact ha
        have hfn : Hid (outL l (i + 1) = outL l i) := by show _ = _; simp only [outL]; rw [if_neg ha]
        clear ha
        go_wp2_with fail
        go_roundg (n - (i + 1))
        case measure => have := hi'.out; omega
        case rel => exact ⟨i + 1, by omega, by go_num, by rw [hfn.out]; exact hown, hx⟩
    · have hd : decide ((i : Int) < n) = false := decide_eq_false (by omega)
      obtain rfl : i = n := by omega
      go_wp2_with fail
      go_ret
      exact ⟨_, rfl, hown, hx⟩

theorem frees70_any (w : World) (bb base : Nat) (v : Value) (l : List T3) (h : BR w bb base v l) (hi : BI l) (o : Int) :
    Calls Try.prog 70 #[.pointer (some ⟨bb, 0, none⟩), .int .i64 o] w fun e w' => ∃ r, e = .returned r ∧ (∃ G, RdI G w' r (toI (allF l o l.length))) ∧ Ext No w w' := by
  by_cases ho : 0 ≤ o ∧ o ≤ 10
  · obtain ⟨k, rfl⟩ : ∃ k : Nat, o = k := ⟨o.toNat, by omega⟩
    refine (frees70_spec w bb base v l h hi.pos k (by omega)).mono ?_
    rintro e w' ⟨r, he, hr, hx⟩
    rw [← toI_len] at hr
    rw [frees_all hi.va] at hr
    exact ⟨r, he, ⟨_, Rd.of_own hr⟩, hx⟩
  · refine (frees70_out w bb base v l h hi.pos o (by omega)).mono ?_
    rintro e w' ⟨he, rfl⟩
    rw [allF_bad hi.va (by omega)]
    exact ⟨_, he, ⟨No, Rd.nil _ _ _⟩, Ext.refl _ _⟩
theorem own_blkp {w : World} {base e k n : Nat} {v : Value} {xs : List Value} (h : w.ownsRow base e k v n xs) (hn : 0 < n) :
    ∃ g cap cs, v = .slice (some ⟨g, 0, none⟩) n cap ∧ n ≤ cap ∧ cap ≤ 9223372036854775807 ∧ Blk w g cs e ∧ n * k ≤ cs.length ∧ OwnOf v g ∧ base ≤ g := by
  obtain ⟨hl, ⟨rfl, h0⟩ | ⟨g, cap, cur, rfl, hb, hg, hn, hm, hs, ht⟩⟩ := h
  · omega
  · unfold maxLen at hm
    refine ⟨g, cap, cur.toList, rfl, hn, hm, by unfold Blk; rw [hg], ?_, rfl, hb⟩
    rw [Array.length_toList, hs]
    exact Nat.mul_le_mul_right _ hn

set_option maxRecDepth 100000 in
set_option maxHeartbeats 6400000 in
theorem same78_spec (w : World) (bp bm ba1 ba2 : Nat) (v v' : Value) (l : List T3) (hb : BR w bp ba1 v l) (hm : BR w bm ba2 v' l 122) (hi : BI l) :
    Calls Try.prog 78 #[.pointer (some ⟨bp, 0, none⟩), .pointer (some ⟨bm, 0, none⟩)] w fun e w' => e = .returned (.bool true) ∧ Ext No w w' := by
  obtain ⟨am, cm, rfl, hmc, hmcap⟩ := hm.val
  have hpos := hi.pos
  go_enter Try.func78, Try.ntmps78
  go_wp2_with fail
  refine (pages71_spec w bp ba1 v l hb hpos).mono ?_
  rintro e w1 ⟨r, rfl, ho, hx1⟩
  have hb1 := hb.extNo hx1
  have hm1 := hm.extNo hx1
  have m1 := hm1.b.cell' (i := 0) rfl
  go_wp2_with fail
  refine (same122_spec w1 r _ l l _ _ (own_rdT ho) hm1.rd).mono ?_
  rintro e w2 ⟨rfl, hx2⟩
  rw [decide_eq_true (rfl : l = l)]
  have hx12 := hx1.transNo hx2
  have hb2 := hb1.extNo hx2
  have hm2 := hm1.extNo hx2
  have ho2 := ownsRow_ext ho hx2 (fun _ _ => id)
  clear hx1 hx2 hb1 hm1 m1 ho
  go_wp2_with fail
  refine (left67_spec w2 bp ba1 v l hb2 hpos).mono ?_
  rintro e w3 ⟨rfl, hx3⟩
  rw [hi.left]
  have hb3 := hb2.extNo hx3
  have hm3 := hm2.extNo hx3
  have ho3 := ownsRow_ext ho2 hx3 (fun _ _ => id)
  have hx13 := hx12.transNo hx3
  clear hb2 hm2 ho2 hx12 hx3
  obtain ⟨N, hN⟩ : ∃ N, frS l = N := ⟨_, rfl⟩
  have hleft := left123_spec w3 bm ba2 _ l hm3 hi.tab
  rw [hN] at hleft ⊢
  go_wp2_with fail
  refine hleft.mono ?_
  rintro e w4 ⟨rfl, hx4⟩
  have hb4 := hb3.extNo hx4
  have hm4 := hm3.extNo hx4
  have ho4 := ownsRow_ext ho3 hx4 (fun _ _ => id)
  have hx14 := hx13.transNo hx4
  clear hb3 hm3 ho3 hx13 hx4 hleft hN
  go_wp2_with fail
  refine (whole68_spec w4 bp ba1 v l hb4 hpos).mono ?_
  rintro e w5 ⟨rfl, hx5⟩
  have hb5 := hb4.extNo hx5
  have hm5 := hm4.extNo hx5
  have ho5 := ownsRow_ext ho4 hx5 (fun _ _ => id)
  have hx15 := hx14.transNo hx5
  clear hb4 hm4 ho4 hx14 hx5
  have hwh := whole124_spec w5 bm ba2 _ l hm5
  obtain ⟨B, hB⟩ : ∃ B, decide (l = full l.length) = B := ⟨_, rfl⟩
  rw [hB] at hwh ⊢
  go_wp2_with fail
  refine hwh.mono ?_
  rintro e w6 ⟨rfl, hx6⟩
  have hb6 := hb5.extNo hx6
  have hm6 := hm5.extNo hx6
  have ho6 := ownsRow_ext ho5 hx6 (fun _ _ => id)
  have hx16 := hx15.transNo hx6
  clear hb5 hm5 ho5 hx15 hx6 hwh hB
  have hBB : (B != B) = false := by simp
  go_wp2_with fail
  go_loopg [6] 13 (fun g s wr => ∃ c : Int, -1 ≤ c ∧ c ≤ 12 ∧ (12 - c).toNat ≤ g ∧ s = .int .i64 c ∧ Ext No w6 wr)
  case atStart => exact ⟨-1, by omega, by omega, by omega, rfl, Ext.refl _ _⟩
  case round =>
    obtain ⟨c, hc0, hc1, hg, rfl, hx⟩ := hrel
    have hg' := Lib.hid hg
    clear hg
    have hbz := hb6.extNo hx
    have hmz := hm6.extNo hx
    obtain ⟨wz, hwz⟩ : ∃ wz, wr = wz := ⟨_, rfl⟩
    rw [hwz] at hbz hmz hx ⊢
    clear hwz
    by_cases h11 : c ≤ 11
    · go_wp2_with fail
      refine (frees70_any wz bp ba1 v l hbz hi c).mono ?_
      rintro e w7 ⟨r7, rfl, ⟨G7, hr7⟩, hx7⟩
      have hm7 := hmz.extNo hx7
      have hX7 := hx.transNo hx7
      clear hbz hmz hx7 hx
      go_wp2_with fail
      refine (frees125_spec w7 bm ba2 _ l hm7 c).mono ?_
      rintro e w8 ⟨r8, rfl, ho8, hx8⟩
      rw [← toI_len] at ho8
      have hr8 : RdI _ w8 r8 (toI (allF l c l.length)) := Rd.of_own ho8
      have hX8 := hX7.transNo hx8
      have hr7' := hr7.extNo hx8
      clear hr7 hm7 hX7 hx8 ho8
      go_wp2_with fail
      refine (eqInts_spec w8 _ _ _ _ _ _ hr7' hr8).mono ?_
      rintro e w9 ⟨rfl, n9, rfl⟩
      rw [decide_eq_true (rfl : toI (allF l c l.length) = _)]
      have hX9 := hX8.transNo ((Ext.refl No w8).drewN n9)
      clear hX8 hr7' hr8
      go_wp2_with fail
      go_roundg ((12 - (c + 1)).toNat)
      case measure => have := hg'.out; omega
      case rel => exact ⟨c + 1, by omega, by omega, by omega, by go_num, hX9⟩
    · obtain ⟨g, cp, cs, rfl, hcp1, hcp2, hBk, hcl, hog, hgb⟩ := own_blkp (ownsRow_ext ho6 hx (fun _ _ => id)) hpos
      have hXw := hx16.transNo hx
      obtain ⟨n, hn⟩ : ∃ n, l.length = n := ⟨_, rfl⟩
      have hn' := Lib.hid hn
      have hgbp : g ≠ bp := fun e => by have := hb.b.lt; omega
      have hgbm : g ≠ bm := fun e => by have := hm.b.lt; omega
      have hgv : ¬ OwnOf v g := fun e => by have := (hb.p.lt g e).2; omega
      have hgv' : ¬ OwnOf (.slice am l.length cm) g := fun e => by have := (hm.p.lt g e).2; omega
      clear ho6 hm6 hb6 hx16 hx
      rw [hn] at hcl hcp1 hpos ⊢
      clear hn
      go_wp2_with fail
      go_loopg [7] n (fun g' s wr => ∃ k : Nat, k + g' = n ∧ s = .int .i64 k ∧ Ext (One g) wz wr ∧ ∃ cs' : List Value, Blk wr g cs' 98 ∧ cs'.length = cs.length)
      case atStart => exact ⟨0, by omega, rfl, Ext.refl _ _, cs, hBk, rfl⟩
      case round =>
        clear hBk
        obtain ⟨k, hk, rfl, hxg, cs', hB', hl'⟩ := hrel
        obtain ⟨wy, hwy⟩ : ∃ wy, wr = wy := ⟨_, rfl⟩
        rw [hwy] at hxg hB' ⊢
        clear hwy
        have hk' := Lib.hid hk
        have hkn : k ≤ n := by omega
        have hl'' := Lib.hid hl'
        clear hk hl'
        by_cases hlt : k < n
        · obtain ⟨u, hu⟩ : ∃ u, cs'[k * 3]? = some u := ⟨_, List.getElem?_eq_getElem (by rw [hl''.out]; omega)⟩
          have ck := hB'.cell' hu
          have fk := hB'.frozen (k * 3)
          have hBn := Lib.hid (hB'.set (k * 3) (.int .i64 9))
          have hu' := Lib.hid hu; clear hu
          have hd : decide ((k : Int) < n) = true := decide_eq_true (by omega)
          go_wp2_with fail
          go_roundg (n - (k + 1))
          case measure => have := hk'.out; omega
          case rel => exact ⟨k + 1, by omega, by go_num, hxg.trans (Ext.set1 _ _ _ _) (fun _ _ h => h), _, hBn.out, by rw [List.length_set]; exact hl''.out⟩
        · have hd : decide ((k : Int) < n) = false := decide_eq_false (by omega)
          have hX : Ext No w wy := hXw.transNew hxg (fun x (e : x = g) => by omega)
          have hby : BR wy.drew bp ba1 v l := (hbz.ext hxg (fun e => hgbp e.symm) (fun x hx (e : x = g) => hgv (e ▸ hx))).extNo ((Ext.refl No wy).drew)
          have hmy := hmz.ext hxg (fun e => hgbm e.symm) (fun x hx (e : x = g) => hgv' (e ▸ hx))
          have v0 := hmy.b.cell' (i := 0) rfl
          rw [hn'.out] at v0
          clear hB' hxg hbz hmz hgbp hgbm hgv hgv' hog hgb
          go_wp2_with fail
          refine anyZ_begin 8 (fun w' => Ext No wy w') (by kernel_rfl) ?_
          have hC : (fun w' : World => Ext No wy w') wy.drew := (Ext.refl No wy).drew
          refine anyZ_take 0 (v := ?_) rfl (by kernel_rfl) (by kernel_rfl) (by kernel_rfl) (by kernel_rfl) (fun _ _ _ h => h) hC (Or.inl ⟨by rfl, ?_⟩) ?_
          rotate_left
          · (intro wq hq; (try dsimp only at hq); go_simp; with_reducible rfl)
          simp only [Act.put, List.setIfInBounds_toArray, List.set_cons_zero, List.set_cons_succ]
          refine anyZ_take 2 (v := ?_) rfl (by kernel_rfl) (by kernel_rfl) (by kernel_rfl) (by kernel_rfl) (fun _ _ _ h => h) hC (Or.inl ⟨by rfl, ?_⟩) ?_
          rotate_left
          · (intro wq hq; (try dsimp only at hq); go_simp; with_reducible rfl)
          simp only [Act.put, List.setIfInBounds_toArray, List.set_cons_zero, List.set_cons_succ]
          refine anyZ_take 3 (v := ?_) rfl (by kernel_rfl) (by kernel_rfl) (by kernel_rfl) (by kernel_rfl) (fun _ _ _ h => h) hC (Or.inl ⟨by rfl, ?_⟩) ?_
          rotate_left
          · (intro wq hq; (try dsimp only at hq); go_simp; with_reducible rfl)
          simp only [Act.put, List.setIfInBounds_toArray, List.set_cons_zero, List.set_cons_succ]
          refine anyZ_take 4 (v := ?_) rfl (by kernel_rfl) (by kernel_rfl) (by kernel_rfl) (by kernel_rfl) (fun _ _ _ h => h) hC (Or.inl ⟨by rfl, ?_⟩) ?_
          rotate_left
          · (intro wq hq; (try dsimp only at hq); go_simp; with_reducible rfl)
          simp only [Act.put, List.setIfInBounds_toArray, List.set_cons_zero, List.set_cons_succ]
          refine anyZ_take 5 (v := ?_) rfl (by kernel_rfl) (by kernel_rfl) (by kernel_rfl) (by kernel_rfl) (fun _ _ _ h => h) hC (Or.inl ⟨by rfl, ?_⟩) ?_
          rotate_left
          · (intro wq hq; (try dsimp only at hq); have v1 := hq.cell v0 id; go_simp; with_reducible rfl)
          simp only [Act.put, List.setIfInBounds_toArray, List.set_cons_zero, List.set_cons_succ]
          refine anyZ_step 1 rfl (by kernel_rfl) (fun K hK => ?_)
          go_simp
          refine (pages71_spec wy.drew bp ba1 v l hby (by rw [hn'.out]; exact hpos)).mono ?_
          rintro e w10 ⟨r10, rfl, ho10, hx10⟩
          have hx10' : Ext No wy w10 := ((Ext.refl No wy).drew).transNo hx10
          have hC2 : (fun w' : World => Ext No wy w') w10 := hx10'
          refine hK _ _ hC2 ?_
          clear hK K
          try simp only [Act.put, List.setIfInBounds_toArray, List.set_cons_zero, List.set_cons_succ]
          refine anyZ_step 6 rfl (by kernel_rfl) (fun K hK => ?_)
          go_simp
          refine (same122_spec w10 r10 _ l l _ _ (own_rdT ho10) (by have := (hmy.extNo hx10').rd; rw [hn'.out] at this; exact this)).mono ?_
          rintro e w11 ⟨rfl, hx11⟩
          rw [decide_eq_true (rfl : l = l)]
          have hx11' := hx10'.transNo hx11
          have hC3 : (fun w' : World => Ext No wy w') w11 := hx11'
          refine hK _ _ hC3 ?_
          clear hK K
          try simp only [Act.put, List.setIfInBounds_toArray, List.set_cons_zero, List.set_cons_succ]
          refine anyZ_take 7 (v := ?_) rfl (by kernel_rfl) (by kernel_rfl) (by kernel_rfl) (by kernel_rfl) (fun _ _ _ h => h) hC3 (Or.inl ⟨by rfl, ?_⟩) ?_
          rotate_left
          · (intro wq hq; (try dsimp only at hq); go_simp; with_reducible rfl)
          simp only [Act.put, List.setIfInBounds_toArray, List.set_cons_zero, List.set_cons_succ]
          refine anyZ_done (by kernel_rfl) ?_ _
          go_wp2_with fail
          go_ret
          exact ⟨rfl, hX.transNo hx11'⟩
end Go.Proofs.Ytjkknjohmekeiaa
