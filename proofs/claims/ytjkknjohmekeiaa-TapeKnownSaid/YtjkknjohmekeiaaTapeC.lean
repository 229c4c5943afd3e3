/- The program's Script of bytes is the script that the bytes say. No condition. -/
import Derived.Test.YtjkknjohmekeiaaTapeA
import Derived.Test.YtjkknjohmekeiaaTapeS
import Derived.Test.YtjkknjohmekeiaaApp
import Derived.Test.YtjkknjohmekeiaaAny
namespace Go.Proofs.Ytjkknjohmekeiaa
open Go.RowKit

theorem one_at (w : World) (r p p' : Nat) (hp : p' = p + 1) (F : Nat → Prop) (l : List Nat) (h : Rdp w r F (l.drop p)) (hd : ¬ F r) :
    Calls Try.prog 82 #[.pointer (some ⟨r, 0, none⟩)] w fun e w' => e = .returned (.int .i64 (bt l p : Nat)) ∧ Rdp w' r F (l.drop p') ∧ Ext (One r) w w' ∧ bt l p < 256 :=
  (one_rdp w r F _ h hd).mono fun e w' ⟨he, h1, h2⟩ => ⟨he, by rw [hp, ← drop_tail]; exact h1, h2, hd0_lt h.lt⟩
theorem two_at (w : World) (r p p1 p2 : Nat) (hp1 : p1 = p + 1) (hp2 : p2 = p + 2) (F : Nat → Prop) (l : List Nat) (h : Rdp w r F (l.drop p)) (hd : ¬ F r) :
    Calls Try.prog 83 #[.pointer (some ⟨r, 0, none⟩)] w fun e w' => e = .returned (.int .i64 (bt l p * 256 + bt l p1 : Nat)) ∧ Rdp w' r F (l.drop p2) ∧ Ext (One r) w w' ∧ bt l p < 256 ∧ bt l p1 < 256 :=
  (two_rdp w r F _ h hd).mono fun e w' ⟨he, h1, h2⟩ => by
    subst hp1 hp2
    rw [drop_tail] at he
    rw [drop_tail, drop_tail] at h1
    exact ⟨he, h1, h2, hd0_lt h.lt, hd0_lt (fun x hx => h.lt x (by rw [← drop_tail] at hx; exact List.mem_of_mem_tail hx))⟩

theorem one_in (w : World) (r p : Nat) (F : Nat → Prop) (m : List Nat) (h : Rdp w r F (m.drop p)) (hd : ¬ F r) :
    Calls Try.prog 82 #[.pointer (some ⟨r, 0, none⟩)] w fun e w' => e = .returned (.int .i64 (bt m p : Nat)) ∧ Rdp w' r F (m.drop (p + 1)) ∧ Ext (One r) w w' :=
  (one_rdp w r F _ h hd).mono fun e w' ⟨he, h1, h2⟩ => ⟨he, by rw [← drop_tail]; exact h1, h2⟩
/-- The reader's block, and all from H on. -/
def Sz (rb H : Nat) : Nat → Prop := fun x => x = rb ∨ H ≤ x
theorem Sz.set (rb cb i : Nat) (w : World) (v : Value) : Ext (Sz rb cb) w (w.setCell ⟨cb, i, none⟩ v) := (Ext.set1 _ _ _ _).mono (fun x _ (e : x = cb) => .inr (by omega))

/-- What stands between two rounds of the lists. -/
structure InvP (w wr : World) (rb ab H : Nat) (l : List Nat) (cs : List Value) (k : Nat) : Prop where
  s : Blk wr w.heap.size [.int .i64 (cpusOf l : Nat), .int .i64 (pagesOf l : Nat), .slice (some ⟨ab, 0, none⟩) (cpusOf l) (cpusOf l), .slice none 0 0] 27
  len : cs.length = cpusOf l
  done : ∀ i, i < k → RdC (Iv (ab + 1) H) wr (nth cs i) (listOf l i)
  rest : ∀ i, k ≤ i → i < cpusOf l → nth cs i = .slice none 0 0
  ext : Ext No w wr
  nums : w.heap.size < rb ∧ rb < ab ∧ ab < H ∧ H ≤ wr.heap.size

theorem InvP.step {S : Nat → Prop} {w wr wr' : World} {rb ab H : Nat} {l : List Nat} {cs : List Value} {k : Nat} (h : InvP w wr rb ab H l cs k) (hx : Ext S wr wr') (hS : ∀ x, S x → x = rb ∨ x = ab ∨ H ≤ x) : InvP w wr' rb ab H l cs k := by
  have h1 := h.nums
  refine ⟨h.s.ext hx (fun hs => by have := hS _ hs; omega), h.len, fun i hi => (h.done i hi).ext hx (fun x hx' hs => by have := hS _ hs; simp only [Iv] at hx'; omega), h.rest,
    h.ext.trans hx (fun x hx' hs => by have := hS _ hs; omega), by have := hx.size; omega⟩
theorem InvP.up {w wr : World} {rb ab H H' : Nat} {l : List Nat} {cs : List Value} {k : Nat} (h : InvP w wr rb ab H l cs k) (hH : H ≤ H') (hH' : H' ≤ wr.heap.size) : InvP w wr rb ab H' l cs k := by
  have h1 := h.nums
  exact ⟨h.s, h.len, fun i hi => (h.done i hi).mono (fun x hx _ => ⟨hx.1, by have := hx.2; omega⟩), h.rest, h.ext, by omega⟩
theorem nth_set_same {α : Type} [Inhabited α] {l : List α} {k : Nat} {x : α} (h : k < l.length) : nth (l.set k x) k = x := by
  rw [nth_eq (by simpa using h)]; simp
theorem nth_set_other {α : Type} [Inhabited α] {l : List α} {k i : Nat} {x : α} (h : i ≠ k) : nth (l.set k x) i = nth l i := by
  unfold nth; simp [List.getD, List.getElem?_set_ne (Ne.symm h)]
theorem InvP.next {w wr : World} {rb ab H H' m : Nat} {l : List Nat} {cs : List Value} {vl : Value} {k : Nat} (h : InvP w wr rb ab H l cs k) (hk : k < cpusOf l) (hown : wr.ownsRow H 44 4 vl m (clsCells (listOf l k))) (hm : m = (listOf l k).length) (hH' : H' = wr.heap.size) :
    InvP w wr rb ab H' l (cs.set k vl) (k + 1) := by
  have h1 := h.nums
  subst hH'
  refine ⟨h.s, by simp [h.len], fun i hi => ?_, fun i h2 h3 => by rw [nth_set_other (by omega)]; exact h.rest i (by omega) h3, h.ext, by omega⟩
  by_cases hik : i = k
  · subst hik
    rw [nth_set_same (by rw [h.len]; exact hk)]
    unfold RdC; rw [← hm]
    exact (Rd.of_own hown).mono (fun x hx _ => ⟨by have := (hown.lt x hx).1; omega, (hown.lt x hx).2⟩)
  · rw [nth_set_other hik]
    exact (h.done i (by omega)).mono (fun x hx _ => ⟨hx.1, by have := hx.2; omega⟩)

set_option maxRecDepth 100000 in
set_option maxHeartbeats 1600000 in
theorem script_spec (w : World) (v : Value) (l : List Nat) (hb : RdB (Iv 0 w.heap.size) w v l) :
    Calls Try.prog 25 #[v] w fun e w' => ∃ r, e = .returned r ∧ RdSo (Iv w.heap.size w'.heap.size) w' r (script l) ∧ Ext No w w' := by
  obtain ⟨a, cap, rfl, hcap1, hcap2⟩ := hb.1.val
  have hmf : ∀ (fn : Fn) (first cap : Array Value) (w : World), (Instr.makeFunc fn first cap).run Try.prog w = .ok (.func fn first cap) w := fun _ _ _ _ => rfl
  have hnr : ¬ Iv 0 w.heap.size (w.heap.size + 1) := by simp [Iv]
  go_enter Try.func25, Try.ntmps25
  go_wp2_with fail
  refine (one_at _ (w.heap.size + 1) 0 1 rfl (Iv 0 w.heap.size) l ⟨_, Blk.new' (by simp), hb.extNo (((Ext.refl No w).alloc _).alloc _)⟩ hnr).mono ?_
  rintro e w1 ⟨rfl, h1, hx1, hbt0⟩
  have hB1 : Blk w1 w.heap.size [.int .i64 0, .int .i64 0, .slice none 0 0, .slice none 0 0] 27 := ((Blk.new _ _ _).alloc _).extOne hx1 (by omega)
  have hX1 : Ext No w w1 := (((Ext.refl No w).alloc _).alloc _).transOne hx1 (.inl (by omega))
  have hs1 := hx1.size
  simp only [World.size_alloc] at hs1
  clear hx1
  have ec : (1 + (bt l 0 : Int) % 8) = (cpusOf l : Nat) := by unfold cpusOf; omega
  have c0 := hB1.cell' (i := 0) rfl
  have f0 := hB1.frozen 0
  go_wp2_with fail
  clear c0 f0 ec
  refine (two_at _ (w.heap.size + 1) 1 2 3 rfl rfl (Iv 0 w.heap.size) l (h1.ext (Ext.set1 _ _ _ _) (by simp [One]) (by simp [One, Iv]; omega)) hnr).mono ?_
  rintro e w2 ⟨rfl, h2, hx2, hbt1, hbt2⟩
  have hB2 : Blk w2 w.heap.size [.int .i64 (cpusOf l : Nat), .int .i64 0, .slice none 0 0, .slice none 0 0] 27 := (hB1.set 0 _).extOne hx2 (by omega)
  have hX2 : Ext No w w2 := (hX1.transOne (Ext.set1 _ _ _ _) (.inl (Nat.le_refl _))).transOne hx2 (.inl (by omega))
  have hs2 := hx2.size
  simp only [World.size_setCell] at hs2
  clear hx2 h1 hB1 hX1
  have c0 := hB2.cell' (i := 0) rfl
  have c1 := hB2.cell' (i := 1) rfl
  have c2 := hB2.cell' (i := 2) rfl
  have f1 := hB2.frozen 1
  have f2 := hB2.frozen 2
  have ep : (1 + ((bt l 1 : Int) * 256 + (bt l 2 : Int)) % 1024) = (pagesOf l : Nat) := by unfold pagesOf; omega
  have hc8 : cpusOf l ≤ 8 := by unfold cpusOf; omega
  have hmk := mk_run mk_rows (cpusOf l) (by omega) (by omega)
  rw [Nat.mul_one] at hmk
  have hlt2 : w.heap.size < w2.heap.size := by omega
  go_wp2_with fail
  clear c0 c1 c2 f1 f2 ep hmk
  obtain ⟨ab, hab⟩ : ∃ ab, w2.heap.size = ab := ⟨_, rfl⟩
  have hxA : Ext (One w.heap.size) w2 (((w2.setCell ⟨w.heap.size, 1, none⟩ (.int .i64 (pagesOf l : Nat))).setCell ⟨w.heap.size, 2, none⟩ (.slice (some ⟨ab, 0, none⟩) (cpusOf l) (cpusOf l))).alloc (.cells (Array.replicate (cpusOf l) (.slice none 0 0)) 42)) :=
    ((Ext.set1 _ _ _ _).transSame (Ext.set1 _ _ _ _)).alloc _
  have hI0 : InvP w (((w2.setCell ⟨w.heap.size, 1, none⟩ (.int .i64 (pagesOf l : Nat))).setCell ⟨w.heap.size, 2, none⟩ (.slice (some ⟨ab, 0, none⟩) (cpusOf l) (cpusOf l))).alloc (.cells (Array.replicate (cpusOf l) (.slice none 0 0)) 42)) (w.heap.size + 1) ab (ab + 1) l (List.replicate (cpusOf l) (.slice none 0 0)) 0 := by
    refine ⟨((hB2.set 1 _).set 2 _).alloc _, by simp, fun i hi => absurd hi (Nat.not_lt_zero _), fun i _ hi => ?_, hX2.transOne hxA (.inl (Nat.le_refl _)), ?_⟩
    · rw [nth_eq (by simpa using hi)]; simp
    · simp only [World.size_alloc, World.size_setCell]; omega
  have hA0 : Blk (((w2.setCell ⟨w.heap.size, 1, none⟩ (.int .i64 (pagesOf l : Nat))).setCell ⟨w.heap.size, 2, none⟩ (.slice (some ⟨ab, 0, none⟩) (cpusOf l) (cpusOf l))).alloc (.cells (Array.replicate (cpusOf l) (.slice none 0 0)) 42)) ab (List.replicate (cpusOf l) (.slice none 0 0)) 42 := by
    have := Blk.new' (w := (w2.setCell ⟨w.heap.size, 1, none⟩ (.int .i64 (pagesOf l : Nat))).setCell ⟨w.heap.size, 2, none⟩ (.slice (some ⟨ab, 0, none⟩) (cpusOf l) (cpusOf l))) (b := ab) (cs := List.replicate (cpusOf l) (.slice none 0 0)) (T := 42) (by simp [hab])
    simpa using this
  have hR0 : Rdp (((w2.setCell ⟨w.heap.size, 1, none⟩ (.int .i64 (pagesOf l : Nat))).setCell ⟨w.heap.size, 2, none⟩ (.slice (some ⟨ab, 0, none⟩) (cpusOf l) (cpusOf l))).alloc (.cells (Array.replicate (cpusOf l) (.slice none 0 0)) 42)) (w.heap.size + 1) (Iv 0 w.heap.size) (l.drop (posL l 0)) :=
    h2.ext hxA (by simp [One]) (by simp [One, Iv]; omega)
  have hz0 : ab + 1 ≤ (((w2.setCell ⟨w.heap.size, 1, none⟩ (.int .i64 (pagesOf l : Nat))).setCell ⟨w.heap.size, 2, none⟩ (.slice (some ⟨ab, 0, none⟩) (cpusOf l) (cpusOf l))).alloc (.cells (Array.replicate (cpusOf l) (.slice none 0 0)) 42)).heap.size := by
    simp only [World.size_alloc, World.size_setCell]; omega
  rw [hab]
  obtain ⟨w3, hw3⟩ : ∃ w3, (((w2.setCell ⟨w.heap.size, 1, none⟩ (.int .i64 (pagesOf l : Nat))).setCell ⟨w.heap.size, 2, none⟩ (.slice (some ⟨ab, 0, none⟩) (cpusOf l) (cpusOf l))).alloc (.cells (Array.replicate (cpusOf l) (.slice none 0 0)) 42)) = w3 := ⟨_, rfl⟩
  rw [hw3] at hI0 hA0 hR0 hz0 ⊢
  clear hw3 hxA hB2 hX2 h2 hab hlt2 hs2 hs1
  go_loopg [28] (cpusOf l) (fun g i wr => ∃ (k : Nat) (cs : List Value), k + g = cpusOf l ∧ i = .int .i64 k ∧ InvP w wr (w.heap.size + 1) ab wr.heap.size l cs k ∧ Blk wr ab cs 42 ∧ Rdp wr (w.heap.size + 1) (Iv 0 w.heap.size) (l.drop (posL l k)))
  case atStart => exact ⟨0, _, by omega, rfl, hI0.up hz0 (Nat.le_refl _), hA0, hR0⟩
  case round =>
    obtain ⟨k, cs, hkg, rfl, hI, hA, hR⟩ := hrel
    have hkg' := Lib.hid hkg
    have hkle : k ≤ cpusOf l := by omega
    clear hkg
    by_cases hlt : k < cpusOf l
    · clear hI0 hA0 hR0 hz0
      have hnums := hI.nums
      go_wp2_with fail
      refine (one_at _ (w.heap.size + 1) (posL l k) (posL l k + 1) rfl (Iv 0 w.heap.size) l hR hnr).mono ?_
      rintro e w4 ⟨rfl, hR4, hx4, hb4⟩
      obtain ⟨n, hn⟩ : ∃ n, bt l (posL l k) % 65 = n := ⟨_, rfl⟩
      have hn65 : n < 65 := by omega
      have hnn := Lib.hid hn; clear hn
      have hI4 := (hI.step hx4 (fun x hx => .inl hx))
      have hA4 := hA.extOne hx4 (by omega)
      have hz4 := hx4.size
      obtain ⟨p0, hp0⟩ : ∃ p0, posL l k + 1 = p0 := ⟨_, rfl⟩
      rw [hp0] at hR4
      have hpp := Lib.hid hp0; clear hp0
      have hset0 : cs.set k (.slice none 0 0) = cs := by
        apply List.ext_getElem (by simp)
        intro i h1 h2
        by_cases e : k = i
        · subst e; have := hI.rest k (Nat.le_refl _) hlt; rw [nth_eq (by rw [hI.len]; exact hlt)] at this; simp [this]
        · simp [e]
      have hset := Lib.hid hset0; clear hset0
      clear hx4 hR hA
      go_wp2_with fail
      obtain ⟨wo, rfl⟩ : ∃ wo : World, wo = wr := ⟨_, rfl⟩
      go_loopg [34] n (fun g j wr => ∃ (m : Nat) (vl : Value), m + g = n ∧ j = .int .i64 m ∧ InvP w wr (w.heap.size + 1) ab w4.heap.size l cs k ∧ Blk wr ab (cs.set k vl) 42 ∧ Rdp wr (w.heap.size + 1) (Iv 0 w.heap.size) (l.drop (p0 + 5 * m)) ∧ wr.ownsRow w4.heap.size 44 4 vl m (clsCells (listAt l p0 m)))
      case atStart => exact ⟨0, _, by omega, rfl, hI4.up hz4 (Nat.le_refl _), by rw [hset.out]; exact hA4, hR4, World.ownsRow_nil _ _ _ _⟩
      case round =>
        obtain ⟨m, vl, hmg, rfl, hIr, hAr, hRr, hown⟩ := hrel
        have hmg' := Lib.hid hmg
        have hmle : m ≤ n := by omega
        clear hmg
        have hnums4 := hIr.nums
        by_cases hmn : m < n
        · have ht : (m : Int) < (bt l (posL l k) : Int) % 65 := by have := hnn.out; omega
          go_wp2_with fail
          clear ht
          obtain ⟨p, hp⟩ : ∃ p, p0 + 5 * m = p := ⟨_, rfl⟩
          rw [hp] at hRr
          have hpp5 := Lib.hid hp; clear hp
          refine (one_at _ (w.heap.size + 1) p (p + 1) rfl (Iv 0 w.heap.size) l hRr hnr).mono ?_
          rintro e w5 ⟨rfl, hR5, hx5, hb5⟩
          have hz5 := hx5.size
          have hI5 := hIr.step hx5 (fun x hx => .inl hx)
          have hA5 := hAr.extOne hx5 (by omega)
          have ho5 := ownsRow_ext hown hx5 (fun x hx (hs : x = _) => by have := (hown.lt x hx).1; omega)
          clear hx5 hIr hAr hown hRr
          go_wp2_with fail
          obtain ⟨cb, hcb⟩ : ∃ cb, w5.heap.size = cb := ⟨_, rfl⟩
          rw [hcb]
          refine (one_at _ (w.heap.size + 1) (p + 1) (p + 2) rfl (Iv 0 w.heap.size) l (hR5.ext ((Ext.refl No _).alloc _) id (fun _ _ => id)) hnr).mono ?_
          rintro e w6 ⟨rfl, hR6, hx6, hb6⟩
          have hx56 : Ext (Sz (w.heap.size + 1) cb) w5 w6 := ((Ext.refl _ _).alloc _).trans hx6 (fun x _ hs => .inl hs)
          have hI6 := hI5.step hx56 (fun x hx => by rcases hx with h | h <;> omega)
          have hA6 := hA5.ext hx56 (fun hs => by rcases hs with h | h <;> omega)
          have hol : ∀ x, vl.ownBlock = some x → w4.heap.size ≤ x ∧ x < cb := fun x hx => by have := (ho5.lt x hx); omega
          have ho6 := ownsRow_ext ho5 hx56 (fun x hx hs => by have := hol x hx; rcases hs with hs | hs <;> omega)
          have hC6 : Blk w6 cb [.int .i64 ((bt l p : Int) % 14), .int .i64 0, .int .i64 0, .int .i64 0] 44 := (Blk.new' hcb.symm).extOne hx6 (by omega)
          have hz6 := hx56.size
          have hcle : wr.heap.size ≤ cb := by omega
          have hcb' := Lib.hid hcb
          clear hcb hx6 hx56 ho5 hI5 hR5 hA5
          have c1 := hC6.cell' (i := 1) rfl
          have f1 := hC6.frozen 1
          go_wp2_with fail
          clear c1 f1
          refine (two_at _ (w.heap.size + 1) (p + 2) (p + 3) (p + 4) rfl rfl (Iv 0 w.heap.size) l (hR6.ext (Ext.set1 _ _ _ _) (by simp [One]; omega) (by simp [One, Iv]; omega)) hnr).mono ?_
          rintro e w7 ⟨rfl, hR7, hx7, hb7, hb7'⟩
          have hx67 : Ext (Sz (w.heap.size + 1) cb) w6 w7 := (Sz.set _ cb _ _ _).trans hx7 (fun x _ hs => .inl hs)
          have hI7 := hI6.step hx67 (fun x hx => by rcases hx with h | h <;> omega)
          have hA7 := hA6.ext hx67 (fun hs => by rcases hs with h | h <;> omega)
          have ho7 := ownsRow_ext ho6 hx67 (fun x hx hs => by have := hol x hx; rcases hs with hs | hs <;> omega)
          have hC7 := (hC6.set 1 (.int .i64 (bt l (p + 1) : Nat))).extOne hx7 (by omega)
          have hz7 := hx67.size
          clear hx67 hx7 ho6 hI6 hR6 hC6 hA6
          have c2 := hC7.cell' (i := 2) rfl
          have f2 := hC7.frozen 2
          go_wp2_with fail
          clear c2 f2
          refine (one_at _ (w.heap.size + 1) (p + 4) (p + 5) rfl (Iv 0 w.heap.size) l (hR7.ext (Ext.set1 _ _ _ _) (by simp [One]; omega) (by simp [One, Iv]; omega)) hnr).mono ?_
          rintro e w8 ⟨rfl, hR8, hx8, hb8⟩
          have hx78 : Ext (Sz (w.heap.size + 1) cb) w7 w8 := (Sz.set _ cb _ _ _).trans hx8 (fun x _ hs => .inl hs)
          have hI8 := hI7.step hx78 (fun x hx => by rcases hx with h | h <;> omega)
          have hA8 := hA7.ext hx78 (fun hs => by rcases hs with h | h <;> omega)
          have ho8 := ownsRow_ext ho7 hx78 (fun x hx hs => by have := hol x hx; rcases hs with hs | hs <;> omega)
          have hC8 := (hC7.set 2 (.int .i64 ((bt l (p + 2) : Int) * 256 + (bt l (p + 3) : Int)))).extOne hx8 (by omega)
          have hz8 := hx78.size
          clear hx78 hx8 ho7 hI7 hR7 hC7 hA7
          have c3 := hC8.cell' (i := 3) rfl
          have f3 := hC8.frozen 3
          have hx89 : Ext (Sz (w.heap.size + 1) cb) w8 (w8.setCell ⟨cb, 3, none⟩ (.int .i64 (bt l (p + 4) : Nat))) := Sz.set _ cb _ _ _
          have hI9 := hI8.step hx89 (fun x hx => by rcases hx with h | h <;> omega)
          have hA9 := hA8.ext hx89 (fun hs => by rcases hs with h | h <;> omega)
          have ho9 := ownsRow_ext ho8 hx89 (fun x hx hs => by have := hol x hx; rcases hs with hs | hs <;> omega)
          have hR9 := hR8.ext (Ext.set1 w8 cb 3 (.int .i64 (bt l (p + 4) : Nat))) (by simp [One]; omega) (by simp [One, Iv]; omega)
          have hC9 : Blk (w8.setCell ⟨cb, 3, none⟩ (.int .i64 (bt l (p + 4) : Nat))) cb (clCells (callAt l p)) 44 := hC8.set 3 (.int .i64 (bt l (p + 4) : Nat))
          have hz9 : cb < (w8.setCell ⟨cb, 3, none⟩ (.int .i64 (bt l (p + 4) : Nat))).heap.size := hC9.lt
          clear hx89 ho8 hI8 hR8 hC8 hA8
          go_wp2_with fail
          clear c3 f3
          obtain ⟨w9, hw9⟩ : ∃ w9, w8.setCell ⟨cb, 3, none⟩ (.int .i64 (bt l (p + 4) : Nat)) = w9 := ⟨_, rfl⟩
          rw [hw9] at hI9 hA9 ho9 hR9 hC9 hz9 ⊢
          clear hw9
          obtain ⟨a6, cap6, rfl, hc6⟩ := ownsRow_val ho9
          have hklen : k < (cs.set k (.slice a6 m cap6)).length := by rw [List.length_set, hI9.len]; exact hlt
          have hgk : (cs.set k (.slice a6 m cap6))[k]? = some (.slice a6 m cap6) := by rw [nth_some hklen, nth_set_same (by rw [hI9.len]; exact hlt)]
          have C1 : w9.cell? ⟨w.heap.size, 2, none⟩ = some (.slice (some ⟨ab, 0, none⟩) (cpusOf l) (cpusOf l)) := hI9.s.cell' (i := 2) rfl
          have C2 : w9.cell? ⟨ab, k, none⟩ = some (.slice a6 m cap6) := hA9.cell' hgk
          have C3 : w9.cell? ⟨cb, 0, none⟩ = some (.int .i64 ((bt l p : Int) % 14)) := hC9.cell' (i := 0) rfl
          have C4 : w9.cell? ⟨cb, 1, none⟩ = some (.int .i64 (bt l (p + 1) : Int)) := hC9.cell' (i := 1) rfl
          have C5 : w9.cell? ⟨cb, 2, none⟩ = some (.int .i64 ((bt l (p + 2) : Int) * 256 + (bt l (p + 3) : Int))) := hC9.cell' (i := 2) rfl
          have C6 : w9.cell? ⟨cb, 3, none⟩ = some (.int .i64 (bt l (p + 4) : Int)) := hC9.cell' (i := 3) rfl
          refine anyZ_begin 12 (fun w' => w'.cell? ⟨w.heap.size, 2, none⟩ = some (.slice (some ⟨ab, 0, none⟩) (cpusOf l) (cpusOf l)) ∧ w'.cell? ⟨ab, k, none⟩ = some (.slice a6 m cap6) ∧ w'.cell? ⟨cb, 0, none⟩ = some (.int .i64 ((bt l p : Int) % 14)) ∧ w'.cell? ⟨cb, 1, none⟩ = some (.int .i64 (bt l (p + 1) : Int)) ∧ w'.cell? ⟨cb, 2, none⟩ = some (.int .i64 ((bt l (p + 2) : Int) * 256 + (bt l (p + 3) : Int))) ∧ w'.cell? ⟨cb, 3, none⟩ = some (.int .i64 (bt l (p + 4) : Int))) (by kernel_rfl) ?_
          have hC : (fun w' : World => w'.cell? ⟨w.heap.size, 2, none⟩ = some (.slice (some ⟨ab, 0, none⟩) (cpusOf l) (cpusOf l)) ∧ w'.cell? ⟨ab, k, none⟩ = some (.slice a6 m cap6) ∧ w'.cell? ⟨cb, 0, none⟩ = some (.int .i64 ((bt l p : Int) % 14)) ∧ w'.cell? ⟨cb, 1, none⟩ = some (.int .i64 (bt l (p + 1) : Int)) ∧ w'.cell? ⟨cb, 2, none⟩ = some (.int .i64 ((bt l (p + 2) : Int) * 256 + (bt l (p + 3) : Int))) ∧ w'.cell? ⟨cb, 3, none⟩ = some (.int .i64 (bt l (p + 4) : Int))) w9.drew := ⟨C1, C2, C3, C4, C5, C6⟩
          refine anyZ_take 0 (v := ?_) rfl (by kernel_rfl) (by kernel_rfl) (by kernel_rfl) (by kernel_rfl) (fun _ _ _ h => h) hC (Or.inl ⟨by rfl, ?_⟩) ?_
          rotate_left
          · (intro wq hq; (try dsimp only at hq); go_simp; with_reducible rfl)
          simp only [Act.put, List.setIfInBounds_toArray, List.set_cons_zero, List.set_cons_succ]
          refine anyZ_take 1 (v := ?_) rfl (by kernel_rfl) (by kernel_rfl) (by kernel_rfl) (by kernel_rfl) (fun _ _ _ h => h) hC (Or.inl ⟨by rfl, ?_⟩) ?_
          rotate_left
          · (intro wq hq; (try dsimp only at hq); go_simp; with_reducible rfl)
          simp only [Act.put, List.setIfInBounds_toArray, List.set_cons_zero, List.set_cons_succ]
          refine anyZ_take 2 (v := ?_) rfl (by kernel_rfl) (by kernel_rfl) (by kernel_rfl) (by kernel_rfl) (fun _ _ _ h => h) hC (Or.inl ⟨by rfl, ?_⟩) ?_
          rotate_left
          · (intro wq hq; (try dsimp only at hq); go_simp; with_reducible rfl)
          simp only [Act.put, List.setIfInBounds_toArray, List.set_cons_zero, List.set_cons_succ]
          refine anyZ_take 3 (v := ?_) rfl (by kernel_rfl) (by kernel_rfl) (by kernel_rfl) (by kernel_rfl) (fun _ _ _ h => h) hC (Or.inl ⟨by rfl, ?_⟩) ?_
          rotate_left
          · (intro wq hq; (try dsimp only at hq); go_simp; with_reducible rfl)
          simp only [Act.put, List.setIfInBounds_toArray, List.set_cons_zero, List.set_cons_succ]
          refine anyZ_take 4 (v := ?_) rfl (by kernel_rfl) (by kernel_rfl) (by kernel_rfl) (by kernel_rfl) (fun _ _ _ h => h) hC (Or.inl ⟨by rfl, ?_⟩) ?_
          rotate_left
          · (intro wq hq; (try dsimp only at hq); go_simp; with_reducible rfl)
          simp only [Act.put, List.setIfInBounds_toArray, List.set_cons_zero, List.set_cons_succ]
          refine anyZ_take 5 (v := ?_) rfl (by kernel_rfl) (by kernel_rfl) (by kernel_rfl) (by kernel_rfl) (fun _ _ _ h => h) hC (Or.inl ⟨by rfl, ?_⟩) ?_
          rotate_left
          · (intro wq hq; (try dsimp only at hq); go_simp; with_reducible rfl)
          simp only [Act.put, List.setIfInBounds_toArray, List.set_cons_zero, List.set_cons_succ]
          refine anyZ_take 6 (v := ?_) rfl (by kernel_rfl) (by kernel_rfl) (by kernel_rfl) (by kernel_rfl) (fun _ _ _ h => h) hC (Or.inl ⟨by rfl, ?_⟩) ?_
          rotate_left
          · (intro wq hq; (try dsimp only at hq); go_simp; with_reducible rfl)
          simp only [Act.put, List.setIfInBounds_toArray, List.set_cons_zero, List.set_cons_succ]
          refine anyZ_take 7 (v := ?_) rfl (by kernel_rfl) (by kernel_rfl) (by kernel_rfl) (by kernel_rfl) (fun _ _ _ h => h) hC (Or.inl ⟨by rfl, ?_⟩) ?_
          rotate_left
          · (intro wq hq; (try dsimp only at hq); go_simp; with_reducible rfl)
          simp only [Act.put, List.setIfInBounds_toArray, List.set_cons_zero, List.set_cons_succ]
          refine anyZ_take 8 (v := ?_) rfl (by kernel_rfl) (by kernel_rfl) (by kernel_rfl) (by kernel_rfl) (fun _ _ _ h => h) hC (Or.inl ⟨by rfl, ?_⟩) ?_
          rotate_left
          · (intro wq hq; (try dsimp only at hq); go_simp; with_reducible rfl)
          simp only [Act.put, List.setIfInBounds_toArray, List.set_cons_zero, List.set_cons_succ]
          refine anyZ_step 9 rfl (by kernel_rfl) (fun K hK => ?_)
          go_simp
          have hxB : Ext (Sz (w.heap.size + 1) w9.heap.size) w9 (w9.drew.alloc (.cells (clCells (callAt l p)).toArray 44)) := (Ext.refl _ w9).drew.alloc _
          have hownB := ownsRow_ext ho9 hxB (fun x hx hs => by have := (ho9.lt x hx); rcases hs with hs | hs <;> omega)
          have hIB := hI9.step hxB (fun x hx => by rcases hx with h | h <;> omega)
          have hAB := hA9.ext hxB (fun hs => by rcases hs with h | h <;> omega)
          have hRB : Rdp (w9.drew.alloc (.cells (clCells (callAt l p)).toArray 44)) (w.heap.size + 1) (Iv 0 w.heap.size) (l.drop (p + 5)) := hR9.ext ((Ext.refl No w9).drew.alloc _) id (fun _ _ => id)
          have hCB : Ext No w9 (w9.drew.alloc (.cells (clCells (callAt l p)).toArray 44)) := (Ext.refl No w9).drew.alloc _
          have hzB := hxB.size
          refine hK _ _ ⟨hCB.cell C1 id, hCB.cell C2 id, hCB.cell C3 id, hCB.cell C4 id, hCB.cell C5 id, hCB.cell C6 id⟩ ?_
          clear hK K
          try simp only [Act.put, List.setIfInBounds_toArray, List.set_cons_zero, List.set_cons_succ]
          refine anyZ_step 10 rfl (by kernel_rfl) (fun K hK => ?_)
          refine held_app (v := .slice a6 m cap6) ty_call rfl _ _ rfl rfl hownB rfl (Rd.of_blk (n := 1) (Blk.new' rfl) rfl (by decide)) (by simp [Value.oneCell']) (by omega) (by unfold maxLen; omega) (Nat.le_trans (by omega) hzB) ?_
          intro v' w10 hown' hx10 _ hfr
          obtain ⟨a9, cap9, rfl, hc9⟩ := ownsRow_val hown'
          have hnb : ∀ x, OwnOf (.slice a6 m cap6) x → w4.heap.size ≤ x ∧ x < cb := hol
          have hIC := hIB.step hx10 (fun x hx => by have := hnb x hx; omega)
          have hAC := hAB.ext hx10 (fun hs => by have := hnb _ hs; omega)
          have hRC := hRB.ext hx10 (fun hs => by have := hnb _ hs; omega) (fun x hx hs => by have := hnb _ hs; simp [Iv] at hx; omega)
          have hCC : Ext (OwnOf (.slice a6 m cap6)) w9 w10 := ((Ext.refl _ w9).drew.alloc _).transSame hx10
          have hn1 : ¬ OwnOf (.slice a6 m cap6) w.heap.size := fun hs => by have := hnb _ hs; omega
          have hn2 : ¬ OwnOf (.slice a6 m cap6) ab := fun hs => by have := hnb _ hs; omega
          have hn3 : ¬ OwnOf (.slice a6 m cap6) cb := fun hs => by have := hnb _ hs; omega
          have hD : (fun w' : World => w'.cell? ⟨w.heap.size, 2, none⟩ = some (.slice (some ⟨ab, 0, none⟩) (cpusOf l) (cpusOf l)) ∧ w'.cell? ⟨ab, k, none⟩ = some (.slice a6 m cap6) ∧ w'.cell? ⟨cb, 0, none⟩ = some (.int .i64 ((bt l p : Int) % 14)) ∧ w'.cell? ⟨cb, 1, none⟩ = some (.int .i64 (bt l (p + 1) : Int)) ∧ w'.cell? ⟨cb, 2, none⟩ = some (.int .i64 ((bt l (p + 2) : Int) * 256 + (bt l (p + 3) : Int))) ∧ w'.cell? ⟨cb, 3, none⟩ = some (.int .i64 (bt l (p + 4) : Int))) w10 := ⟨hCC.cell C1 hn1, hCC.cell C2 hn2, hCC.cell C3 hn3, hCC.cell C4 hn3, hCC.cell C5 hn3, hCC.cell C6 hn3⟩
          have hE2 := hCC.cell C2 hn2
          have hf2 := hAC.frozen k
          clear C1 C2 C3 C4 C5 C6
          refine hK _ _ hD ?_
          clear hK K
          try simp only [Act.put, List.setIfInBounds_toArray, List.set_cons_zero, List.set_cons_succ]
          refine anyZ_take 11 (v := ?_) rfl (by kernel_rfl) (by kernel_rfl) (by kernel_rfl) (by kernel_rfl) (fun _ _ _ h => h) hD (Or.inl ⟨by rfl, ?_⟩) ?_
          rotate_left
          · (intro wq hq; (try dsimp only at hq); go_simp; with_reducible rfl)
          simp only [Act.put, List.setIfInBounds_toArray, List.set_cons_zero, List.set_cons_succ]
          refine anyZ_last rfl (by kernel_rfl) (fun K hK => ?_)
          go_simp
          refine hK _ _ ?_
          clear hK K
          try simp only [Act.put, List.setIfInBounds_toArray, List.set_cons_zero, List.set_cons_succ]
          refine anyZ_done (by kernel_rfl) ?_ _
          have hmm := hmg'.out
          clear hC hD
          go_wp2
          go_roundg (n - (m + 1))
          case measure => omega
          case rel =>
            have hxs : Ext (One ab) w10 (w10.setCell ⟨ab, k, none⟩ (.slice a9 (m + 1) cap9)) := Ext.set1 _ _ _ _
            have hfrn := hIC.nums
            refine ⟨m + 1, .slice a9 (m + 1) cap9, by omega, by go_num, hIC.step hxs (fun x (e : x = ab) => .inr (.inl e)), ?_, ?_, ?_⟩
            · have := hAC.set k (.slice a9 (m + 1) cap9)
              rw [List.set_set] at this; exact this
            · rw [show p0 + 5 * (m + 1) = p + 5 from by have := hpp5.out; omega]
              exact hRC.ext hxs (by simp [One]; omega) (by simp [One, Iv]; omega)
            · have := ownsRow_ext hown' hxs (fun x hx (e : x = ab) => by have := (hown'.lt x hx).1; omega)
              rw [listAt_succ, clsCells_snoc, hpp5.out]; exact this
        · obtain rfl : m = n := by omega
          have ht : ¬ (m : Int) < (bt l (posL l k) : Int) % 65 := by have := hnn.out; omega
          have hkk := hkg'.out
          go_wp2
          go_roundg (cpusOf l - (k + 1))
          case measure => omega
          case rel =>
            refine ⟨k + 1, _, by omega, by go_num, hIr.next hlt (m := m) (vl := vl) (by rw [← hpp.out, ← hnn.out] at hown; rw [← hnn.out]; exact hown) (by rw [← hnn.out]; simp [listOf, listAt]) rfl, hAr, ?_⟩
            rw [show posL l (k + 1) = p0 + 5 * m from by rw [← hnn.out, ← hpp.out]; rfl]
            exact hRr
    · obtain rfl : k = cpusOf l := by omega
      have hcc : RdCC (Iv ab wr.heap.size) (Iv ab wr.heap.size) wr (.slice (some ⟨ab, 0, none⟩) (cpusOf l) (cpusOf l)) (listsTo l (cpusOf l)) := by
        have hnums := hI.nums
        have hlen : (listsTo l (cpusOf l)).length = cpusOf l := by simp [listsTo]
        refine ⟨cs, by rw [hlen, hI.len], ?_, fun i hi => ?_⟩
        · rw [hlen]
          have := Rd.of_blk hA (n := cpusOf l) (sz := 1) (by rw [hI.len]; omega) (by unfold maxLen; omega)
          exact this.mono (fun x (e : x = ab) _ => by simp only [Iv]; omega)
        · rw [hlen] at hi
          have : nth (listsTo l (cpusOf l)) i = listOf l i := by rw [nth_eq (by rw [hlen]; exact hi)]; simp [listsTo]
          rw [this]
          exact (hI.done i hi).mono (fun x hx _ => ⟨by have := hx.1; omega, hx.2⟩)
      have hX := hI.ext
      have hS := hI.s
      have hnums := hI.nums
      obtain ⟨Hc, hHc⟩ : ∃ Hc, wr.heap.size = Hc := ⟨_, rfl⟩
      rw [hHc] at hcc hnums
      obtain ⟨rest, hrest⟩ : ∃ rest, restOf l = rest := ⟨_, rfl⟩
      rw [show l.drop (posL l (cpusOf l)) = rest from hrest] at hR
      have hrest' := Lib.hid hrest; have hHc' : Hc ≤ wr.heap.size := by omega
      clear hrest hHc hI hA hI0 hA0 hR0 hz0
      obtain ⟨vr, hr1, hr2⟩ := id hR
      obtain ⟨ar, capr, rfl, hcr1, hcr2⟩ := hr2.1.val
      have cr := hr1.cell' (i := 0) rfl
      clear hr1 hr2
      obtain ⟨T, hT⟩ : ∃ T, min 4096 rest.length = T := ⟨_, rfl⟩
      have hT1 : T ≤ 4096 := by omega
      have hT2 : T ≤ rest.length := by omega
      have hT' := Lib.hid hT
      clear hT
      have hfin : ∀ (wr : World) (vp : Value) (j : Nat), j = T → Blk wr w.heap.size [.int .i64 (cpusOf l : Nat), .int .i64 (pagesOf l : Nat), .slice (some ⟨ab, 0, none⟩) (cpusOf l) (cpusOf l), vp] 27 →
          wr.ownsRow Hc 3 1 vp j ((rest.take j).map fun (x : Nat) => .int .i64 (x : Int)) → Hc ≤ wr.heap.size → RdCC (Iv ab Hc) (Iv ab Hc) wr (.slice (some ⟨ab, 0, none⟩) (cpusOf l) (cpusOf l)) (listsTo l (cpusOf l)) →
          RdSo (Iv (w.heap.size + 1) wr.heap.size) wr (.agg #[.int .i64 (cpusOf l : Nat), .int .i64 (pagesOf l : Nat), .slice (some ⟨ab, 0, none⟩) (cpusOf l) (cpusOf l), vp]) (script l) := by
        intro wr vp j hj hS hown hz hcc
        have hlast : rest.take j = rest.take 4096 := by
          have h1 := hT'.out
          rcases Nat.le_total rest.length 4096 with h | h
          · rw [List.take_of_length_le (by omega), List.take_of_length_le h]
          · rw [show j = 4096 by omega]
        have h3 : (script l).picks = (rest.take j).map fun (x : Nat) => (x : Int) := by simp only [script]; rw [hrest'.out, hlast]
        have h4 := (Rd.of_own hown).mono (G := Iv (w.heap.size + 1) wr.heap.size) (fun x hx _ => by have := hown.lt x hx; simp only [Iv]; omega)
        refine ⟨_, _, rfl, hcc.mono (fun x hx _ => by simp [Iv] at *; omega) (fun x hx _ => by simp [Iv] at *; omega), ?_, ?_, fun x hx => by have := hown.lt x hx; simp only [Iv]; omega⟩
        · unfold RdI
          rw [h3, List.length_map, List.length_take, Nat.min_eq_left (by omega), List.map_map]
          exact h4
        · rw [h3, List.length_map, List.length_take, Nat.min_eq_left (by omega), List.map_map]
          exact ownsRow_base hown (Nat.zero_le _)
      have hfin' := Lib.hid hfin
      clear hfin
      rcases Nat.lt_or_ge 4096 rest.length with hle | hle
      · have hle' : ¬ (rest.length : Int) ≤ 4096 := by omega
        have hTe : T = 4096 := by have := hT'.out; omega
        subst hTe
        go_wp2_with fail
        clear cr
        go_loopg [69] (4096) (fun g t wr => ∃ (j : Nat) (vp : Value), j + g = 4096 ∧ t = .int .i64 j ∧ Blk wr w.heap.size [.int .i64 (cpusOf l : Nat), .int .i64 (pagesOf l : Nat), .slice (some ⟨ab, 0, none⟩) (cpusOf l) (cpusOf l), vp] 27 ∧
          wr.ownsRow Hc 3 1 vp j ((rest.take j).map fun (x : Nat) => .int .i64 (x : Int)) ∧ Rdp wr (w.heap.size + 1) (Iv 0 w.heap.size) (rest.drop j) ∧
          Hc ≤ wr.heap.size ∧ RdCC (Iv ab Hc) (Iv ab Hc) wr (.slice (some ⟨ab, 0, none⟩) (cpusOf l) (cpusOf l)) (listsTo l (cpusOf l)) ∧ Ext No w wr)
        case atStart => exact ⟨0, _, by omega, rfl, hS, World.ownsRow_nil _ _ _ _, hR, hHc', hcc, hX⟩
        case round =>
          obtain ⟨j, vp, hj, rfl, hS, hown, hR, hz, hcc, hX⟩ := hrel
          obtain ⟨av, capv, rfl, hcv⟩ := ownsRow_val hown
          have hjT : j ≤ 4096 := by omega
          have hj' := Lib.hid hj
          clear hj
          by_cases hlt : j < 4096
          · have h4096 : (j : Int) < 4096 := by omega
            have c3 := hS.cell' (i := 3) rfl
            go_wp2_with fail
            refine anyZ_begin 7 (fun w' => w'.cell? ⟨w.heap.size, 3, none⟩ = some (.slice av j capv)) (by kernel_rfl) ?_
            have hC : (fun w' : World => w'.cell? ⟨w.heap.size, 3, none⟩ = some (.slice av j capv)) wr.drew := c3
            refine anyZ_take 0 (v := ?_) rfl (by kernel_rfl) (by kernel_rfl) (by kernel_rfl) (by kernel_rfl) (fun _ _ _ h => h) hC (Or.inl ⟨by rfl, ?_⟩) ?_
            rotate_left
            · (intro wq hq; (try dsimp only at hq); go_simp; with_reducible rfl)
            simp only [Act.put, List.setIfInBounds_toArray, List.set_cons_zero, List.set_cons_succ]
            refine anyZ_take 1 (v := ?_) rfl (by kernel_rfl) (by kernel_rfl) (by kernel_rfl) (by kernel_rfl) (fun _ _ _ h => h) hC (Or.inl ⟨by rfl, ?_⟩) ?_
            rotate_left
            · (intro wq hq; (try dsimp only at hq); go_simp; with_reducible rfl)
            simp only [Act.put, List.setIfInBounds_toArray, List.set_cons_zero, List.set_cons_succ]
            refine anyZ_take 2 (v := ?_) rfl (by kernel_rfl) (by kernel_rfl) (by kernel_rfl) (by kernel_rfl) (fun _ _ _ h => h) hC (Or.inl ⟨by rfl, ?_⟩) ?_
            rotate_left
            · (intro wq hq; (try dsimp only at hq); go_simp; with_reducible rfl)
            simp only [Act.put, List.setIfInBounds_toArray, List.set_cons_zero, List.set_cons_succ]
            refine anyZ_step 3 rfl (by kernel_rfl) (fun K hK => ?_)
            go_simp
            refine (one_in wr.drew (w.heap.size + 1) j (Iv 0 w.heap.size) rest (hR.ext ((Ext.refl No _).drew) id (fun _ _ => id)) hnr).mono ?_
            rintro e w5 ⟨rfl, hR5, hx5⟩
            have hx5' : Ext (Sz (w.heap.size + 1) wr.heap.size) wr w5 := (Ext.refl _ wr).drew.trans hx5 (fun x _ hs => .inl hs)
            have hC5 : w5.cell? ⟨w.heap.size, 3, none⟩ = some (.slice av j capv) := hx5.cell c3 (by simp [One])
            refine hK _ _ hC5 ?_
            clear hK K
            try simp only [Act.put, List.setIfInBounds_toArray, List.set_cons_zero, List.set_cons_succ]
            refine anyZ_step 4 rfl (by kernel_rfl) (fun K hK => ?_)
            go_simp
            have hx6 : Ext (Sz (w.heap.size + 1) wr.heap.size) wr (w5.alloc (.cells #[.int .i64 (bt rest j : Nat)] 3)) := hx5'.alloc _
            have hC6 : (w5.alloc (.cells #[.int .i64 (bt rest j : Nat)] 3)).cell? ⟨w.heap.size, 3, none⟩ = some (.slice av j capv) := ((Ext.refl No _).alloc _).cell hC5 id
            have hown6 := ownsRow_ext hown hx6 (fun x hx hs => by have := (hown.lt x hx); rcases hs with hs | hs <;> omega)
            refine hK _ _ hC6 ?_
            clear hK K
            try simp only [Act.put, List.setIfInBounds_toArray, List.set_cons_zero, List.set_cons_succ]
            refine anyZ_step 5 rfl (by kernel_rfl) (fun K hK => ?_)
            refine held_app (v := .slice av j capv) ty_int rfl _ _ rfl rfl hown6 rfl (Rd.of_blk (n := 1) (Blk.new' rfl) rfl (by decide)) (by simp [Value.oneCell']) (by omega) (by unfold maxLen; omega) (Nat.le_trans (by omega) hx6.size) ?_
            intro v' w7 hown' hx7 _ hfr
            obtain ⟨a9, cap9, rfl, hc9⟩ := ownsRow_val hown'
            have hvb : ∀ x, OwnOf (.slice av j capv) x → Hc ≤ x := fun x hx => (hown.lt x hx).1
            have hC7 : w7.cell? ⟨w.heap.size, 3, none⟩ = some (.slice av j capv) := hx7.cell hC6 (fun h => by have : Hc ≤ w.heap.size := hvb _ h; omega)
            have hx8 : Ext (Sz (w.heap.size + 1) Hc) wr w7 := (hx6.mono (fun x _ h => h.imp id (fun h => by omega))).trans hx7 (fun x _ hs => .inr (hvb x hs))
            have hS8 := hS.ext hx8 (fun h => by rcases h with h | h <;> omega)
            have hR8 : Rdp w7 (w.heap.size + 1) (Iv 0 w.heap.size) (rest.drop (j + 1)) :=
              (hR5.ext ((Ext.refl No _).alloc _) id (fun _ _ => id)).ext hx7 (fun h => by have := hvb _ h; omega) (fun x hx hs => by have := hvb _ hs; simp [Iv] at hx; omega)
            have hcc8 := hcc.ext hx8 (fun x hx h => by rcases h with h | h <;> simp [Iv] at hx <;> omega) (fun x hx h => by rcases h with h | h <;> simp [Iv] at hx <;> omega)
            have f8 := hS8.frozen 3
            clear c3
            refine hK _ _ hC7 ?_
            clear hK K
            try simp only [Act.put, List.setIfInBounds_toArray, List.set_cons_zero, List.set_cons_succ]
            refine anyZ_take 6 (v := ?_) rfl (by kernel_rfl) (by kernel_rfl) (by kernel_rfl) (by kernel_rfl) (fun _ _ _ h => h) hC7 (Or.inl ⟨by rfl, ?_⟩) ?_
            rotate_left
            · (intro wq hq; (try dsimp only at hq); go_simp; with_reducible rfl)
            simp only [Act.put, List.setIfInBounds_toArray, List.set_cons_zero, List.set_cons_succ]
            refine anyZ_last rfl (by kernel_rfl) (fun K hK => ?_)
            go_simp
            refine hK _ _ ?_
            clear hK K
            try simp only [Act.put, List.setIfInBounds_toArray, List.set_cons_zero, List.set_cons_succ]
            refine anyZ_done (by kernel_rfl) ?_ _
            have hxs : Ext (One w.heap.size) w7 (w7.setCell ⟨w.heap.size, 3, none⟩ (.slice a9 (j + 1) cap9)) := Ext.set1 _ _ _ _
            have hjj := hj'.out
            clear hC
            go_wp2
            go_roundg (4096 - (j + 1))
            case measure => omega
            case rel =>
              refine ⟨j + 1, _, by omega, by go_num, hS8.set 3 _, ?_, hR8.ext hxs (by simp [One]) (by simp [One, Iv]; omega), Nat.le_trans hz (Nat.le_trans hx8.size hxs.size), hcc8.ext hxs (fun x hx (e : x = w.heap.size) => by simp [Iv] at hx; omega) (fun x hx (e : x = w.heap.size) => by simp [Iv] at hx; omega), ?_⟩
              · have := ownsRow_ext hown' hxs (fun x hx (e : x = w.heap.size) => by have := (hown'.lt x hx).1; omega)
                rw [take_nth (by omega), List.map_append, ← bt_nth (show j < rest.length by omega)]
                exact this
              · exact (hX.trans hx8 (fun x hx' h => by rcases h with h | h <;> omega)).transOne hxs (.inl (by omega))
          · have hjT' : j = 4096 := by omega
            have ht : ¬ (j : Int) < ((4096 : Nat) : Int) := by omega
            have hres := hfin'.out wr _ j hjT' hS hown hz hcc
            clear hjT'
            have c0 := hS.cell' (i := 0) rfl
            have c1 := hS.cell' (i := 1) rfl
            have c2 := hS.cell' (i := 2) rfl
            have c3 := hS.cell' (i := 3) rfl
            have f0 := hS.frozen 0
            have f1 := hS.frozen 1
            have f2 := hS.frozen 2
            have f3 := hS.frozen 3
            have hZ4 : Blk ((((wr.setCell ⟨w.heap.size, 0, none⟩ (.int .i64 (cpusOf l : Nat))).setCell ⟨w.heap.size, 1, none⟩ (.int .i64 (pagesOf l : Nat))).setCell ⟨w.heap.size, 2, none⟩ (.slice (some ⟨ab, 0, none⟩) (cpusOf l) (cpusOf l))).setCell ⟨w.heap.size, 3, none⟩ (.slice av j capv)) w.heap.size [.int .i64 (cpusOf l : Nat), .int .i64 (pagesOf l : Nat), .slice (some ⟨ab, 0, none⟩) (cpusOf l) (cpusOf l), .slice av j capv] 27 :=
              (((hS.set 0 _).set 1 _).set 2 _).set 3 _
            have hxs : Ext (One w.heap.size) wr ((((wr.setCell ⟨w.heap.size, 0, none⟩ (.int .i64 (cpusOf l : Nat))).setCell ⟨w.heap.size, 1, none⟩ (.int .i64 (pagesOf l : Nat))).setCell ⟨w.heap.size, 2, none⟩ (.slice (some ⟨ab, 0, none⟩) (cpusOf l) (cpusOf l))).setCell ⟨w.heap.size, 3, none⟩ (.slice av j capv)) :=
              (((Ext.set1 _ _ _ _).transSame (Ext.set1 _ _ _ _)).transSame (Ext.set1 _ _ _ _)).transSame (Ext.set1 _ _ _ _)
            have hfinal := (hres.ext hxs (fun x hx (e : x = _) => by simp [Iv] at hx; omega)).mono (F' := Iv w.heap.size ((((wr.setCell ⟨w.heap.size, 0, none⟩ (.int .i64 (cpusOf l : Nat))).setCell ⟨w.heap.size, 1, none⟩ (.int .i64 (pagesOf l : Nat))).setCell ⟨w.heap.size, 2, none⟩ (.slice (some ⟨ab, 0, none⟩) (cpusOf l) (cpusOf l))).setCell ⟨w.heap.size, 3, none⟩ (.slice av j capv)).heap.size) (fun x hx hx2 => ⟨by have := hx.1; omega, hx2⟩)
            have hXf := hX.transOne hxs (.inl (Nat.le_refl _))
            have d0 := hZ4.cell' (i := 0) rfl
            have d1 := hZ4.cell' (i := 1) rfl
            have d2 := hZ4.cell' (i := 2) rfl
            have d3 := hZ4.cell' (i := 3) rfl
            have hfinal' := Lib.hid hfinal
            clear hfinal hres hcc
            go_wp2_with fail
            refine bodyPost_ret (v := .agg #[.int .i64 (cpusOf l : Nat), .int .i64 (pagesOf l : Nat), .slice (some ⟨ab, 0, none⟩) (cpusOf l) (cpusOf l), .slice av j capv]) (by simp [results, Try.results25, go_sem, d0, d1, d2, d3]) rfl ⟨_, rfl, hfinal'.out, hXf⟩
      · have hle' : (rest.length : Int) ≤ 4096 := by omega
        have hTe : rest.length = T := by have := hT'.out; omega
        subst hTe
        go_wp2_with fail
        clear cr
        go_loopg [69] (rest.length) (fun g t wr => ∃ (j : Nat) (vp : Value), j + g = rest.length ∧ t = .int .i64 j ∧ Blk wr w.heap.size [.int .i64 (cpusOf l : Nat), .int .i64 (pagesOf l : Nat), .slice (some ⟨ab, 0, none⟩) (cpusOf l) (cpusOf l), vp] 27 ∧
          wr.ownsRow Hc 3 1 vp j ((rest.take j).map fun (x : Nat) => .int .i64 (x : Int)) ∧ Rdp wr (w.heap.size + 1) (Iv 0 w.heap.size) (rest.drop j) ∧
          Hc ≤ wr.heap.size ∧ RdCC (Iv ab Hc) (Iv ab Hc) wr (.slice (some ⟨ab, 0, none⟩) (cpusOf l) (cpusOf l)) (listsTo l (cpusOf l)) ∧ Ext No w wr)
        case atStart => exact ⟨0, _, by omega, rfl, hS, World.ownsRow_nil _ _ _ _, hR, hHc', hcc, hX⟩
        case round =>
          obtain ⟨j, vp, hj, rfl, hS, hown, hR, hz, hcc, hX⟩ := hrel
          obtain ⟨av, capv, rfl, hcv⟩ := ownsRow_val hown
          have hjT : j ≤ rest.length := by omega
          have hj' := Lib.hid hj
          clear hj
          by_cases hlt : j < rest.length
          · have h4096 : (j : Int) < 4096 := by omega
            have c3 := hS.cell' (i := 3) rfl
            go_wp2_with fail
            refine anyZ_begin 7 (fun w' => w'.cell? ⟨w.heap.size, 3, none⟩ = some (.slice av j capv)) (by kernel_rfl) ?_
            have hC : (fun w' : World => w'.cell? ⟨w.heap.size, 3, none⟩ = some (.slice av j capv)) wr.drew := c3
            refine anyZ_take 0 (v := ?_) rfl (by kernel_rfl) (by kernel_rfl) (by kernel_rfl) (by kernel_rfl) (fun _ _ _ h => h) hC (Or.inl ⟨by rfl, ?_⟩) ?_
            rotate_left
            · (intro wq hq; (try dsimp only at hq); go_simp; with_reducible rfl)
            simp only [Act.put, List.setIfInBounds_toArray, List.set_cons_zero, List.set_cons_succ]
            refine anyZ_take 1 (v := ?_) rfl (by kernel_rfl) (by kernel_rfl) (by kernel_rfl) (by kernel_rfl) (fun _ _ _ h => h) hC (Or.inl ⟨by rfl, ?_⟩) ?_
            rotate_left
            · (intro wq hq; (try dsimp only at hq); go_simp; with_reducible rfl)
            simp only [Act.put, List.setIfInBounds_toArray, List.set_cons_zero, List.set_cons_succ]
            refine anyZ_take 2 (v := ?_) rfl (by kernel_rfl) (by kernel_rfl) (by kernel_rfl) (by kernel_rfl) (fun _ _ _ h => h) hC (Or.inl ⟨by rfl, ?_⟩) ?_
            rotate_left
            · (intro wq hq; (try dsimp only at hq); go_simp; with_reducible rfl)
            simp only [Act.put, List.setIfInBounds_toArray, List.set_cons_zero, List.set_cons_succ]
            refine anyZ_step 3 rfl (by kernel_rfl) (fun K hK => ?_)
            go_simp
            refine (one_in wr.drew (w.heap.size + 1) j (Iv 0 w.heap.size) rest (hR.ext ((Ext.refl No _).drew) id (fun _ _ => id)) hnr).mono ?_
            rintro e w5 ⟨rfl, hR5, hx5⟩
            have hx5' : Ext (Sz (w.heap.size + 1) wr.heap.size) wr w5 := (Ext.refl _ wr).drew.trans hx5 (fun x _ hs => .inl hs)
            have hC5 : w5.cell? ⟨w.heap.size, 3, none⟩ = some (.slice av j capv) := hx5.cell c3 (by simp [One])
            refine hK _ _ hC5 ?_
            clear hK K
            try simp only [Act.put, List.setIfInBounds_toArray, List.set_cons_zero, List.set_cons_succ]
            refine anyZ_step 4 rfl (by kernel_rfl) (fun K hK => ?_)
            go_simp
            have hx6 : Ext (Sz (w.heap.size + 1) wr.heap.size) wr (w5.alloc (.cells #[.int .i64 (bt rest j : Nat)] 3)) := hx5'.alloc _
            have hC6 : (w5.alloc (.cells #[.int .i64 (bt rest j : Nat)] 3)).cell? ⟨w.heap.size, 3, none⟩ = some (.slice av j capv) := ((Ext.refl No _).alloc _).cell hC5 id
            have hown6 := ownsRow_ext hown hx6 (fun x hx hs => by have := (hown.lt x hx); rcases hs with hs | hs <;> omega)
            refine hK _ _ hC6 ?_
            clear hK K
            try simp only [Act.put, List.setIfInBounds_toArray, List.set_cons_zero, List.set_cons_succ]
            refine anyZ_step 5 rfl (by kernel_rfl) (fun K hK => ?_)
            refine held_app (v := .slice av j capv) ty_int rfl _ _ rfl rfl hown6 rfl (Rd.of_blk (n := 1) (Blk.new' rfl) rfl (by decide)) (by simp [Value.oneCell']) (by omega) (by unfold maxLen; omega) (Nat.le_trans (by omega) hx6.size) ?_
            intro v' w7 hown' hx7 _ hfr
            obtain ⟨a9, cap9, rfl, hc9⟩ := ownsRow_val hown'
            have hvb : ∀ x, OwnOf (.slice av j capv) x → Hc ≤ x := fun x hx => (hown.lt x hx).1
            have hC7 : w7.cell? ⟨w.heap.size, 3, none⟩ = some (.slice av j capv) := hx7.cell hC6 (fun h => by have : Hc ≤ w.heap.size := hvb _ h; omega)
            have hx8 : Ext (Sz (w.heap.size + 1) Hc) wr w7 := (hx6.mono (fun x _ h => h.imp id (fun h => by omega))).trans hx7 (fun x _ hs => .inr (hvb x hs))
            have hS8 := hS.ext hx8 (fun h => by rcases h with h | h <;> omega)
            have hR8 : Rdp w7 (w.heap.size + 1) (Iv 0 w.heap.size) (rest.drop (j + 1)) :=
              (hR5.ext ((Ext.refl No _).alloc _) id (fun _ _ => id)).ext hx7 (fun h => by have := hvb _ h; omega) (fun x hx hs => by have := hvb _ hs; simp [Iv] at hx; omega)
            have hcc8 := hcc.ext hx8 (fun x hx h => by rcases h with h | h <;> simp [Iv] at hx <;> omega) (fun x hx h => by rcases h with h | h <;> simp [Iv] at hx <;> omega)
            have f8 := hS8.frozen 3
            clear c3
            refine hK _ _ hC7 ?_
            clear hK K
            try simp only [Act.put, List.setIfInBounds_toArray, List.set_cons_zero, List.set_cons_succ]
            refine anyZ_take 6 (v := ?_) rfl (by kernel_rfl) (by kernel_rfl) (by kernel_rfl) (by kernel_rfl) (fun _ _ _ h => h) hC7 (Or.inl ⟨by rfl, ?_⟩) ?_
            rotate_left
            · (intro wq hq; (try dsimp only at hq); go_simp; with_reducible rfl)
            simp only [Act.put, List.setIfInBounds_toArray, List.set_cons_zero, List.set_cons_succ]
            refine anyZ_last rfl (by kernel_rfl) (fun K hK => ?_)
            go_simp
            refine hK _ _ ?_
            clear hK K
            try simp only [Act.put, List.setIfInBounds_toArray, List.set_cons_zero, List.set_cons_succ]
            refine anyZ_done (by kernel_rfl) ?_ _
            have hxs : Ext (One w.heap.size) w7 (w7.setCell ⟨w.heap.size, 3, none⟩ (.slice a9 (j + 1) cap9)) := Ext.set1 _ _ _ _
            have hjj := hj'.out
            clear hC
            go_wp2
            go_roundg (rest.length - (j + 1))
            case measure => omega
            case rel =>
              refine ⟨j + 1, _, by omega, by go_num, hS8.set 3 _, ?_, hR8.ext hxs (by simp [One]) (by simp [One, Iv]; omega), Nat.le_trans hz (Nat.le_trans hx8.size hxs.size), hcc8.ext hxs (fun x hx (e : x = w.heap.size) => by simp [Iv] at hx; omega) (fun x hx (e : x = w.heap.size) => by simp [Iv] at hx; omega), ?_⟩
              · have := ownsRow_ext hown' hxs (fun x hx (e : x = w.heap.size) => by have := (hown'.lt x hx).1; omega)
                rw [take_nth (by omega), List.map_append, ← bt_nth (show j < rest.length by omega)]
                exact this
              · exact (hX.trans hx8 (fun x hx' h => by rcases h with h | h <;> omega)).transOne hxs (.inl (by omega))
          · have hjT' : j = rest.length := by omega
            have ht : ¬ (j : Int) < ((rest.length : Nat) : Int) := by omega
            have hres := hfin'.out wr _ j hjT' hS hown hz hcc
            clear hjT'
            have c0 := hS.cell' (i := 0) rfl
            have c1 := hS.cell' (i := 1) rfl
            have c2 := hS.cell' (i := 2) rfl
            have c3 := hS.cell' (i := 3) rfl
            have f0 := hS.frozen 0
            have f1 := hS.frozen 1
            have f2 := hS.frozen 2
            have f3 := hS.frozen 3
            have hZ4 : Blk ((((wr.setCell ⟨w.heap.size, 0, none⟩ (.int .i64 (cpusOf l : Nat))).setCell ⟨w.heap.size, 1, none⟩ (.int .i64 (pagesOf l : Nat))).setCell ⟨w.heap.size, 2, none⟩ (.slice (some ⟨ab, 0, none⟩) (cpusOf l) (cpusOf l))).setCell ⟨w.heap.size, 3, none⟩ (.slice av j capv)) w.heap.size [.int .i64 (cpusOf l : Nat), .int .i64 (pagesOf l : Nat), .slice (some ⟨ab, 0, none⟩) (cpusOf l) (cpusOf l), .slice av j capv] 27 :=
              (((hS.set 0 _).set 1 _).set 2 _).set 3 _
            have hxs : Ext (One w.heap.size) wr ((((wr.setCell ⟨w.heap.size, 0, none⟩ (.int .i64 (cpusOf l : Nat))).setCell ⟨w.heap.size, 1, none⟩ (.int .i64 (pagesOf l : Nat))).setCell ⟨w.heap.size, 2, none⟩ (.slice (some ⟨ab, 0, none⟩) (cpusOf l) (cpusOf l))).setCell ⟨w.heap.size, 3, none⟩ (.slice av j capv)) :=
              (((Ext.set1 _ _ _ _).transSame (Ext.set1 _ _ _ _)).transSame (Ext.set1 _ _ _ _)).transSame (Ext.set1 _ _ _ _)
            have hfinal := (hres.ext hxs (fun x hx (e : x = _) => by simp [Iv] at hx; omega)).mono (F' := Iv w.heap.size ((((wr.setCell ⟨w.heap.size, 0, none⟩ (.int .i64 (cpusOf l : Nat))).setCell ⟨w.heap.size, 1, none⟩ (.int .i64 (pagesOf l : Nat))).setCell ⟨w.heap.size, 2, none⟩ (.slice (some ⟨ab, 0, none⟩) (cpusOf l) (cpusOf l))).setCell ⟨w.heap.size, 3, none⟩ (.slice av j capv)).heap.size) (fun x hx hx2 => ⟨by have := hx.1; omega, hx2⟩)
            have hXf := hX.transOne hxs (.inl (Nat.le_refl _))
            have d0 := hZ4.cell' (i := 0) rfl
            have d1 := hZ4.cell' (i := 1) rfl
            have d2 := hZ4.cell' (i := 2) rfl
            have d3 := hZ4.cell' (i := 3) rfl
            have hfinal' := Lib.hid hfinal
            clear hfinal hres hcc
            go_wp2_with fail
            refine bodyPost_ret (v := .agg #[.int .i64 (cpusOf l : Nat), .int .i64 (pagesOf l : Nat), .slice (some ⟨ab, 0, none⟩) (cpusOf l) (cpusOf l), .slice av j capv]) (by simp [results, Try.results25, go_sem, d0, d1, d2, d3]) rfl ⟨_, rfl, hfinal'.out, hXf⟩
end Go.Proofs.Ytjkknjohmekeiaa
