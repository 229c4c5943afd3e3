/- The document's Script of bytes is the script that the bytes say. No condition. -/
import Derived.Test.YtjkknjohmekeiaaTapeA
import Derived.Test.YtjkknjohmekeiaaTapeS
import Derived.Test.YtjkknjohmekeiaaApp
import Derived.Test.YtjkknjohmekeiaaAny
namespace Go.Proofs.Ytjkknjohmekeiaa
open Go.RowKit

/-- The answer's reader at a place. -/
theorem next_at (w : World) (r p p' : Nat) (hp : p' = p + 1) (F : Nat → Prop) (v : Value) (l : List Nat) (h : Rdr w r F v l (l.drop p)) (hd : ¬ F r) :
    Calls Try.prog 84 #[.pointer (some ⟨r, 0, none⟩)] w fun e w' => e = .returned (.int .i64 (bt l p : Nat)) ∧ Rdr w' r F v l (l.drop p') ∧ Ext (One r) w w' ∧ bt l p < 256 :=
  (next_rdr w r F v l _ h hd).mono fun e w' ⟨he, h1, h2⟩ => ⟨he, by rw [hp, ← drop_tail]; exact h1, h2, hd0_lt h.lt⟩
theorem next_in (w : World) (r p : Nat) (F : Nat → Prop) (v : Value) (l m : List Nat) (h : Rdr w r F v l (m.drop p)) (hd : ¬ F r) :
    Calls Try.prog 84 #[.pointer (some ⟨r, 0, none⟩)] w fun e w' => e = .returned (.int .i64 (bt m p : Nat)) ∧ Rdr w' r F v l (m.drop (p + 1)) ∧ Ext (One r) w w' :=
  (next_rdr w r F v l _ h hd).mono fun e w' ⟨he, h1, h2⟩ => ⟨he, by rw [← drop_tail]; exact h1, h2⟩
theorem two2_at (w : World) (r p p1 p2 : Nat) (hp1 : p1 = p + 1) (hp2 : p2 = p + 2) (F : Nat → Prop) (v : Value) (l : List Nat) (h : Rdr w r F v l (l.drop p)) (hd : ¬ F r) :
    Calls Try.prog 85 #[.pointer (some ⟨r, 0, none⟩)] w fun e w' => e = .returned (.int .i64 (bt l p * 256 + bt l p1 : Nat)) ∧ Rdr w' r F v l (l.drop p2) ∧ Ext (One r) w w' ∧ bt l p < 256 ∧ bt l p1 < 256 :=
  (two2_rdr w r F v l _ h hd).mono fun e w' ⟨he, h1, h2⟩ => by
    subst hp1 hp2
    rw [drop_tail] at he
    rw [drop_tail, drop_tail] at h1
    exact ⟨he, h1, h2, hd0_lt h.lt, hd0_lt (fun x hx => h.lt x (by rw [← drop_tail] at hx; exact List.mem_of_mem_tail hx))⟩

/-- The reader's block, and all from H on. -/
def Sx (rb H : Nat) : Nat → Prop := fun x => x = rb ∨ H ≤ x

/-- What stands between two rounds of the lists: sb: the script's block; the lists so far lie below H. -/
structure InvL (w wr : World) (rb sb M H : Nat) (l : List Nat) (vc : Value) (k : Nat) : Prop where
  s : Blk wr sb [.int .i64 (cpusOf l : Nat), .int .i64 (pagesOf l : Nat), vc, .slice none 0 0] 27
  lists : ∃ vs : List Value, vs.length = k ∧ wr.ownsRow M 42 1 vc k vs ∧ ∀ i, i < k → RdC (fun x => M ≤ x ∧ x < H ∧ ¬ OwnOf vc x) wr (nth vs i) (listOf l i)
  z : Blk wr w.heap.size [.int .i64 0, .int .i64 0, .slice none 0 0, .slice none 0 0] 27
  ext : Ext No w wr
  size : M ≤ wr.heap.size
  own : ∀ x, OwnOf vc x → x < H
  sM : sb < M
  rs : rb < M ∧ rb ≠ sb ∧ w.heap.size < rb ∧ M ≤ H ∧ w.heap.size < sb

theorem InvL.step {S : Nat → Prop} {w wr wr' : World} {rb sb M H : Nat} {l : List Nat} {vc : Value} {k : Nat} (h : InvL w wr rb sb M H l vc k) (hx : Ext S wr wr') (hS : ∀ x, S x → x = rb ∨ H ≤ x) : InvL w wr' rb sb M H l vc k := by
  have h1 := h.rs
  have h2 := h.sM
  obtain ⟨vs, hl, ho, hr⟩ := h.lists
  refine ⟨h.s.ext hx (fun hs => by have := hS _ hs; omega), ⟨vs, hl, ownsRow_ext ho hx (fun x hx' hs => ?_), fun i hi => (hr i hi).ext hx (fun x hx' hs => ?_)⟩,
    h.z.ext hx (fun hs => by have := hS _ hs; omega), h.ext.trans hx (fun x hx' hs => ?_), Nat.le_trans h.size hx.size, h.own, h2, h1⟩
  · have := hS _ hs; have := h.own x hx'; have := (ho.lt x hx').1; omega
  · have := hS _ hs; omega
  · have := hS _ hs; omega
theorem InvL.up {w wr : World} {rb sb M H H' : Nat} {l : List Nat} {vc : Value} {k : Nat} (h : InvL w wr rb sb M H l vc k) (hH : H ≤ H') : InvL w wr rb sb M H' l vc k := by
  obtain ⟨vs, hl, ho, hr⟩ := h.lists
  exact ⟨h.s, ⟨vs, hl, ho, fun i hi => (hr i hi).mono (fun x hx _ => ⟨hx.1, by omega, hx.2.2⟩)⟩, h.z, h.ext, h.size, fun x hx => by have := h.own x hx; omega, h.sM, by have := h.rs; omega⟩

theorem InvL.cc {w wr : World} {rb sb M H : Nat} {l : List Nat} {vc : Value} {k : Nat} (h : InvL w wr rb sb M H l vc k) : RdCC (Iv M H) (Iv M H) wr vc (listsTo l k) := by
  obtain ⟨vs, hl, ho, hr⟩ := h.lists
  have hlen : (listsTo l k).length = k := by simp [listsTo]
  refine ⟨vs, by rw [hlen, hl], ?_, fun i hi => ?_⟩
  · rw [hlen]; exact (Rd.of_own ho).mono (fun x hx _ => ⟨(ho.lt x hx).1, h.own x hx⟩)
  · rw [hlen] at hi
    have : nth (listsTo l k) i = listOf l i := by rw [nth_eq (by rw [hlen]; exact hi)]; simp [listsTo]
    rw [this]
    exact (hr i hi).mono (fun x hx _ => ⟨hx.1, hx.2.1⟩)

theorem InvL.snoc {w wr w9 : World} {rb sb M H k m : Nat} {l : List Nat} {vc vc' v6 : Value} {vs : List Value} {o : Obj} (h : InvL w wr rb sb M H l vc k) (hH : H ≤ wr.heap.size)
    (hvl : vs.length = k) (hvo : wr.ownsRow M 42 1 vc k vs) (hvr : ∀ i, i < k → RdC (fun x => M ≤ x ∧ x < H ∧ ¬ OwnOf vc x) wr (nth vs i) (listOf l i))
    (hown : wr.ownsRow H 44 4 v6 m (clsCells (listOf l k))) (hm : m = (listOf l k).length)
    (hx9 : Ext (OwnOf vc) (wr.alloc o) w9) (hown' : w9.ownsRow M 42 1 vc' (k + 1) (vs ++ [v6])) (hfr : ∀ x, OwnOf vc' x → OwnOf vc x ∨ (wr.alloc o).heap.size ≤ x) :
    InvL w (w9.setCell ⟨sb, 2, none⟩ vc') rb sb M (w9.setCell ⟨sb, 2, none⟩ vc').heap.size l vc' (k + 1) := by
  have h1 := h.rs
  have h2 := h.sM
  have hxa : Ext (OwnOf vc) wr w9 := ((Ext.refl (OwnOf vc) wr).alloc o).transSame hx9
  have hz : wr.heap.size < w9.heap.size := by have := hx9.size; simp only [World.size_alloc] at this; omega
  have hxs : Ext (One sb) w9 (w9.setCell ⟨sb, 2, none⟩ vc') := Ext.set1 _ _ _ _
  have hze : (w9.setCell ⟨sb, 2, none⟩ vc').heap.size = w9.heap.size := by simp [World.setCell]
  have hnv : ∀ x, OwnOf vc x → M ≤ x := fun x hx => (hvo.lt x hx).1
  rw [hze]
  refine ⟨?_, ⟨vs ++ [v6], by simp [hvl], ownsRow_ext hown' hxs (fun x hx (e : x = sb) => by have := (hown'.lt x hx).1; omega), fun i hi => ?_⟩, ?_, ?_, ?_, fun x hx => (hown'.lt x hx).2, h2, by have := h.size; omega⟩
  · exact (h.s.ext hxa (fun hs => by have := hnv _ hs; omega)).set 2 vc'
  · by_cases hik : i < k
    · rw [nth_append_left (by omega)]
      refine (((hvr i hik).ext hxa (fun x hx hs => hx.2.2 hs)).ext hxs (fun x hx (e : x = sb) => by omega)).mono (fun x hx _ => ⟨hx.1, by omega, fun hc => ?_⟩)
      rcases hfr x hc with hc | hc
      · exact hx.2.2 hc
      · simp only [World.size_alloc] at hc; omega
    · obtain rfl : i = k := by omega
      subst hvl
      rw [nth_snoc]
      have hr6 : RdC (OwnOf v6) wr v6 (listOf l vs.length) := by unfold RdC; rw [← hm]; exact Rd.of_own hown
      have h6 : ∀ x, OwnOf v6 x → H ≤ x ∧ x < wr.heap.size := fun x hx => hown.lt x hx
      have hne : ∀ x, OwnOf v6 x → ¬ OwnOf vc x := fun x hx hc => by have := h.own x hc; have := h6 x hx; omega
      refine ((hr6.ext hxa hne).ext hxs (fun x hx (e : x = sb) => by have := h6 x hx; omega)).mono (fun x hx _ => ⟨by have := h6 x hx; omega, by have := h6 x hx; omega, fun hc => ?_⟩)
      rcases hfr x hc with hc | hc
      · exact hne x hx hc
      · simp only [World.size_alloc] at hc; have := h6 x hx; omega
  · exact (h.z.ext hxa (fun hs => by have := hnv _ hs; omega)).setOther _ _ (by show _ ≠ sb; omega)
  · refine (h.ext.trans hxa (fun x hx hs => by have := hnv _ hs; omega)).transOne hxs (.inl (by omega))
  · rw [hze]; have := h.size; omega

set_option maxRecDepth 100000 in
set_option maxHeartbeats 1600000 in
theorem script2_spec (w : World) (v : Value) (l : List Nat) (hb : RdB (Iv 0 w.heap.size) w v l) :
    Calls Try.prog 27 #[v] w fun e w' => ∃ r, e = .returned r ∧ RdS (Iv w.heap.size w'.heap.size) w' r (script l) ∧ Ext No w w' := by
  obtain ⟨a, cap, rfl, hcap1, hcap2⟩ := hb.1.val
  go_enter Try.func27, Try.ntmps27
  go_wp2_with fail
  refine (next_at _ (w.heap.size + 1) 0 1 rfl (Iv 0 w.heap.size) (.slice a l.length cap) l ⟨0, Blk.new' (by simp), Nat.zero_le _, rfl, hb.extNo (((Ext.refl No w).alloc _).alloc _)⟩ (by simp [Iv])).mono ?_
  rintro e w1 ⟨rfl, h1, hx1, hbt0⟩
  have hB1 : Blk w1 w.heap.size [.int .i64 0, .int .i64 0, .slice none 0 0, .slice none 0 0] 27 := ((Blk.new _ _ _).alloc _).extOne hx1 (by omega)
  have hX1 : Ext No w w1 := (((Ext.refl No w).alloc _).alloc _).transOne hx1 (.inl (by omega))
  have hs1 := hx1.size
  simp only [World.size_alloc] at hs1
  clear hx1
  go_wp2_with fail
  have ec : (1 + (bt l 0 : Int) % 8) = (cpusOf l : Nat) := by unfold cpusOf; omega
  rw [ec]
  have hec := Lib.hid ec; clear ec
  refine (two2_at _ (w.heap.size + 1) 1 2 3 rfl rfl (Iv 0 w.heap.size) (.slice a l.length cap) l (h1.ext ((Ext.refl No _).alloc _) id (fun _ _ => id)) (by simp [Iv])).mono ?_
  rintro e w2 ⟨rfl, h2, hx2, hbt1, hbt2⟩
  obtain ⟨sb, hsb⟩ : ∃ sb, w1.heap.size = sb := ⟨_, rfl⟩
  have hS2 : Blk w2 sb [.int .i64 (cpusOf l : Nat), .int .i64 0, .slice none 0 0, .slice none 0 0] 27 := (Blk.new' hsb.symm).extOne hx2 (by omega)
  have hB2 := (hB1.alloc (.cells #[.int .i64 (cpusOf l : Nat), .int .i64 0, .slice none 0 0, .slice none 0 0] 27)).extOne hx2 (by omega)
  have hX2 : Ext No w w2 := (hX1.alloc _).transOne hx2 (.inl (by omega))
  have hs2 := hx2.size
  simp only [World.size_alloc] at hs2
  rw [hsb] at hs1 hs2
  clear hx2 h1 hB1 hX1
  rw [hsb]
  have hsb' := Lib.hid hsb; clear hsb
  have c0 := hS2.cell' (i := 0) rfl
  have c2 := hS2.cell' (i := 2) rfl
  have c1 := hS2.cell' (i := 1) rfl
  have f1 := hS2.frozen 1
  have ep : (1 + ((bt l 1 : Int) * 256 + (bt l 2 : Int)) % 1024) = (pagesOf l : Nat) := by unfold pagesOf; omega
  go_wp2_with fail
  clear c0 c1 c2 f1 ep
  have hS3 : Blk (w2.setCell ⟨sb, 1, none⟩ (.int .i64 (pagesOf l : Nat))) sb [.int .i64 (cpusOf l : Nat), .int .i64 (pagesOf l : Nat), .slice none 0 0, .slice none 0 0] 27 := hS2.set 1 _
  have hI0 : InvL w (w2.setCell ⟨sb, 1, none⟩ (.int .i64 (pagesOf l : Nat))) (w.heap.size + 1) sb (sb + 1) w2.heap.size l (.slice none 0 0) 0 :=
    ⟨hS3, ⟨[], rfl, World.ownsRow_nil _ _ _ _, fun i h => absurd h (Nat.not_lt_zero _)⟩, hB2.setOther _ _ (by simp; omega), hX2.transOne (Ext.set1 _ _ _ _) (.inl (by omega)), by simp [World.setCell]; omega, fun x h => by simp [OwnOf, Value.ownBlock] at h, by omega, by omega⟩
  have hR0 : Rdr (w2.setCell ⟨sb, 1, none⟩ (.int .i64 (pagesOf l : Nat))) (w.heap.size + 1) (Iv 0 w.heap.size) (.slice a l.length cap) l (l.drop (posL l 0)) := h2.ext (Ext.set1 _ _ _ _) (by simp [One]; omega) (by simp [One, Iv]; omega)
  have hz0 : w2.heap.size ≤ (w2.setCell ⟨sb, 1, none⟩ (.int .i64 (pagesOf l : Nat))).heap.size := by simp [World.setCell]
  obtain ⟨w3, hw3⟩ : ∃ w3, w2.setCell ⟨sb, 1, none⟩ (.int .i64 (pagesOf l : Nat)) = w3 := ⟨_, rfl⟩
  rw [hw3] at hI0 hR0 hz0 ⊢
  clear hw3 hS3 hS2 hB2 hX2 h2
  have hnr : ¬ Iv 0 w.heap.size (w.heap.size + 1) := by simp [Iv]
  go_loopw [5] (fun i wr => ∃ (k : Nat) (vc : Value), k ≤ cpusOf l ∧ i = .int .i64 k ∧ InvL w wr (w.heap.size + 1) sb (sb + 1) wr.heap.size l vc k ∧ Rdr wr (w.heap.size + 1) (Iv 0 w.heap.size) (.slice a l.length cap) l (l.drop (posL l k))) (fun i _ => cpusOf l - (intOf i).toNat)
  case atStart => exact ⟨0, _, Nat.zero_le _, rfl, hI0.up hz0, hR0⟩
  case round =>
    obtain ⟨k, vc, hk, rfl, hI, hR⟩ := hrel
    have c0 := hI.s.cell' (i := 0) rfl
    by_cases hlt : k < cpusOf l
    · go_wp2_with fail
      refine (next_at _ (w.heap.size + 1) (posL l k) (posL l k + 1) rfl (Iv 0 w.heap.size) (.slice a l.length cap) l hR hnr).mono ?_
      rintro e w4 ⟨rfl, hR4, hx4, hb4⟩
      have hI4 := hI.step hx4 (fun x hx => .inl hx)
      have hsz4 := hx4.size
      obtain ⟨n, hn⟩ : ∃ n, bt l (posL l k) % 65 = n := ⟨_, rfl⟩
      have hn65 : n < 65 := by omega
      have hn' : (bt l (posL l k) : Int) % 65 = (n : Nat) := by omega
      have hnn := Lib.hid hn; clear hn
      clear c0 hI0 hR0 hz0
      go_wp2_with fail
      clear hn'
      obtain ⟨wo, rfl⟩ : ∃ wo : World, wo = wr := ⟨_, rfl⟩
      go_loopw [6, 8] (fun vl j wr => ∃ (m : Nat), m ≤ n ∧ j = .int .i64 m ∧ InvL w wr (w.heap.size + 1) sb (sb + 1) w4.heap.size l vc k ∧ Rdr wr (w.heap.size + 1) (Iv 0 w.heap.size) (.slice a l.length cap) l (l.drop (posL l k + 1 + 5 * m)) ∧ wr.ownsRow w4.heap.size 44 4 vl m (clsCells (listAt l (posL l k + 1) m)) ∧ w4.heap.size ≤ wr.heap.size) (fun _ j _ => n - (intOf j).toNat)
      case atStart => exact ⟨0, Nat.zero_le _, rfl, hI4.up hsz4, hR4, World.ownsRow_nil _ _ _ _, Nat.le_refl _⟩
      case round =>
        obtain ⟨m, hm, rfl, hIr, hRr, hown, hsr⟩ := hrel
        by_cases hmn : m < n
        · have ht : (m : Int) < (bt l (posL l k) : Int) % 65 := by have := hnn.out; omega
          go_wp2_with fail
          obtain ⟨p, hp⟩ : ∃ p, posL l k + 1 + 5 * m = p := ⟨_, rfl⟩
          rw [hp] at hRr
          have hpp := Lib.hid hp; clear hp
          refine (next_at _ (w.heap.size + 1) _ (p + 1) rfl (Iv 0 w.heap.size) (.slice a l.length cap) l hRr hnr).mono ?_
          rintro e w5 ⟨rfl, hR5, hx5, hb5⟩
          clear ht
          have hI5 := hIr.step hx5 (fun x hx => .inl hx)
          have ho5 := ownsRow_ext hown hx5 (fun x hx (hs : x = _) => by have := (hown.lt x hx).1; have := hIr.rs; have := hI4.size; omega)
          have hz5 := hx5.size
          clear hx5 hIr hown hRr
          have hrs := hI5.rs
          have hsM := hI5.sM
          have h4z := hI4.size
          go_wp2_with fail
          obtain ⟨cb, hcb⟩ : ∃ cb, w5.heap.size = cb := ⟨_, rfl⟩
          rw [hcb]
          refine (next_at _ (w.heap.size + 1) _ (p + 2) rfl (Iv 0 w.heap.size) (.slice a l.length cap) l (hR5.ext ((Ext.refl No _).alloc _) id (fun _ _ => id)) hnr).mono ?_
          rintro e w6 ⟨rfl, hR6, hx6, hb6⟩
          have hx56 : Ext (Sx (w.heap.size + 1) cb) w5 w6 := ((Ext.refl _ _).alloc _).trans hx6 (fun x _ hs => .inl hs)
          have hI6 := hI5.step hx56 (fun x hx => hx.imp id (fun h => by omega))
          have ho6 := ownsRow_ext ho5 hx56 (fun x hx hs => by have := (ho5.lt x hx).1; have := (ho5.lt x hx).2; rcases hs with hs | hs <;> omega)
          have hC6 : Blk w6 cb [.int .i64 ((bt l p : Int) % 14), .int .i64 0, .int .i64 0, .int .i64 0] 44 := (Blk.new' hcb.symm).extOne hx6 (by omega)
          have hz6 := hx56.size
          have hol : ∀ x, u6.ownBlock = some x → x < cb := fun x hx => by have := (ho5.lt x hx).2; omega
          have hcb' := Lib.hid hcb; have hcle : wr.heap.size ≤ cb := by omega
          clear hcb hx6 hx56 ho5 hI5 hR5
          have c1 := hC6.cell' (i := 1) rfl
          have f1 := hC6.frozen 1
          go_wp2_with fail
          clear c1 f1
          have hx66 : Ext (Sx (w.heap.size + 1) cb) w6 (w6.setCell ⟨cb, 1, none⟩ (.int .i64 (bt l (p + 1) : Nat))) := (Ext.set1 _ _ _ _).mono (fun x _ (e : x = cb) => .inr (by omega))
          refine (two2_at _ (w.heap.size + 1) (p + 2) (p + 3) (p + 4) rfl rfl (Iv 0 w.heap.size) (.slice a l.length cap) l (hR6.ext (Ext.set1 _ _ _ _) (by simp [One]; omega) (by simp [One, Iv]; omega)) hnr).mono ?_
          rintro e w7 ⟨rfl, hR7, hx7, hb7, hb7'⟩
          have hx67 : Ext (Sx (w.heap.size + 1) cb) w6 w7 := hx66.trans hx7 (fun x _ hs => .inl hs)
          have hI7 := hI6.step hx67 (fun x hx => hx.imp id (fun h => by omega))
          have ho7 := ownsRow_ext ho6 hx67 (fun x hx hs => by have := (ho6.lt x hx).1; have h5 := hol x hx; rcases hs with hs | hs <;> omega)
          have hC7 : Blk w7 cb [.int .i64 ((bt l p : Int) % 14), .int .i64 (bt l (p + 1) : Nat), .int .i64 0, .int .i64 0] 44 := (hC6.set 1 _).extOne hx7 (by omega)
          have hz7 := hx67.size
          clear hx66 hx67 hx7 ho6 hI6 hR6 hC6
          have c2 := hC7.cell' (i := 2) rfl
          have f2 := hC7.frozen 2
          go_wp2_with fail
          clear c2 f2
          have hx77 : Ext (Sx (w.heap.size + 1) cb) w7 (w7.setCell ⟨cb, 2, none⟩ (.int .i64 ((bt l (p + 2) : Int) * 256 + (bt l (p + 3) : Int)))) := (Ext.set1 _ _ _ _).mono (fun x _ (e : x = cb) => .inr (by omega))
          refine (next_at _ (w.heap.size + 1) (p + 4) (p + 5) rfl (Iv 0 w.heap.size) (.slice a l.length cap) l (hR7.ext (Ext.set1 _ _ _ _) (by simp [One]; omega) (by simp [One, Iv]; omega)) hnr).mono ?_
          rintro e w8 ⟨rfl, hR8, hx8, hb8⟩
          have hx78 : Ext (Sx (w.heap.size + 1) cb) w7 w8 := hx77.trans hx8 (fun x _ hs => .inl hs)
          have hI8 := hI7.step hx78 (fun x hx => hx.imp id (fun h => by omega))
          have ho8 := ownsRow_ext ho7 hx78 (fun x hx hs => by have := (ho7.lt x hx).1; have h5 := hol x hx; rcases hs with hs | hs <;> omega)
          have hC8 : Blk w8 cb [.int .i64 ((bt l p : Int) % 14), .int .i64 (bt l (p + 1) : Nat), .int .i64 ((bt l (p + 2) : Int) * 256 + (bt l (p + 3) : Int)), .int .i64 0] 44 := (hC7.set 2 _).extOne hx8 (by omega)
          have hz8 := hx78.size
          clear hx77 hx78 hx8 ho7 hI7 hR7 hC7
          have c0 := hC8.cell' (i := 0) rfl
          have c1 := hC8.cell' (i := 1) rfl
          have c2 := hC8.cell' (i := 2) rfl
          have c3 := hC8.cell' (i := 3) rfl
          have f3 := hC8.frozen 3
          have hx88 : Ext (Sx (w.heap.size + 1) cb) w8 (w8.setCell ⟨cb, 3, none⟩ (.int .i64 (bt l (p + 4) : Nat))) := (Ext.set1 _ _ _ _).mono (fun x _ (e : x = cb) => .inr (by omega))
          have hx88b := hx88.alloc (.cells (clCells (callAt l p)).toArray 44)
          have hown := ownsRow_ext ho8 hx88b (fun x hx hs => by have := (ho8.lt x hx).1; have h5 := hol x hx; rcases hs with hs | hs <;> omega)
          have hI9 := hI8.step hx88b (fun x hx => hx.imp id (fun h => by omega))
          have hR9 := (hR8.ext (Ext.set1 _ cb 3 (.int .i64 (bt l (p + 4) : Nat))) (by simp [One]; omega) (by simp [One, Iv]; omega)).ext ((Ext.refl No _).alloc (.cells (clCells (callAt l p)).toArray 44)) id (fun _ _ => id)
          have hz9 := Nat.le_trans (show w4.heap.size ≤ w8.heap.size by omega) hx88b.size
          go_wp2_with (at_builtin; refine stop_here ?_)
          refine Stop.mk ?_
          refine wpList_app (v := u6) ty_call rfl _ _ rfl rfl hown rfl (Rd.of_blk (n := 1) (Blk.new' (by simp [World.setCell])) rfl (by decide)) (by simp [clCells, Value.oneCell']) (by omega) (by unfold maxLen; omega) hz9 ?_
          intro v' w9 hown' hx9 _ _
          go_wp2
          go_roundw
          case rel =>
            refine ⟨m + 1, by omega, by go_num, hI9.step hx9 (fun x hx => .inr (hown.lt x hx).1), ?_, ?_, Nat.le_trans hz9 hx9.size⟩
            · rw [show posL l k + 1 + 5 * (m + 1) = p + 5 from by have := hpp.out; omega]
              exact hR9.ext hx9 (fun hx => by have := (hown.lt _ hx).1; omega) (fun x hx hs => by have := (hown.lt _ hs).1; simp [Iv] at hx; omega)
            · rw [listAt_succ, clsCells_snoc, hpp.out]; exact hown'
          case measure => simp [intOf]; omega
        · obtain rfl : m = n := by omega
          have ht : ¬ (m : Int) < (bt l (posL l k) : Int) % 65 := by have := hnn.out; omega
          have c2 := hIr.s.cell' (i := 2) rfl
          have f2 := hIr.s.frozen 2
          have hrs := hIr.rs
          have hsM := hIr.sM
          have h4z := hI4.size
          obtain ⟨a6, cap6, rfl, hc6⟩ := ownsRow_val hown
          obtain ⟨vs, hvl, hvo, hvr⟩ := hIr.lists
          obtain ⟨ac, capc, rfl, hcc⟩ := ownsRow_val hvo
          have hvo' := ownsRow_ext hvo ((Ext.refl No wr).alloc (.cells #[.slice a6 m cap6] 42)) (fun _ _ => id)
          have hbase : sb + 1 ≤ (wr.alloc (.cells #[.slice a6 m cap6] 42)).heap.size := by simp only [World.size_alloc]; omega
          have hk8 : k < 8 := by have : cpusOf l ≤ 8 := by unfold cpusOf; omega
                                 omega
          go_wp2_with (at_builtin; refine stop_here ?_)
          refine Stop.mk ?_
          refine wpList_app (v := .slice ac k capc) ty_rows rfl _ _ rfl rfl hvo' rfl (Rd.of_blk (n := 1) (Blk.new' rfl) rfl (by decide)) (by simp [Value.oneCell']) (by omega) (by unfold maxLen; omega) hbase ?_
          intro v' w9 hown' hx9 _ hfr
          obtain ⟨a9, cap9, rfl, hc9⟩ := ownsRow_val hown'
          have c2' : w9.cell? ⟨sb, 2, none⟩ = some (.slice ac k capc) := hx9.cell (((Ext.refl No _).alloc _).cell c2 id) (fun (h : OwnOf _ sb) => by have := (hvo.lt _ h).1; omega)
          have f2' : w9.frozen? ⟨sb, 2, none⟩ = false := by
            rw [hx9.frozen (by simp only [World.size_alloc]; omega) (fun (h : OwnOf _ sb) => by have := (hvo.lt _ h).1; omega)]
            rw [((Ext.refl No _).alloc _).frozen (by show sb < _; omega) id]; exact f2
          clear c2 f2
          go_wp2
          go_roundw
          case rel =>
            refine ⟨k + 1, _, by omega, by go_num, InvL.snoc hIr hsr hvl hvo hvr (by rw [← hnn.out] at hown ⊢; exact hown) (by simp [listOf, listAt]) hx9 hown' hfr, ?_⟩
            rw [show posL l (k + 1) = posL l k + 1 + 5 * m from by rw [← hnn.out]; rfl]
            have hne : ∀ x, OwnOf (.slice ac k capc) x → sb + 1 ≤ x := fun x hx => (hvo.lt x hx).1
            exact ((hRr.ext ((Ext.refl No _).alloc _) id (fun _ _ => id)).ext hx9 (fun hx => by have := hne _ hx; omega) (fun x hx hs => by have := hne _ hs; simp [Iv] at hx; omega)).ext (Ext.set1 _ _ _ _) (by simp [One]; omega) (by simp [One, Iv]; omega)
          case measure => simp [intOf]; omega
    · obtain rfl : k = cpusOf l := by omega
      go_wp2_with fail
      clear c0 hlt hk hI0 hR0 hz0
      have hcc := hI.cc
      have hX := hI.ext
      have hS := hI.s
      have hZ := hI.z
      have hsM := hI.sM
      have hrs := hI.rs
      obtain ⟨Hc, hHc⟩ : ∃ Hc, wr.heap.size = Hc := ⟨_, rfl⟩
      rw [hHc] at hcc hrs
      clear hI
      obtain ⟨rest, hrest⟩ : ∃ rest, restOf l = rest := ⟨_, rfl⟩
      rw [show l.drop (posL l (cpusOf l)) = rest from hrest] at hR
      obtain ⟨T, hT⟩ : ∃ T, min 4096 rest.length = T := ⟨_, rfl⟩
      have hT1 : T ≤ 4096 := by omega
      have hT2 : T ≤ rest.length := by omega
      have hrest' := Lib.hid hrest; have hT' := Lib.hid hT; have hHc' : Hc ≤ wr.heap.size := by omega
      clear hrest hT hHc
      obtain ⟨wo, rfl⟩ : ∃ wo : World, wo = wr := ⟨_, rfl⟩
      go_loopg [] T (fun g wr => ∃ (j : Nat) (vp : Value), j + g = T ∧ Blk wr sb [.int .i64 (cpusOf l : Nat), .int .i64 (pagesOf l : Nat), vc, vp] 27 ∧
        wr.ownsRow Hc 3 1 vp j ((rest.take j).map fun (x : Nat) => .int .i64 (x : Int)) ∧ Rdr wr (w.heap.size + 1) (Iv 0 w.heap.size) (.slice a l.length cap) l (rest.drop j) ∧
        Hc ≤ wr.heap.size ∧ Blk wr w.heap.size [.int .i64 0, .int .i64 0, .slice none 0 0, .slice none 0 0] 27 ∧
        RdCC (Iv (sb + 1) Hc) (Iv (sb + 1) Hc) wr vc (listsTo l (cpusOf l)) ∧ Ext No w wr)
      case atStart => exact ⟨0, _, by omega, hS, World.ownsRow_nil _ _ _ _, hR, hHc', hZ, hcc, hX⟩
      case round =>
        obtain ⟨j, vp, hj, hS, hown, hR, hz, hZ, hcc, hX⟩ := hrel
        obtain ⟨av, capv, rfl, hcv⟩ := ownsRow_val hown
        have c0 := hS.cell' (i := 0) rfl
        have c1 := hS.cell' (i := 1) rfl
        have c2 := hS.cell' (i := 2) rfl
        have c3 := hS.cell' (i := 3) rfl
        have f3 := hS.frozen 3
        obtain ⟨kk, hk1, hk2, hk3, hk4⟩ := id hR
        have hlen : l.length - kk = rest.length - j := by rw [← List.length_drop, ← List.length_drop, hk3]
        have cr := hk1.cell' (i := 1) rfl
        have hk3' := Lib.hid hk3
        clear hk3 hk4 hk1
        have hjT : j ≤ T := by omega
        by_cases hlt : j < T
        · have h4096 : (j : Int) < 4096 := by omega
          have hkl : kk < l.length := by omega
          have hlen' := Lib.hid hlen; have hj' := Lib.hid hj
          clear hlen hj
          go_wp2_with fail
          refine anyZ_begin 7 (fun w' => w'.cell? ⟨sb, 3, none⟩ = some (.slice av j capv)) (by kernel_rfl) ?_
          have hC : (fun w' : World => w'.cell? ⟨sb, 3, none⟩ = some (.slice av j capv)) wr.drew := c3
          refine anyZ_take 0 (v := ?_) rfl (by kernel_rfl) (by kernel_rfl) (by kernel_rfl) (by kernel_rfl) (fun _ _ _ h => h) hC (Or.inl ⟨by rfl, ?_⟩) ?_
          rotate_left
          · (intro wq hq; (try dsimp only at hq); go_simp; with_reducible rfl)
          simp only [Act.put, List.setIfInBounds_toArray, List.set_cons_zero, List.set_cons_succ]
          refine anyZ_take 1 (v := ?_) rfl (by kernel_rfl) (by kernel_rfl) (by kernel_rfl) (by kernel_rfl) (fun _ _ _ h => h) hC (Or.inl ⟨by rfl, ?_⟩) ?_
          rotate_left
          · (intro wq hq; (try dsimp only at hq); go_simp; with_reducible rfl)
          simp only [Act.put, List.setIfInBounds_toArray, List.set_cons_zero, List.set_cons_succ]
          refine anyZ_take 2 (v := ?_) rfl (by kernel_rfl) (by kernel_rfl) (by kernel_rfl) (by kernel_rfl) (fun _ _ _ h => h) hC (Or.inl ⟨by rfl, ?_⟩) ?_
          rotate_left
          · (intro wq hq; (try dsimp only at hq); go_simp; with_reducible rfl)
          simp only [Act.put, List.setIfInBounds_toArray, List.set_cons_zero, List.set_cons_succ]
          refine anyZ_step 3 rfl (by kernel_rfl) (fun K hK => ?_)
          go_simp
          refine (next_in wr.drew (w.heap.size + 1) j (Iv 0 w.heap.size) (.slice a l.length cap) l rest (hR.ext ((Ext.refl No _).drew) id (fun _ _ => id)) hnr).mono ?_
          rintro e w5 ⟨rfl, hR5, hx5⟩
          have hx5' : Ext (Sx (w.heap.size + 1) wr.heap.size) wr w5 := (Ext.refl _ wr).drew.trans hx5 (fun x _ hs => .inl hs)
          have hC5 : w5.cell? ⟨sb, 3, none⟩ = some (.slice av j capv) := hx5.cell c3 (by simp [One]; omega)
          refine hK _ _ hC5 ?_
          clear hK K
          try simp only [Act.put, List.setIfInBounds_toArray, List.set_cons_zero, List.set_cons_succ]
          refine anyZ_step 4 rfl (by kernel_rfl) (fun K hK => ?_)
          go_simp
          have hx6 : Ext (Sx (w.heap.size + 1) wr.heap.size) wr (w5.alloc (.cells #[.int .i64 (bt rest j : Nat)] 3)) := hx5'.alloc _
          have hC6 : (w5.alloc (.cells #[.int .i64 (bt rest j : Nat)] 3)).cell? ⟨sb, 3, none⟩ = some (.slice av j capv) := ((Ext.refl No _).alloc _).cell hC5 id
          have hown6 := ownsRow_ext hown hx6 (fun x hx hs => by have := (hown.lt x hx); rcases hs with hs | hs <;> omega)
          refine hK _ _ hC6 ?_
          clear hK K
          try simp only [Act.put, List.setIfInBounds_toArray, List.set_cons_zero, List.set_cons_succ]
          refine anyZ_step 5 rfl (by kernel_rfl) (fun K hK => ?_)
          refine held_app (v := .slice av j capv) ty_int rfl _ _ rfl rfl hown6 rfl (Rd.of_blk (n := 1) (Blk.new' rfl) rfl (by decide)) (by simp [Value.oneCell']) (by omega) (by unfold maxLen; omega) (Nat.le_trans (by omega) hx6.size) ?_
          intro v' w7 hown' hx7 _ hfr
          obtain ⟨a9, cap9, rfl, hc9⟩ := ownsRow_val hown'
          have hvb : ∀ x, OwnOf (.slice av j capv) x → Hc ≤ x := fun x hx => (hown.lt x hx).1
          have hC7 : w7.cell? ⟨sb, 3, none⟩ = some (.slice av j capv) := hx7.cell hC6 (fun h => by have : Hc ≤ sb := hvb _ h; omega)
          have hx8 : Ext (Sx (w.heap.size + 1) Hc) wr w7 := (hx6.mono (fun x _ h => h.imp id (fun h => by omega))).trans hx7 (fun x _ hs => .inr (hvb x hs))
          have hS8 := hS.ext hx8 (fun h => by rcases h with h | h <;> omega)
          have hR8 : Rdr w7 (w.heap.size + 1) (Iv 0 w.heap.size) (.slice a l.length cap) l (rest.drop (j + 1)) :=
            (hR5.ext ((Ext.refl No _).alloc _) id (fun _ _ => id)).ext hx7 (fun h => by have := hvb _ h; omega) (fun x hx hs => by have := hvb _ hs; simp [Iv] at hx; omega)
          have hZ8 := hZ.ext hx8 (fun h => by rcases h with h | h <;> omega)
          have hcc8 := hcc.ext hx8 (fun x hx h => by rcases h with h | h <;> simp [Iv] at hx <;> omega) (fun x hx h => by rcases h with h | h <;> simp [Iv] at hx <;> omega)
          have f8 := hS8.frozen 3
          clear c0 c1 c2 c3 f3 cr
          refine hK _ _ hC7 ?_
          clear hK K
          try simp only [Act.put, List.setIfInBounds_toArray, List.set_cons_zero, List.set_cons_succ]
          refine anyZ_take 6 (v := ?_) rfl (by kernel_rfl) (by kernel_rfl) (by kernel_rfl) (by kernel_rfl) (fun _ _ _ h => h) hC7 (Or.inl ⟨by rfl, ?_⟩) ?_
          rotate_left
          · (intro wq hq; (try dsimp only at hq); go_simp; with_reducible rfl)
          simp only [Act.put, List.setIfInBounds_toArray, List.set_cons_zero, List.set_cons_succ]
          refine anyZ_last rfl (by kernel_rfl) (fun K hK => ?_)
          go_simp
          refine hK _ _ ?_
          clear hK K
          try simp only [Act.put, List.setIfInBounds_toArray, List.set_cons_zero, List.set_cons_succ]
          refine anyZ_done (by kernel_rfl) ?_ _
          have hxs : Ext (One sb) w7 (w7.setCell ⟨sb, 3, none⟩ (.slice a9 (j + 1) cap9)) := Ext.set1 _ _ _ _
          have hjj := hj'.out
          go_wp2
          go_roundg (T - (j + 1))
          case measure => omega
          case rel =>
            refine ⟨j + 1, _, by omega, hS8.set 3 _, ?_, hR8.ext hxs (by simp [One]; omega) (by simp [One, Iv]; omega), ?_, hZ8.setOther _ _ (by show _ ≠ sb; omega), hcc8.ext hxs (fun x hx (e : x = sb) => by simp [Iv] at hx; omega) (fun x hx (e : x = sb) => by simp [Iv] at hx; omega), ?_⟩
            · have := ownsRow_ext hown' hxs (fun x hx (e : x = sb) => by have := (hown'.lt x hx).1; omega)
              rw [take_nth (by omega), List.map_append, ← bt_nth (show j < rest.length by omega)]
              exact this
            · exact Nat.le_trans hz (Nat.le_trans hx8.size hxs.size)
            · exact (hX.trans hx8 (fun x hx' h => by rcases h with h | h <;> omega)).transOne hxs (.inl (by omega))
        · obtain rfl : j = T := by omega
          have htest : ((j : Int) < 4096) ∧ ¬ kk < l.length ∨ ¬ ((j : Int) < 4096) := by have := hT'.out; omega
          obtain ⟨ac, kc, rfl, _, _⟩ : ∃ ac kc, vc = .slice ac (cpusOf l) kc ∧ cpusOf l ≤ kc ∧ kc ≤ 9223372036854775807 := by
            obtain ⟨vs, _, h, _⟩ := hcc
            rw [show (listsTo l (cpusOf l)).length = cpusOf l from by simp [listsTo]] at h
            exact h.val
          have z0 := hZ.cell' (i := 0) rfl
          have z1 := hZ.cell' (i := 1) rfl
          have z2 := hZ.cell' (i := 2) rfl
          have z3 := hZ.cell' (i := 3) rfl
          have g0 := hZ.frozen 0
          have g1 := hZ.frozen 1
          have g2 := hZ.frozen 2
          have g3 := hZ.frozen 3
          have hne : w.heap.size ≠ sb := by omega
          have hfin := Lib.hid hlen
          clear hlen hj
          have hZ4 : Blk ((((wr.setCell ⟨w.heap.size, 0, none⟩ (.int .i64 (cpusOf l : Nat))).setCell ⟨w.heap.size, 1, none⟩ (.int .i64 (pagesOf l : Nat))).setCell ⟨w.heap.size, 2, none⟩ (.slice ac (cpusOf l) kc)).setCell ⟨w.heap.size, 3, none⟩ (.slice av j capv)) w.heap.size [.int .i64 (cpusOf l : Nat), .int .i64 (pagesOf l : Nat), .slice ac (cpusOf l) kc, .slice av j capv] 27 :=
            (((hZ.set 0 _).set 1 _).set 2 _).set 3 _
          have hxs : Ext (One w.heap.size) wr ((((wr.setCell ⟨w.heap.size, 0, none⟩ (.int .i64 (cpusOf l : Nat))).setCell ⟨w.heap.size, 1, none⟩ (.int .i64 (pagesOf l : Nat))).setCell ⟨w.heap.size, 2, none⟩ (.slice ac (cpusOf l) kc)).setCell ⟨w.heap.size, 3, none⟩ (.slice av j capv)) :=
            (((Ext.set1 _ _ _ _).transSame (Ext.set1 _ _ _ _)).transSame (Ext.set1 _ _ _ _)).transSame (Ext.set1 _ _ _ _)
          have hlast : rest.take j = rest.take 4096 := by
            have h1 := hT'.out
            rcases Nat.le_total rest.length 4096 with h | h
            · rw [List.take_of_length_le (by omega), List.take_of_length_le h]
            · rw [show j = 4096 by omega]
          have hres : RdS (Iv (w.heap.size + 1) wr.heap.size) wr (.agg #[.int .i64 (cpusOf l : Nat), .int .i64 (pagesOf l : Nat), .slice ac (cpusOf l) kc, .slice av j capv]) (script l) := by
            refine ⟨_, _, rfl, hcc.mono (fun x hx _ => by simp [Iv] at *; omega) (fun x hx _ => by simp [Iv] at *; omega), ?_⟩
            have h3 : (script l).picks = (rest.take j).map fun (x : Nat) => (x : Int) := by simp only [script]; rw [hrest'.out, hlast]
            have h4 := (Rd.of_own hown).mono (G := Iv (w.heap.size + 1) wr.heap.size) (fun x hx _ => by have := hown.lt x hx; simp only [Iv]; omega)
            unfold RdI
            rw [h3, List.length_map, List.length_take, Nat.min_eq_left (by omega), List.map_map]
            exact h4
          have hfinal := (hres.ext hxs (fun x hx (e : x = _) => by simp [Iv] at hx; omega)).mono (F' := Iv w.heap.size ((((wr.setCell ⟨w.heap.size, 0, none⟩ (.int .i64 (cpusOf l : Nat))).setCell ⟨w.heap.size, 1, none⟩ (.int .i64 (pagesOf l : Nat))).setCell ⟨w.heap.size, 2, none⟩ (.slice ac (cpusOf l) kc)).setCell ⟨w.heap.size, 3, none⟩ (.slice av j capv)).heap.size) (fun x hx hx2 => ⟨by have := hx.1; omega, hx2⟩)
          have hXf := hX.transOne hxs (.inl (Nat.le_refl _))
          have d0 := hZ4.cell' (i := 0) rfl
          have d1 := hZ4.cell' (i := 1) rfl
          have d2 := hZ4.cell' (i := 2) rfl
          have d3 := hZ4.cell' (i := 3) rfl
          have hfinal' := Lib.hid hfinal
          clear hfinal hres hcc
          rcases htest with ⟨ht1, ht2⟩ | ht1
          all_goals
            go_wp2_with fail
            refine bodyPost_ret (v := .agg #[.int .i64 (cpusOf l : Nat), .int .i64 (pagesOf l : Nat), .slice ac (cpusOf l) kc, .slice av j capv]) (by simp [results, Try.results27, go_sem, d0, d1, d2, d3]) rfl ⟨_, rfl, hfinal'.out, hXf⟩
end Go.Proofs.Ytjkknjohmekeiaa
