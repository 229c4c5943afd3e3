/- Texts of ours, one behind the other (ZoneX, ZoneY, ZoneZ, ZonePA, ZonePB): each says in its own first lines what it proves. No condition. -/
import Derived.Test.YtjkknjohmekeiaaPackR
/- The zone and the document's beside it: what calls leave of both; the document's zone as a state with a footprint. No condition. -/
namespace Go.Proofs.Ytjkknjohmekeiaa
open Go.RowKit

/-! ### Plain -/
structure Rel (a : ZA) (b : RA) : Prop where
  x : a.x = b.x
  e : a.e = b.e
  ll : a.ll = b.ll
  zi : ZI a.l a.ll.flatten a.D
  zr : ZR a.l a.ll.flatten a.D b.l
section
variable {l l' : List T3} {ll : List (List Int)} {D : Dm}
theorem ZR.outAt {N : List Int} (h : ZR l N D l') (page : Int) : outAt l' page = outAt l page := by rw [← E_outAt l', ← h.e, E_outAt]
theorem ZR.zout {N : List Int} (h : ZR l N D l') (page : Int) : zout l' ll page = zout l ll page := by unfold Proofs.Ytjkknjohmekeiaa.zout; rw [h.outAt]
theorem ZR.back' {N : List Int} (h : ZR l N D l') : ∀ A : List Int, backL l' A = backL l' A := fun _ => rfl
theorem zr_allocX {N : List Int} (h : ZR l N D l') (o : Nat) : allocX l' o = allocX l o := by rw [← E_allocX l', ← h.e, E_allocX]
theorem zr_allocE {N : List Int} (h : ZR l N D l') (o : Nat) : allocE l' o = allocE l o := by rw [← E_allocE l', ← h.e, E_allocE]
theorem zalloc_rel (hi : ZI l ll.flatten D) (hr : ZR l ll.flatten D l') (c o k : Int) : Rel (zalloc l ll D c o k) (ralloc l' ll c o k) := by
  cases hc : inR ll c
  · have e1 : zalloc l ll D c o k = ⟨l, ll, D, 0, 9⟩ := by unfold zalloc; rw [if_pos hc]
    have e2 : ralloc l' ll c o k = ⟨l', ll, 0, 9⟩ := by unfold ralloc; rw [if_pos hc]
    rw [e1, e2]; exact ⟨rfl, rfl, rfl, hi, hr⟩
  · have hcn : ¬ inR ll c = false := by rw [hc]; decide
    cases ho : okA o k
    · have e1 : zalloc l ll D c o k = ⟨l, ll, D, 0, 2⟩ := by unfold zalloc; rw [if_neg hcn, if_pos ho]
      have e2 : ralloc l' ll c o k = ⟨l', ll, 0, 2⟩ := by unfold ralloc; rw [if_neg hcn, if_pos ho]
      rw [e1, e2]; exact ⟨rfl, rfl, rfl, hi, hr⟩
    · have hon : ¬ okA o k = false := by rw [ho]; decide
      obtain ⟨o, k, rfl, rfl, ho1, hk1⟩ := okA_yes ho
      by_cases ht : (o : Int) = 0 ∧ takeB ll c = true
      · have e1 : zalloc l ll D c o k = ⟨l, dropL ll c, D.put (key (takeX ll c)) (dat k), takeX ll c, 0⟩ := by unfold zalloc; rw [if_neg hcn, if_neg hon, if_pos ht]
        have e2 : ralloc l' ll c o k = ⟨setC l' (takeX ll c).toNat k, dropL ll c, takeX ll c, 0⟩ := by unfold ralloc; rw [if_neg hcn, if_neg hon, if_pos ht]
        rw [e1, e2]
        have hp := take_perm (ll := ll) (c := c)
        rw [if_pos ht.2] at hp
        have hi2 := hi.perm hp.symm
        have hr2 := hr.perm hp.symm
        obtain ⟨p, hpx, _⟩ := hi.sg (takeX ll c) (hp.mem_iff.1 (by simp))
        rw [hpx] at hi2 hr2 ⊢
        rw [Int.toNat_natCast]
        exact ⟨rfl, rfl, rfl, hi2.take k, hr2.take hi2 (by omega) (by omega)⟩
      · have hoz : ((o : Int) = 0) = (o = 0) := propext (by omega)
        cases hb : leastL l o with
        | some b =>
          have e1 : zalloc l ll D c o k = ⟨allocL l o k, ll, if o = 0 then D.put (key b.i) (dat k) else D, b.i, 0⟩ := by
            unfold zalloc; rw [if_neg hcn, if_neg hon, if_neg ht, Int.toNat_natCast, Int.toNat_natCast, hb]; simp only [hoz]
          have e2 : ralloc l' ll c o k = ⟨allocL l' o k, ll, b.i, 0⟩ := by
            unfold ralloc; rw [if_neg hcn, if_neg hon, if_neg ht, Int.toNat_natCast, Int.toNat_natCast, hr.least, hb]
          rw [e1, e2]
          exact ⟨rfl, rfl, rfl, hi.alloc hk1 hb, hr.alloc hi hk1 hb⟩
        | none =>
          have e1 : zalloc l ll D c o k = ⟨allocL (backL l ll.flatten) o k, List.replicate ll.length [], if allocE (backL l ll.flatten) o = 0 ∧ o = 0 then D.put (key (allocX (backL l ll.flatten) o)) (dat k) else D, allocX (backL l ll.flatten) o, allocE (backL l ll.flatten) o⟩ := by
            unfold zalloc; rw [if_neg hcn, if_neg hon, if_neg ht, Int.toNat_natCast, Int.toNat_natCast, hb]; simp only [hoz]
          have e2 : ralloc l' ll c o k = ⟨allocL (backL l' ll.flatten) o k, List.replicate ll.length [], allocX (backL l' ll.flatten) o, allocE (backL l' ll.flatten) o⟩ := by
            unfold ralloc; rw [if_neg hcn, if_neg hon, if_neg ht, Int.toNat_natCast, Int.toNat_natCast, hr.least, hb]
          have hfr : (List.replicate ll.length ([] : List Int)).flatten = [] := by simp
          have hi2 : ZI (backL l ll.flatten) [] D := ZI.back (by rw [List.append_nil]; exact hi)
          have hr2 : ZR (backL l ll.flatten) [] D (backL l' ll.flatten) := ZR.back (by rw [List.append_nil]; exact hr) (by rw [List.append_nil]; exact hi)
          rw [e1, e2]
          obtain ⟨l1, hl1⟩ : ∃ l1, backL l ll.flatten = l1 := ⟨_, rfl⟩
          obtain ⟨l2, hl2⟩ : ∃ l2, backL l' ll.flatten = l2 := ⟨_, rfl⟩
          rw [hl1] at hi2 hr2 ⊢
          rw [hl2] at hr2 ⊢
          refine ⟨(zr_allocX hr2 o).symm, (zr_allocE hr2 o).symm, rfl, ?_, ?_⟩
          · show ZI (allocL l1 o k) (List.replicate ll.length ([] : List Int)).flatten _
            rw [hfr]
            cases hb1 : leastL l1 o with
            | some b =>
              have hX : allocX l1 o = b.i := by unfold allocX; rw [hb1]
              have hE : allocE l1 o = 0 := by unfold allocE; rw [hb1]
              have := hi2.alloc hk1 hb1
              rw [hX, hE]
              have hD : (if (0 : Int) = 0 ∧ o = 0 then D.put (key b.i) (dat k) else D) = if o = 0 then D.put (key b.i) (dat k) else D := by simp
              show ZI _ _ (if (0 : Int) = 0 ∧ o = 0 then D.put (key b.i) (dat k) else D)
              rw [hD]; exact this
            | none =>
              have hE : allocE l1 o = 7 := by unfold allocE; rw [hb1]
              rw [hE, BI.none k hb1]
              rw [if_neg (fun hh => absurd hh.1 (by decide))]; exact hi2
          · show ZR (allocL l1 o k) (List.replicate ll.length ([] : List Int)).flatten _ (allocL l2 o k)
            rw [hfr]
            cases hb1 : leastL l1 o with
            | some b =>
              have hX : allocX l1 o = b.i := by unfold allocX; rw [hb1]
              have hE : allocE l1 o = 0 := by unfold allocE; rw [hb1]
              have := hr2.alloc hi2 hk1 hb1
              rw [hX, hE]
              have hD : (if (0 : Int) = 0 ∧ o = 0 then D.put (key b.i) (dat k) else D) = if o = 0 then D.put (key b.i) (dat k) else D := by simp
              show ZR _ _ (if (0 : Int) = 0 ∧ o = 0 then D.put (key b.i) (dat k) else D) _
              rw [hD]; exact this
            | none =>
              have hE : allocE l1 o = 7 := by unfold allocE; rw [hb1]
              have hb2 : leastL l2 o = none := by rw [hr2.least]; exact hb1
              rw [hE, BI.none k hb1, BI.none k hb2]
              rw [if_neg (fun hh => absurd hh.1 (by decide))]; exact hr2
theorem zfree_rel (hi : ZI l ll.flatten D) (hr : ZR l ll.flatten D l') (c page : Int) : Rel (zfree l ll D c page) (rfree l' ll c page) := by
  cases hc : inR ll c
  · have e1 : zfree l ll D c page = ⟨l, ll, D, 0, 9⟩ := by unfold zfree; rw [if_pos hc]
    have e2 : rfree l' ll c page = ⟨l', ll, 0, 9⟩ := by unfold rfree; rw [if_pos hc]
    rw [e1, e2]; exact ⟨rfl, rfl, rfl, hi, hr⟩
  · have hcn : ¬ inR ll c = false := by rw [hc]; decide
    cases ho : Proofs.Ytjkknjohmekeiaa.zout l ll page
    · have e1 : zfree l ll D c page = ⟨l, ll, D, 0, 60⟩ := by unfold zfree; rw [if_neg hcn, if_pos ho]
      have e2 : rfree l' ll c page = ⟨l', ll, 0, 60⟩ := by unfold rfree; rw [if_neg hcn, if_pos (by rw [hr.zout]; exact ho)]
      rw [e1, e2]; exact ⟨rfl, rfl, rfl, hi, hr⟩
    · have hon : ¬ Proofs.Ytjkknjohmekeiaa.zout l ll page = false := by rw [ho]; decide
      have hon' : ¬ Proofs.Ytjkknjohmekeiaa.zout l' ll page = false := by rw [hr.zout]; exact hon
      obtain ⟨i, rfl, hil, ha, hn, _⟩ := zout_yes hi.bi ho
      obtain ⟨k, c0, hk, he⟩ := out_is hi.bi.va hil ha
      obtain ⟨_, hb'⟩ := hr.ab hil
      have hni : (i : Int) ∉ ll.flatten := by
        intro hm
        obtain ⟨r, h1, h2⟩ := List.mem_flatten.1 hm
        have : hasIn ll i = true := by unfold hasIn; exact List.any_eq_true.2 ⟨r, h1, by simpa using h2⟩
        rw [hn] at this; cases this
      by_cases hb : 0 < (nth l i).b
      · have e1 : zfree l ll D c i = ⟨freeT l i, ll, D, 0, 0⟩ := by unfold zfree; rw [if_neg hcn, if_neg hon, Int.toNat_natCast, if_pos hb]
        have e2 : rfree l' ll c i = ⟨freeT l' i, ll, 0, 0⟩ := by unfold rfree; rw [if_neg hcn, if_neg hon', Int.toNat_natCast, if_pos (by rw [hb']; exact hb)]
        rw [e1, e2]
        have hk0 : 0 < k := by rw [he] at hb; have : (0 : Int) < (k : Nat) := hb; omega
        exact ⟨rfl, rfl, rfl, hi.big hil he hk0, hr.big hi hil he⟩
      · have e1 : zfree l ll D c i = ⟨backL l (putA ll 6 c i), putL ll 6 c i, D.del (key i), 0, 0⟩ := by unfold zfree; rw [if_neg hcn, if_neg hon, Int.toNat_natCast, if_neg hb]
        have e2 : rfree l' ll c i = ⟨backL (setC l' i 0) (putA ll 6 c i), putL ll 6 c i, 0, 0⟩ := by unfold rfree; rw [if_neg hcn, if_neg hon', Int.toNat_natCast, if_neg (by rw [hb']; exact hb)]
        rw [e1, e2]
        have hb0 : (nth l i).b = 0 := by rw [he] at hb ⊢; have : ¬ (0 : Int) < (k : Nat) := hb; show ((k : Nat) : Int) = 0; omega
        have hs : Sg l i := ⟨i, rfl, hil, ha, hb0⟩
        have hle := hi.bi.le
        have hpE : putE ll c i = 0 := putE_zero.2 ⟨hc, by omega, by omega, hn⟩
        have hp := put_perm (cap := 6) hpE
        have hi2 := (hi.near hs hni).perm hp.symm
        have hr2 := (hr.near hs).perm hp.symm
        exact ⟨rfl, rfl, rfl, hi2.back, hr2.back hi2⟩
theorem zdrain_rel (hi : ZI l ll.flatten D) (hr : ZR l ll.flatten D l') (c : Int) : Rel (zdrain l ll D c) (rdrain l' ll c) := by
  cases hc : inR ll c
  · have e1 : zdrain l ll D c = ⟨l, ll, D, 0, 9⟩ := by unfold zdrain; rw [if_pos hc]
    have e2 : rdrain l' ll c = ⟨l', ll, 0, 9⟩ := by unfold rdrain; rw [if_pos hc]
    rw [e1, e2]; exact ⟨rfl, rfl, rfl, hi, hr⟩
  · have hcn : ¬ inR ll c = false := by rw [hc]; decide
    have e1 : zdrain l ll D c = ⟨backL l (listIn ll c), drainL ll c, D, 0, 0⟩ := by unfold zdrain; rw [if_neg hcn]
    have e2 : rdrain l' ll c = ⟨backL l' (listIn ll c), drainL ll c, 0, 0⟩ := by unfold rdrain; rw [if_neg hcn]
    rw [e1, e2]
    have hi2 := hi.perm (drain_perm (c := c)).symm
    have hr2 := hr.perm (drain_perm (c := c)).symm
    exact ⟨rfl, rfl, rfl, hi2.back, hr2.back hi2⟩
theorem ZR.rch {N : List Int} (h : ZR l N D l') {i : Nat} (hr : Rch l i) : Rch l' i := by
  induction hr with
  | zero => exact .zero
  | @step i hr hi ih =>
    have := ih.step (by rw [h.len]; exact hi)
    have e : sz (nth l' i) = sz (nth l i) := by unfold sz; rw [(h.ab hi).2]
    rw [e] at this; exact this
theorem ZR.tags (hi : ZI l ll.flatten D) (h : ZR l ll.flatten D l') (page : Int) : tB l' ll page = tB l ll page ∧ tH l' ll page = tH l ll page ∧ tO l' ll page = tO l ll page ∧ rC l' ll page = tC D l ll page := by
  by_cases hp : 0 ≤ page ∧ page < l.length
  · obtain ⟨i, rfl⟩ : ∃ i : Nat, page = i := ⟨page.toNat, by omega⟩
    have hil : i < l.length := by omega
    have hil' : i < l'.length := by rw [h.len]; exact hil
    obtain ⟨hh, hd⟩ := hd_ex hi.bi.va hil
    have hhl := hd.hlt hil
    obtain ⟨ea, eb⟩ := h.ab hhl
    have hd' : Hd l' i hh := ⟨h.rch hd.r, hd.le, by have := hd.lt; unfold sz at *; rw [eb]; exact this⟩
    have f1 := headF_eq hi.bi.va hil hd
    have f2 := headF_eq h.bi.va hil' hd'
    have hB : tB l' ll i = tB l ll i := by unfold tB; rw [in_nat hil, in_nat hil', f1, f2, Int.toNat_natCast, ea]
    refine ⟨hB, ?_, ?_, ?_⟩
    · unfold tH; rw [hB, f1, f2]
    · unfold tO; rw [hB, f1, f2, Int.toNat_natCast, eb]
    · unfold rC tC
      rw [hB, f1, f2, Int.toNat_natCast]
      cases hb : tB l ll i
      · rfl
      · unfold tB at hb
        rw [f1, Int.toNat_natCast] at hb
        simp only [Bool.and_eq_true, Bool.not_eq_true', decide_eq_true_eq] at hb
        obtain ⟨_, ha, hn⟩ := hb
        have hni : (hh : Int) ∉ ll.flatten := by
          intro hm
          obtain ⟨r, h1, h2⟩ := List.mem_flatten.1 hm
          have : hasIn ll hh = true := by unfold hasIn; exact List.any_eq_true.2 ⟨r, h1, by simpa using h2⟩
          rw [hn] at this; cases this
        simp only [if_true]
        exact (h.ca hh hhl ha hni).symm
  · have h1 : tB l ll page = false := by
      unfold tB inT
      by_cases h0 : 0 ≤ page
      · rw [decide_eq_false (show ¬ page < l.length by omega)]; simp
      · rw [decide_eq_false h0]; simp
    have h2 : tB l' ll page = false := by
      unfold tB inT
      by_cases h0 : 0 ≤ page
      · rw [decide_eq_false (show ¬ page < l'.length by rw [h.len]; omega)]; simp
      · rw [decide_eq_false h0]; simp
    unfold tH tO rC tC
    rw [h1, h2]
    exact ⟨rfl, rfl, rfl, rfl⟩
theorem zr_new {n : Nat} (h1 : 1 ≤ n) (h2 : n ≤ 1024) : ZR (full n) [] (DataW.map [] : Dm) (full n) :=
  ⟨rfl, bi_full h1 h2, fun x hx ha _ => absurd ha (full_out (by rw [full_len] at hx; exact hx))⟩
/-- Single and greater blocks that are out, and not near, below a page. -/
def zoL (l : List T3) (ll : List (List Int)) : Nat → List Nat
  | 0 => []
  | i + 1 => if zout l ll i then zoL l ll i ++ [i] else zoL l ll i
theorem zoL_len (l : List T3) (ll : List (List Int)) : ∀ i, (zoL l ll i).length ≤ i
  | 0 => by simp [zoL]
  | i + 1 => by have := zoL_len l ll i; simp only [zoL]; split <;> simp <;> omega
end

/-! ### The state -/
def RT (w0 w : World) (z : Nat) (Z : Nat → Prop) (l : List T3) (ll : List (List Int)) : Prop := ∃ p q v F, RC w0 w z p q v F l ll ∧ Z = rfoot z p v F
def RPost (w0 w : World) (z : Nat) (Z : Nat → Prop) (w' : World) (l : List T3) (ll : List (List Int)) : Prop := ∃ Z', RT w0 w' z Z' l ll ∧ Mv w Z w' Z'
section
variable {w0 w w' : World} {z : Nat} {Z : Nat → Prop} {l : List T3} {ll : List (List Int)}
theorem RT.lt (h : RT w0 w z Z l ll) (x : Nat) (hx : Z x) : x < w.heap.size := by obtain ⟨p, q, v, F, h, rfl⟩ := h; exact h.lt x hx
theorem RT.new (h : RT w0 w z Z l ll) (x : Nat) (hx : Z x) : w0.heap.size ≤ x := by obtain ⟨p, q, v, F, h, rfl⟩ := h; exact h.new x hx
theorem RT.bi (h : RT w0 w z Z l ll) : BI l := by obtain ⟨p, q, v, F, h, rfl⟩ := h; exact h.b.i
theorem RT.extNo (h : RT w0 w z Z l ll) (hx : Ext No w w') : RT w0 w' z Z l ll := by obtain ⟨p, q, v, F, h, rfl⟩ := h; exact ⟨p, q, v, F, h.extNo hx, rfl⟩
theorem RT.ext {S : Nat → Prop} (h : RT w0 w z Z l ll) (hx : Ext S w w') (hS : ∀ x, Z x → ¬ S x) (hN : ∀ x, S x → w0.heap.size ≤ x) : RT w0 w' z Z l ll := by
  obtain ⟨p, q, v, F, h, rfl⟩ := h; exact ⟨p, q, v, F, h.ext hx hS hN, rfl⟩
theorem RT.v0 (h : RT w0 w z Z l ll) : ∃ p a cap, w.cell? ⟨z, 0, none⟩ = some (.pointer (some ⟨p, 0, none⟩)) ∧ w.cell? ⟨p, 0, none⟩ = some (.slice a l.length cap) := by
  obtain ⟨p, q, v, F, h, rfl⟩ := h
  obtain ⟨a, cap, _, _, _, v0⟩ := h.v0
  exact ⟨p, a, cap, h.c.cell' (i := 0) rfl, v0⟩
theorem rz_alloc (h : RT w0 w z Z l ll) (hs : ∀ x ∈ ll.flatten, Sg l x) (c o k : Int) :
    Calls Try.prog 126 #[.pointer (some ⟨z, 0, none⟩), .int .i64 c, .int .i64 o, .int .i64 k] w fun e w' => e = .returned (.tuple #[.int .i64 (ralloc l ll c o k).x, .int .i64 (ralloc l ll c o k).e]) ∧ RPost w0 w z Z w' (ralloc l ll c o k).l (ralloc l ll c o k).ll := by
  obtain ⟨p, q, v, F, h, rfl⟩ := h
  cases hc : inR ll c
  · have e1 : ralloc l ll c o k = ⟨l, ll, 0, 9⟩ := by unfold ralloc; rw [if_pos hc]
    rw [e1]
    refine (ralloc_range h c o k hc).mono ?_
    rintro e w' ⟨he, rfl⟩
    exact ⟨he, _, ⟨p, q, v, F, h, rfl⟩, Mv.refl _ _⟩
  · have hcn : ¬ inR ll c = false := by rw [hc]; decide
    cases ho : okA o k
    · have e1 : ralloc l ll c o k = ⟨l, ll, 0, 2⟩ := by unfold ralloc; rw [if_neg hcn, if_pos ho]
      rw [e1]
      refine (ralloc_arg h c o k hc (of_decide_eq_false ho)).mono ?_
      rintro e w' ⟨he, rfl⟩
      exact ⟨he, _, ⟨p, q, v, F, h, rfl⟩, Mv.refl _ _⟩
    · have hon : ¬ okA o k = false := by rw [ho]; decide
      obtain ⟨o, k, rfl, rfl, ho1, hk1⟩ := okA_yes ho
      by_cases ht : (o : Int) = 0 ∧ takeB ll c = true
      · have e1 : ralloc l ll c o k = ⟨setC l (takeX ll c).toNat k, dropL ll c, takeX ll c, 0⟩ := by unfold ralloc; rw [if_neg hcn, if_neg hon, if_pos ht]
        rw [e1]
        have hp := take_perm (ll := ll) (c := c)
        rw [if_pos ht.2] at hp
        have hsg := hs (takeX ll c) (hp.mem_iff.1 (by simp))
        obtain ⟨h0, ht⟩ := ht
        rw [h0]
        refine (ralloc_near h c k hk1 hc ht hsg).mono ?_
        rintro e w' ⟨he, F', hZ, hM⟩
        exact ⟨he, _, ⟨p, q, v, F', hZ, rfl⟩, hM⟩
      · have ht2 : ¬ (o = 0 ∧ takeB ll c = true) := fun hh => ht ⟨by omega, hh.2⟩
        cases hb : leastL l o with
        | some b =>
          have e1 : ralloc l ll c o k = ⟨allocL l o k, ll, b.i, 0⟩ := by
            unfold ralloc; rw [if_neg hcn, if_neg hon, if_neg ht, Int.toNat_natCast, Int.toNat_natCast, hb]
          rw [e1]
          refine (ralloc_some h c o k ho1 hk1 hc ht2 hb).mono ?_
          rintro e w' ⟨he, F', hZ, hM⟩
          exact ⟨he, _, ⟨p, q, v, F', hZ, rfl⟩, hM⟩
        | none =>
          have e1 : ralloc l ll c o k = ⟨allocL (backL l ll.flatten) o k, List.replicate ll.length [], allocX (backL l ll.flatten) o, allocE (backL l ll.flatten) o⟩ := by
            unfold ralloc; rw [if_neg hcn, if_neg hon, if_neg ht, Int.toNat_natCast, Int.toNat_natCast, hb]
          rw [e1]
          refine (ralloc_none h c o k ho1 hk1 hc ht2 hb).mono ?_
          rintro e w' ⟨he, F', hZ, hM⟩
          exact ⟨he, _, ⟨p, q, v, F', hZ, rfl⟩, hM⟩
theorem rz_free (h : RT w0 w z Z l ll) (c page : Int) :
    Calls Try.prog 129 #[.pointer (some ⟨z, 0, none⟩), .int .i64 c, .int .i64 page] w fun e w' => e = .returned (.int .i64 (rfree l ll c page).e) ∧ RPost w0 w z Z w' (rfree l ll c page).l (rfree l ll c page).ll := by
  obtain ⟨p, q, v, F, h, rfl⟩ := h
  refine (rfree129_spec h c page).mono ?_
  rintro e w' ⟨he, F', hZ, hM⟩
  exact ⟨he, _, ⟨p, q, v, F', hZ, rfl⟩, hM⟩
theorem rz_drain (h : RT w0 w z Z l ll) (c : Int) :
    Calls Try.prog 127 #[.pointer (some ⟨z, 0, none⟩), .int .i64 c] w fun e w' => e = .returned (.int .i64 (rdrain l ll c).e) ∧ RPost w0 w z Z w' (rdrain l ll c).l (rdrain l ll c).ll := by
  obtain ⟨p, q, v, F, h, rfl⟩ := h
  refine (rdrain127_spec h c).mono ?_
  rintro e w' ⟨he, F', hZ, hM⟩
  exact ⟨he, _, ⟨p, q, v, F', hZ, rfl⟩, hM⟩
theorem rz_tag (h : RT w0 w z Z l ll) (page : Int) :
    Calls Try.prog 133 #[.pointer (some ⟨z, 0, none⟩), .int .i64 page] w fun e w' => e = .returned (.tuple #[.agg #[.int .i64 (tH l ll page), .int .i64 (tO l ll page), .int .i64 (rC l ll page)], .bool (tB l ll page)]) ∧ Ext No w w' := by
  obtain ⟨p, q, v, F, h, rfl⟩ := h; exact rtag133_spec h page
theorem rz_near (h : RT w0 w z Z l ll) (c : Int) :
    Calls Try.prog 132 #[.pointer (some ⟨z, 0, none⟩), .int .i64 c] w fun e w' => e = .returned (.int .i64 (listIn ll c).length) ∧ w = w' := by
  obtain ⟨p, q, v, F, h, rfl⟩ := h; exact rnear132_spec h c
theorem rz_whole (h : RT w0 w z Z l ll) :
    Calls Try.prog 131 #[.pointer (some ⟨z, 0, none⟩)] w fun e w' => e = .returned (.bool (decide (l = full l.length))) ∧ Ext No w w' := by
  obtain ⟨p, q, v, F, h, rfl⟩ := h; exact rwhole131_spec h
theorem rz_left (h : RT w0 w z Z l ll) :
    Calls Try.prog 130 #[.pointer (some ⟨z, 0, none⟩)] w fun e w' => e = .returned (.int .i64 (frS l + ll.flatten.length)) ∧ Ext No w w' := by
  obtain ⟨p, q, v, F, h, rfl⟩ := h; exact rleft130_spec h
end
end Go.Proofs.Ytjkknjohmekeiaa
/- The zone and the document's: New, outs, same. No condition. -/
namespace Go.Proofs.Ytjkknjohmekeiaa
open Go.RowKit

set_option maxRecDepth 100000 in
set_option maxHeartbeats 1600000 in
theorem rz_new (w0 w : World) (hx : Ext No w0 w) (c n : Nat) (hc1 : 1 ≤ c) (hc8 : c ≤ 8) (h1 : 1 ≤ n) (h2 : n ≤ 1024) :
    Calls Try.prog 79 #[.int .i64 c, .int .i64 n] w fun e w' => ∃ z Z, e = .returned (.tuple #[.pointer (some ⟨z, 0, none⟩), .int .i64 0]) ∧ RT w0 w' z Z (full n) (List.replicate c []) ∧ (∀ x, Z x → w.heap.size ≤ x) ∧ Ext No w w' := by
  go_enter Try.func79, Try.ntmps79
  go_wp2_with fail
  refine (rt_new w0 w hx (c : Int) 6 (by omega) (by omega) (by decide) (by decide) (List.replicate c []) (by rw [Int.toNat_natCast])).mono ?_
  rintro e w1 ⟨q, F, rfl, hN, hF1, hx1⟩
  go_wp2_with fail
  refine (new74_spec w1 n h1 h2).mono ?_
  rintro e w2 ⟨p, v, base, rfl, hR, hp2, hv2, hx2⟩
  obtain ⟨M, hM⟩ : ∃ M, w2.heap.size = M := ⟨_, rfl⟩
  obtain ⟨W, hW⟩ : ∃ W, w2.alloc (.cells #[.pointer (some ⟨p, 0, none⟩), .pointer (some ⟨q, 0, none⟩)] 172) = W := ⟨_, rfl⟩
  have hxW : Ext No w2 W := by rw [← hW]; exact (Ext.refl No w2).alloc _
  have hcW : Blk W M [.pointer (some ⟨p, 0, none⟩), .pointer (some ⟨q, 0, none⟩)] 172 := by rw [← hW]; exact Blk.new' hM.symm
  have hNW := (hN.extNo hx2).extNo hxW
  have hs1 := hx1.size
  have hs2 := hx2.size
  have hs0 := hx.size
  have hB : BT w0 w2 p v (full n) 122 := ⟨(hx.transNo hx1).transNo hx2, ⟨base, hR⟩, bi_full h1 h2, by omega, fun x h => by have := hv2 x h; omega⟩
  have hBW := hB.extNo hxW
  have hblt := hB.lt
  have hNlt := hN.s.lt
  have hZ : RC w0 W M p q v F (full n) (List.replicate c []) :=
    ⟨hBW, hNW, hcW, by omega, ⟨fun h => by have := hblt.2 _ h; omega, fun h => by have := hNlt _ h; omega, fun h => by have := hNlt _ h; omega, fun x h1 h2 => by have := hv2 x h1; have := hNlt _ h2; omega⟩⟩
  have hft : ∀ x, rfoot M p v F x → w.heap.size ≤ x := by
    rintro x (rfl | rfl | h | h)
    · omega
    · omega
    · have := hv2 x h; omega
    · exact hF1 x h
  have hXW := (hx1.transNo hx2).transNo hxW
  have hW' := Lib.hid hW
  have hM' := Lib.hid hM
  clear hW hM hN hB hNW hBW hcW hxW hx1 hx2 hF1 hv2 hR
  go_wp2_with fail
  go_ret2
  rw [hM'.out, hW'.out]
  exact ⟨M, _, rfl, ⟨p, q, v, F, hZ, rfl⟩, hft, hXW⟩
theorem rz_new_bad (w : World) (c n : Int) (h : ¬ ((1 ≤ c ∧ c ≤ 8) ∧ 1 ≤ n ∧ n ≤ 1024)) :
    Calls Try.prog 79 #[.int .i64 c, .int .i64 n] w fun e w' => e = .returned (.tuple #[.pointer none, .int .i64 2]) ∧ Ext No w w' := by
  by_cases hc : 1 ≤ c ∧ c ≤ 8
  · have hn : n < 1 ∨ 1024 < n := by omega
    go_enter Try.func79, Try.ntmps79
    go_wp2_with fail
    refine (rt_new w w (Ext.refl _ _) c 6 hc.1 hc.2 (by decide) (by decide) _ rfl).mono ?_
    rintro e w1 ⟨q, F, rfl, _, _, hx1⟩
    go_wp2_with fail
    refine (new74_out w1 n hn).mono ?_
    rintro e w2 ⟨rfl, rfl⟩
    go_wp2_with fail
    go_ret2
    exact ⟨rfl, hx1⟩
  · by_cases hn : n < 1 ∨ 1024 < n
    · go_enter Try.func79, Try.ntmps79
      go_wp2_with fail
      refine (r_new_bad w c 6 (by omega)).mono ?_
      rintro e w1 ⟨rfl, rfl⟩
      go_wp2_with fail
      refine (new74_out w n hn).mono ?_
      rintro e w2 ⟨rfl, rfl⟩
      go_wp2_with fail
      go_ret2
      exact ⟨rfl, Ext.refl _ _⟩
    · obtain ⟨k, rfl⟩ : ∃ k : Nat, n = k := ⟨n.toNat, by omega⟩
      go_enter Try.func79, Try.ntmps79
      go_wp2_with fail
      refine (r_new_bad w c 6 (by omega)).mono ?_
      rintro e w1 ⟨rfl, rfl⟩
      go_wp2_with fail
      refine (new74_spec w k (by omega) (by omega)).mono ?_
      rintro e w2 ⟨p, v, base, rfl, _, _, _, hx2⟩
      go_wp2_with fail
      go_ret2
      exact ⟨rfl, hx2⟩

section
variable {w0 w w' : World} {r n : Nat} {R : Nat → Prop} {l l' : List T3} {ll : List (List Int)} {D : Dm}
set_option maxRecDepth 100000 in
set_option maxHeartbeats 3200000 in
theorem outs128_spec (h : RT w0 w r R l ll) :
    Calls Try.prog 128 #[.pointer (some ⟨r, 0, none⟩)] w fun e w' => ∃ v, e = .returned v ∧ w'.ownsRow w.heap.size 3 1 v (zoL l ll l.length).length ((toI (zoL l ll l.length)).map int) ∧ Ext No w w' := by
  have hle := h.bi.le
  have hbi := h.bi
  obtain ⟨nn, hnn⟩ : ∃ nn, l.length = nn := ⟨_, rfl⟩
  have hnn' := Lib.hid hnn
  rw [hnn] at hle ⊢
  clear hnn
  go_enter Try.func128, Try.ntmps128
  go_wp2_with fail
  go_loopg [3, 4] nn (fun g s3 s4 wr => ∃ i : Nat, i + g = nn ∧ s4 = .int .i64 i ∧ wr.ownsRow w.heap.size 3 1 s3 (zoL l ll i).length ((toI (zoL l ll i)).map int) ∧ Ext No w wr)
  case atStart => exact ⟨0, by omega, rfl, World.ownsRow_nil _ _ _ _, Ext.refl _ _⟩
  case round =>
    obtain ⟨i, hi, rfl, hown, hx⟩ := hrel
    obtain ⟨wz, hwz⟩ : ∃ wz, wr = wz := ⟨_, rfl⟩
    rw [hwz] at hown hx ⊢
    clear hwz
    have hi' := Lib.hid hi
    have hin : i ≤ nn := by omega
    clear hi
    have hal := zoL_len l ll i
    have hz := h.extNo hx
    obtain ⟨p, a, cap, z0, v0⟩ := hz.v0
    rw [hnn'.out] at v0
    by_cases hlt : i < nn
    · have hd : decide ((i : Int) < nn) = true := decide_eq_true (by omega)
      have htg := rz_tag hz (i : Int)
      have hyes := @zout_yes l ll (i : Int) hbi
      have hno := @zout_no l ll (i : Int) hbi
      obtain ⟨H, hH⟩ : ∃ H, tH l ll (i : Int) = H := ⟨_, rfl⟩
      obtain ⟨O, hO⟩ : ∃ O, tO l ll (i : Int) = O := ⟨_, rfl⟩
      obtain ⟨C, hC⟩ : ∃ C, rC l ll (i : Int) = C := ⟨_, rfl⟩
      obtain ⟨B, hB⟩ : ∃ B, tB l ll (i : Int) = B := ⟨_, rfl⟩
      rw [hH, hO, hC, hB] at htg
      rw [hB, hH] at hno
      cases hq : zout l ll i
      · have hfn : Hid (zoL l ll (i + 1) = zoL l ll i) := by show _ = _; simp only [zoL]; rw [hq]; rfl
        have hex := hno hq
        clear hno hyes hq hH hO hC hB
        rcases hex with rfl | ⟨rfl, hne⟩
        · go_wp2_with fail
          refine htg.mono ?_
          rintro e w2 ⟨rfl, hx2⟩
          have hx3 := hx.transNo (hx2.alloc (.cells #[.int .i64 H, .int .i64 O, .int .i64 C] 174))
          have hown3 := ownsRow_ext hown (hx2.alloc (.cells #[.int .i64 H, .int .i64 O, .int .i64 C] 174)) (fun _ _ => id)
          clear htg z0 v0 hx2 hown hx hz
          go_wp2_with fail
          go_roundg (nn - (i + 1))
          case measure => have := hi'.out; omega
          case rel => exact ⟨i + 1, by omega, by go_num, by rw [hfn.out]; exact hown3, hx3⟩
        · have hne' : (H == (i : Int)) = false := by rw [beq_eq_false_iff_ne]; simpa using hne
          clear hne
          go_wp2_with fail
          refine htg.mono ?_
          rintro e w2 ⟨rfl, hx2⟩
          have hx3 := hx.transNo (hx2.alloc (.cells #[.int .i64 H, .int .i64 O, .int .i64 C] 174))
          have hown3 := ownsRow_ext hown (hx2.alloc (.cells #[.int .i64 H, .int .i64 O, .int .i64 C] 174)) (fun _ _ => id)
          clear htg z0 v0 hx2 hown hx hz
          go_wp2_with fail
          go_roundg (nn - (i + 1))
          case measure => have := hi'.out; omega
          case rel => exact ⟨i + 1, by omega, by go_num, by rw [hfn.out]; exact hown3, hx3⟩
      · have hfn : Hid (zoL l ll (i + 1) = zoL l ll i ++ [i]) := by show _ = _; simp only [zoL]; rw [hq]; rfl
        obtain ⟨j, ej, _, _, _, g1, g2, _⟩ := hyes hq
        obtain rfl : i = j := by omega
        rw [hB] at g1
        rw [hH] at g2
        subst g1 g2
        have hee : ((i : Int) == i) = true := beq_self_eq_true _
        clear hno hyes hq hH hO hC hB
        go_wp2_with fail
        refine htg.mono ?_
        rintro e w2 ⟨rfl, hx2⟩
        have hx3 := hx2.alloc (.cells #[.int .i64 i, .int .i64 O, .int .i64 C] 174)
        have hown3 := ownsRow_ext hown hx3 (fun _ _ => id)
        have hx4 := hx.transNo hx3
        obtain ⟨W2, hW2⟩ : ∃ W2, w2.alloc (.cells #[.int .i64 i, .int .i64 O, .int .i64 C] 174) = W2 := ⟨_, rfl⟩
        obtain ⟨A2, hA2⟩ : ∃ A2, w2.heap.size = A2 := ⟨_, rfl⟩
        have hB2 : Blk W2 A2 [.int .i64 i, .int .i64 O, .int .i64 C] 174 := by rw [← hW2]; exact Blk.new' hA2.symm
        have t0 := hB2.cell' (i := 0) rfl
        rw [hW2] at hown3 hx4
        obtain ⟨acc, hacc⟩ : ∃ acc, zoL l ll i = acc := ⟨_, rfl⟩
        rw [hacc] at hfn hown3 hal
        obtain ⟨av, cv, rfl, hcv⟩ := ownsRow_val hown3
        clear htg z0 v0 hx2 hown hx hz hx3
        go_upto_region 6 with (fail)
        clear hW2 hA2
        go_wp2_with (at_builtin; refine stop_here ?_)
        refine Stop.mk ?_
        have hxa : Ext No W2 (W2.alloc (.cells #[.int .i64 i] 3)) := (Ext.refl _ _).alloc _
        refine wpList_app (v := .slice av acc.length cv) (m := 1) ty_int rfl _ _ rfl rfl (ownsRow_ext hown3 hxa (fun _ _ => id)) rfl (Rd.of_blk (n := 1) (Blk.new' rfl) rfl (by decide)) (by simp [Value.oneCell']) (by omega) (by unfold maxLen; omega) (by have := hx4.size; simp only [World.size_alloc]; omega) ?_
        intro v' w3 hown4 hx5 _ hfr3
        have hX : Ext No w w3 := (hx4.transNo hxa).trans hx5 (fun x hx2 h => by have := (hown3.lt x h).1; omega)
        have hown4' : Hid (w3.ownsRow w.heap.size 3 1 v' (acc ++ [i]).length ((toI (acc ++ [i])).map int)) := by
          rw [toI_snoc, List.length_append]; exact hown4
        clear hown4 hx5 hfr3 hown3 hxa hx4 t0
        go_wp2_with fail
        go_roundg (nn - (i + 1))
        case measure => have := hi'.out; omega
        case rel => exact ⟨i + 1, by omega, by go_num, by rw [hfn.out]; exact hown4'.out, hX⟩
    · have hd : decide ((i : Int) < nn) = false := decide_eq_false (by omega)
      obtain rfl : i = nn := by omega
      go_wp2_with fail
      go_ret
      exact ⟨_, rfl, hown, hx⟩
end
end Go.Proofs.Ytjkknjohmekeiaa
/- The zone and the document's: do both stand alike; a call of both. No condition. -/
namespace Go.Proofs.Ytjkknjohmekeiaa
open Go.RowKit

/-- A zone and the document's beside it. -/
structure ZP (w0 w : World) (z : Nat) (Z : Nat → Prop) (l : List T3) (ll : List (List Int)) (D : Dm) (n r : Nat) (R : Nat → Prop) (l' : List T3) : Prop where
  a : ZT w0 w z Z l ll D n
  b : RT w0 w r R l' ll
  d : ∀ x, Z x → ¬ R x
  zi : ZI l ll.flatten D
  zr : ZR l ll.flatten D l'
section
variable {w0 w w' w'' : World} {z n r : Nat} {Z R : Nat → Prop} {l l' : List T3} {ll : List (List Int)} {D : Dm}
theorem ZP.extNo (h : ZP w0 w z Z l ll D n r R l') (hx : Ext No w w') : ZP w0 w' z Z l ll D n r R l' := ⟨h.a.extNo hx, h.b.extNo hx, h.d, h.zi, h.zr⟩
/-- Behind the program's call. -/
theorem ZP.mid (h : ZP w0 w z Z l ll D n r R l') {Z' : Nat → Prop} (hM : Mv w Z w' Z') : RT w0 w' r R l' ll ∧ ∀ x, Z' x → ¬ R x :=
  ⟨h.b.ext hM.1 (fun x h1 h2 => h.d x h2 h1) h.a.new, fun x h1 h2 => by
    rcases hM.2 x h1 with e | e
    · exact h.d x e h2
    · have := h.b.lt x h2; omega⟩
/-- Behind both. -/
theorem ZP.two {Z' R' : Nat → Prop} {a : ZA} {b : RA} {n' : Nat} (ha : ZT w0 w' z Z' a.l a.ll a.D n') (hR : RT w0 w' r R l' ll) (hd : ∀ x, Z' x → ¬ R x) (hb : RT w0 w'' r R' b.l b.ll) (hM : Mv w' R w'' R') (hrel : Rel a b) :
    ZP w0 w'' z Z' a.l a.ll a.D n' r R' b.l :=
  ⟨ha.ext hM.1 hd hR.new, by rw [hrel.ll]; exact hb, fun x h1 h2 => by
    rcases hM.2 x h2 with e | e
    · exact hd x h1 e
    · have := ha.lt x h1; omega, hrel.zi, hrel.zr⟩
theorem rz_tag' (h : RT w0 w r R l ll) (page : Int) {H O C : Int} {B : Bool} (hH : tH l ll page = H) (hO : tO l ll page = O) (hC : rC l ll page = C) (hB : tB l ll page = B) :
    Calls Try.prog 133 #[.pointer (some ⟨r, 0, none⟩), .int .i64 page] w fun e w' => e = .returned (.tuple #[.agg #[.int .i64 H, .int .i64 O, .int .i64 C], .bool B]) ∧ Ext No w w' := by
  subst hH hO hC hB; exact rz_tag h page

set_option maxRecDepth 100000 in
set_option maxHeartbeats 6400000 in
theorem same81_spec (h : ZP w0 w z Z l ll D n r R l') :
    Calls Try.prog 81 #[.pointer (some ⟨z, 0, none⟩), .pointer (some ⟨r, 0, none⟩)] w fun e w' => e = .returned (.bool true) ∧ Ext No w w' := by
  have hfr : frS l' = frS l := by rw [← E_frS l', ← h.zr.e, E_frS]
  have hwh : decide (l' = full l'.length) = decide (l = full l.length) := by rw [← E_whole l', ← h.zr.e, E_whole]
  have hlen : l'.length = l.length := h.zr.len
  have hle := h.zi.bi.le
  have htags := Lib.hid (fun page => h.zr.tags h.zi page)
  obtain ⟨T, hT⟩ : ∃ T, frS l + (ll.flatten.length : Int) = T := ⟨_, rfl⟩
  have hT' : frS l' + (ll.flatten.length : Int) = T := by rw [hfr]; exact hT
  obtain ⟨B, hB⟩ : ∃ B, decide (l = full l.length) = B := ⟨_, rfl⟩
  have hB' : decide (l' = full l'.length) = B := by rw [hwh]; exact hB
  have hBB : (B != B) = false := by simp
  have hTT : (T != T) = false := by simp
  have s1 := zt_left' h.a hT
  have s2 : ∀ w', RT w0 w' r R l' ll → _ := fun w' hh => by have := rz_left hh; rw [hT'] at this; exact this
  have s3 : ∀ w', ZT w0 w' z Z l ll D n → _ := fun w' hh => zt_whole' hh hB
  have s4 : ∀ w', RT w0 w' r R l' ll → _ := fun w' hh => by have := rz_whole hh; rw [hB'] at this; exact this
  obtain ⟨nn, hnn⟩ : ∃ nn, l.length = nn := ⟨_, rfl⟩
  rw [hnn] at hle
  have hlen' := Lib.hid (hlen.trans hnn)
  clear hfr hwh hlen hT hT' hB hB' hnn
  go_enter Try.func81, Try.ntmps81
  go_wp2_with fail
  refine s1.mono ?_
  rintro e w1 ⟨rfl, hx1⟩
  have h1 := h.extNo hx1
  go_wp2_with fail
  refine (s2 w1 h1.b).mono ?_
  rintro e w2 ⟨rfl, hx2⟩
  have h2 := h1.extNo hx2
  go_wp2_with fail
  refine (s3 w2 h2.a).mono ?_
  rintro e w3 ⟨rfl, hx3⟩
  have h3 := h2.extNo hx3
  go_wp2_with fail
  refine (s4 w3 h3.b).mono ?_
  rintro e w4 ⟨rfl, hx4⟩
  have h4 := h3.extNo hx4
  have hX4 : Ext No w w4 := ((hx1.transNo hx2).transNo hx3).transNo hx4
  clear h h1 h2 h3 s1 s2 s3 s4 hx1 hx2 hx3 hx4
  go_wp2_with fail
  go_loopg [5] 10 (fun g s wr => ∃ c : Int, -1 ≤ c ∧ c ≤ 9 ∧ (9 - c).toNat ≤ g ∧ s = .int .i64 c ∧ Ext No w4 wr)
  case atStart => exact ⟨-1, by omega, by omega, by omega, rfl, Ext.refl _ _⟩
  case round =>
    obtain ⟨c, hc0, hc1, hg, rfl, hx⟩ := hrel
    have hg' := Lib.hid hg
    clear hg
    have hz := h4.extNo hx
    obtain ⟨wz, hwz⟩ : ∃ wz, wr = wz := ⟨_, rfl⟩
    rw [hwz] at hz hx ⊢
    clear hwz
    by_cases h9 : c < 9
    · obtain ⟨N, hN⟩ : ∃ N : Int, ((listIn ll c).length : Int) = N := ⟨_, rfl⟩
      have s1 := zt_near' hz.a c hN
      have s2 : ∀ w', RT w0 w' r R l' ll → _ := fun w' hh => by have := rz_near hh c; rw [hN] at this; exact this
      have hNN : (N != N) = false := by simp
      clear hN
      go_wp2_with fail
      refine s1.mono ?_
      rintro e w5 ⟨rfl, hx5⟩
      have h5 := hz.extNo hx5
      go_wp2_with fail
      refine (s2 w5 h5.b).mono ?_
      rintro e w6 ⟨rfl, rfl⟩
      have hx6 := hx.transNo hx5
      clear s1 s2 hx hx5 hz h5
      go_wp2_with fail
      go_roundg ((9 - (c + 1)).toNat)
      case measure => have := hg'.out; omega
      case rel => exact ⟨c + 1, by omega, by omega, by omega, by go_num, hx6⟩
    · have hXz := hX4.transNo hx
      clear hx h4 hX4
      go_wp2_with fail
      go_loopg [6] 102 (fun g s wr => ∃ c : Int, -1 ≤ c ∧ c ≤ 100 ∧ c ≤ nn + 1 ∧ (101 - c).toNat ≤ g ∧ s = .int .i64 c ∧ Ext No wz wr)
      case atStart => exact ⟨-1, by omega, by omega, by omega, by omega, rfl, Ext.refl _ _⟩
      case round =>
        obtain ⟨i, hi0, hi1, hi2, hg2, rfl, hx⟩ := hrel
        have hg2' := Lib.hid hg2
        clear hg2
        have hy := hz.extNo hx
        obtain ⟨wy, hwy⟩ : ∃ wy, wr = wy := ⟨_, rfl⟩
        rw [hwy] at hy hx ⊢
        clear hwy
        obtain ⟨p, a, cap, z0, v0⟩ := hy.b.v0
        rw [hlen'.out] at v0
        by_cases hlt : i ≤ nn ∧ i < 100
        · obtain ⟨hlt1, hlt2⟩ := hlt
          have hd1 : decide (i ≤ (nn : Int)) = true := decide_eq_true hlt1
          have hd2 : decide (i < 100) = true := decide_eq_true hlt2
          obtain ⟨t1, t2, t3, t4⟩ := htags.out i
          obtain ⟨H, hH⟩ : ∃ H, tH l ll i = H := ⟨_, rfl⟩
          obtain ⟨O, hO⟩ : ∃ O, tO l ll i = O := ⟨_, rfl⟩
          obtain ⟨C, hC⟩ : ∃ C, tC D l ll i = C := ⟨_, rfl⟩
          obtain ⟨B, hB⟩ : ∃ B, tB l ll i = B := ⟨_, rfl⟩
          rw [hB] at t1; rw [hH] at t2; rw [hO] at t3; rw [hC] at t4
          have s1 := zt_tag' hy.a i hH hO hC hB
          have hBB : (B != B) = false := by simp
          have hHH : (H != H) = false := by simp
          have hOO : (O != O) = false := by simp
          have hCC : (C != C) = false := by simp
          clear hH hO hC hB
          go_wp2_with fail
          refine s1.mono ?_
          rintro e w5 ⟨rfl, hx5⟩
          obtain ⟨A5, hA5⟩ : ∃ A5, w5.heap.size = A5 := ⟨_, rfl⟩
          obtain ⟨W5, hW5⟩ : ∃ W5, w5.alloc (.cells #[.int .i64 H, .int .i64 O, .int .i64 C] 56) = W5 := ⟨_, rfl⟩
          have hxW : Ext No wy W5 := by rw [← hW5]; exact hx5.alloc _
          have hB5 : Blk W5 A5 [.int .i64 H, .int .i64 O, .int .i64 C] 56 := by rw [← hW5]; exact Blk.new' hA5.symm
          have h5 := hy.extNo hxW
          have s2 := rz_tag' h5.b i t2 t3 t4 t1
          have hX5 := hx.transNo hxW
          clear s1 t1 t2 t3 t4 z0 v0 hx5 hxW hx hy
          go_upto_region 12 with (fail)
          clear hW5 hA5
          go_wp2_with fail
          refine s2.mono ?_
          rintro e w6 ⟨rfl, hx6⟩
          have hB6 := hB5.extNo hx6
          obtain ⟨A7, hA7⟩ : ∃ A7, w6.heap.size = A7 := ⟨_, rfl⟩
          obtain ⟨W7, hW7⟩ : ∃ W7, w6.alloc (.cells #[.int .i64 H, .int .i64 O, .int .i64 C] 174) = W7 := ⟨_, rfl⟩
          have hxW7 : Ext No w6 W7 := by rw [← hW7]; exact (Ext.refl _ _).alloc _
          have hB7 : Blk W7 A7 [.int .i64 H, .int .i64 O, .int .i64 C] 174 := by rw [← hW7]; exact Blk.new' hA7.symm
          have hB5' := hB6.extNo hxW7
          have a0 := hB5'.cell' (i := 0) rfl
          have a1 := hB5'.cell' (i := 1) rfl
          have a2 := hB5'.cell' (i := 2) rfl
          have b0 := hB7.cell' (i := 0) rfl
          have b1 := hB7.cell' (i := 1) rfl
          have b2 := hB7.cell' (i := 2) rfl
          have hX7 := (hX5.transNo hx6).transNo hxW7
          clear s2 hX5 hx6 hxW7 hB5 hB6 h5 hB5' hB7
          go_upto_region 13 with (fail)
          clear hW7 hA7
          go_wp2_with fail
          go_roundg ((101 - (i + 1)).toNat)
          case measure => have := hg2'.out; omega
          case rel => exact ⟨i + 1, by omega, by omega, by omega, by omega, by go_num, hX7⟩
        · have hex : ¬ i ≤ nn ∨ (i ≤ nn ∧ ¬ i < 100) := by omega
          rcases hex with h1 | ⟨h1, h2⟩
          · have hd1 : decide (i ≤ (nn : Int)) = false := decide_eq_false h1
            go_wp2_with fail
            go_ret
            exact ⟨rfl, hXz.transNo hx⟩
          · have hd1 : decide (i ≤ (nn : Int)) = true := decide_eq_true h1
            have hd2 : decide (i < 100) = false := decide_eq_false h2
            go_wp2_with fail
            go_ret
            exact ⟨rfl, hXz.transNo hx⟩
end
end Go.Proofs.Ytjkknjohmekeiaa
/- The law ZonePlays, walked. No condition. -/
namespace Go.Proofs.Ytjkknjohmekeiaa
open Go.RowKit
section
variable {w0 w w' w'' : World} {z n r : Nat} {Z R : Nat → Prop} {l l' : List T3} {ll : List (List Int)} {D : Dm}
theorem ZP.mono (h : ZP w0 w z Z l ll D n r R l') {n' : Nat} (hn : n ≤ n') : ZP w0 w z Z l ll D n' r R l' := ⟨h.a.mono hn, h.b, h.d, h.zi, h.zr⟩
set_option maxRecDepth 100000 in
set_option maxHeartbeats 6400000 in
theorem step80_spec (h : ZP w0 w z Z l ll D n r R l') (hn : n < maxLen) (d : Cl) :
    Calls Try.prog 80 #[.pointer (some ⟨z, 0, none⟩), .pointer (some ⟨r, 0, none⟩), .agg #[.int .i64 d.op, .int .i64 d.a, .int .i64 d.b, .int .i64 d.c]] w fun e w' => e = .returned (.bool true) ∧
      ∃ Z2 l2 ll2 D2 R2 l2', ZP w0 w' z Z2 l2 ll2 D2 (n + 1) r R2 l2' := by
  obtain ⟨A, hA⟩ : ∃ A, w.heap.size = A := ⟨_, rfl⟩
  obtain ⟨W, hW⟩ : ∃ W, w.alloc (.cells #[.int .i64 d.op, .int .i64 d.a, .int .i64 d.b, .int .i64 d.c] 90) = W := ⟨_, rfl⟩
  have hX : Ext No w W := by rw [← hW]; exact (Ext.refl _ _).alloc _
  have hA1 : Blk W A [.int .i64 d.op, .int .i64 d.a, .int .i64 d.b, .int .i64 d.c] 90 := by rw [← hW]; exact Blk.new' hA.symm
  have hP := h.extNo hX
  have hAZ : ¬ Z A := fun hh => by have := h.a.lt A hh; omega
  have hAR : ¬ R A := fun hh => by have := h.b.lt A hh; omega
  have c0 := hA1.cell' (i := 0) rfl
  have c1 := hA1.cell' (i := 1) rfl
  have c2 := hA1.cell' (i := 2) rfl
  have c3 := hA1.cell' (i := 3) rfl
  obtain ⟨kd, hkd, hkd2⟩ := modn d.op 4 (by decide)
  clear h hX
  go_enter Try.func80, Try.ntmps80
  go_upto_region 1 with (fail)
  try rw [hW]
  try rw [hA]
  clear hW hA
  go_wp2_with fail
  refine (bring_spec W d.op 4 (by decide) (by decide)).mono ?_
  rintro e w2 ⟨rfl, rfl⟩
  rw [hkd]
  by_cases h0 : kd = 0
  · have hq0 : ((kd : Int) == 0) = true := by rw [beq_iff_eq]; omega
    have hrel := zalloc_rel hP.zi hP.zr d.a d.b d.c
    have hsp1 := zt_alloc hP.a hn d.a d.b d.c
    have hsg : ∀ x ∈ ll.flatten, Sg l' x := fun x hx => hP.zr.sg (hP.zi.sg x hx)
    have hrb : ∀ w', RT w0 w' r R l' ll → _ := fun w' hh => rz_alloc hh hsg d.a d.b d.c
    obtain ⟨fa, hfa⟩ : ∃ fa, zalloc l ll D d.a d.b d.c = fa := ⟨_, rfl⟩
    obtain ⟨fb, hfb⟩ : ∃ fb, ralloc l' ll d.a d.b d.c = fb := ⟨_, rfl⟩
    rw [hfa] at hsp1 hrel
    rw [hfb] at hrb hrel
    rw [hrel.e, hrel.x] at hsp1
    clear hfa hfb
    go_wp2_with fail
    refine hsp1.mono ?_
    rintro e w7 ⟨rfl, Z7, h7, hM7⟩
    obtain ⟨hR7, hd7⟩ := hP.mid hM7
    have hA7 := hA1.ext hM7.1 hAZ
    have e1 := hA7.cell' (i := 1) rfl
    have e2 := hA7.cell' (i := 2) rfl
    have e3 := hA7.cell' (i := 3) rfl
    clear c0 c1 c2 c3 hsp1 hM7
    go_wp2_with fail
    refine (hrb w7 hR7).mono ?_
    rintro e w8 ⟨rfl, R8, h8, hM8⟩
    have hP8 := ZP.two h7 hR7 hd7 h8 hM8 hrel
    have hee : (fb.e == fb.e) = true := beq_self_eq_true _
    have hxx : (fb.x == fb.x) = true := beq_self_eq_true _
    clear hrb e1 e2 e3 h8 hM8 h7 hR7
    go_wp2_with fail
    go_ret
    exact ⟨by simp, Z7, _, _, _, R8, _, hP8⟩
  · have hq0 : ((kd : Int) == 0) = false := by rw [beq_eq_false_iff_ne]; omega
    by_cases h3 : kd = 3
    · have hq3 : ((kd : Int) == 3) = true := by rw [beq_iff_eq]; omega
      have hxd : Ext No W W.drew := (Ext.refl No _).drew
      have hPd := hP.extNo hxd
      have hAd := hA1.extNo hxd
      have hrel := zdrain_rel hPd.zi hPd.zr d.a
      have hsp1 := zt_drain hPd.a d.a
      have hrb : ∀ w', RT w0 w' r R l' ll → _ := fun w' hh => rz_drain hh d.a
      obtain ⟨fa, hfa⟩ : ∃ fa, zdrain l ll D d.a = fa := ⟨_, rfl⟩
      obtain ⟨fb, hfb⟩ : ∃ fb, rdrain l' ll d.a = fb := ⟨_, rfl⟩
      rw [hfa] at hsp1 hrel
      rw [hfb] at hrb hrel
      rw [hrel.e] at hsp1
      clear hfa hfb
      go_wp2_with fail
      refine anyZ_begin 10 (fun w' => w'.cell? ⟨A, 1, none⟩ = some (.int .i64 d.a)) (by kernel_rfl) ?_
      have hC : (fun w' : World => w'.cell? ⟨A, 1, none⟩ = some (.int .i64 d.a)) W.drew := c1
      refine anyZ_take 0 (v := ?_) rfl (by kernel_rfl) (by kernel_rfl) (by kernel_rfl) (by kernel_rfl) (fun _ _ _ h => h) hC (Or.inl ⟨by rfl, ?_⟩) ?_
      rotate_left
      · (intro wq hq; (try dsimp only at hq); go_simp; with_reducible rfl)
      simp only [Act.put, List.setIfInBounds_toArray, List.set_cons_zero, List.set_cons_succ]
      refine anyZ_take 1 (v := ?_) rfl (by kernel_rfl) (by kernel_rfl) (by kernel_rfl) (by kernel_rfl) (fun _ _ _ h => h) hC (Or.inl ⟨by rfl, ?_⟩) ?_
      rotate_left
      · (intro wq hq; (try dsimp only at hq); go_simp; with_reducible rfl)
      simp only [Act.put, List.setIfInBounds_toArray, List.set_cons_zero, List.set_cons_succ]
      refine anyZ_take 2 (v := ?_) rfl (by kernel_rfl) (by kernel_rfl) (by kernel_rfl) (by kernel_rfl) (fun _ _ _ h => h) hC (Or.inl ⟨by rfl, ?_⟩) ?_
      rotate_left
      · (intro wq hq; (try dsimp only at hq); go_simp; with_reducible rfl)
      simp only [Act.put, List.setIfInBounds_toArray, List.set_cons_zero, List.set_cons_succ]
      refine anyZ_take 4 (v := ?_) rfl (by kernel_rfl) (by kernel_rfl) (by kernel_rfl) (by kernel_rfl) (fun _ _ _ h => h) hC (Or.inl ⟨by rfl, ?_⟩) ?_
      rotate_left
      · (intro wq hq; (try dsimp only at hq); go_simp; with_reducible rfl)
      simp only [Act.put, List.setIfInBounds_toArray, List.set_cons_zero, List.set_cons_succ]
      refine anyZ_take 5 (v := ?_) rfl (by kernel_rfl) (by kernel_rfl) (by kernel_rfl) (by kernel_rfl) (fun _ _ _ h => h) hC (Or.inl ⟨by rfl, ?_⟩) ?_
      rotate_left
      · (intro wq hq; (try dsimp only at hq); go_simp; with_reducible rfl)
      simp only [Act.put, List.setIfInBounds_toArray, List.set_cons_zero, List.set_cons_succ]
      refine anyZ_take 6 (v := ?_) rfl (by kernel_rfl) (by kernel_rfl) (by kernel_rfl) (by kernel_rfl) (fun _ _ _ h => h) hC (Or.inl ⟨by rfl, ?_⟩) ?_
      rotate_left
      · (intro wq hq; (try dsimp only at hq); go_simp; with_reducible rfl)
      simp only [Act.put, List.setIfInBounds_toArray, List.set_cons_zero, List.set_cons_succ]
      refine anyZ_step 3 rfl (by kernel_rfl) (fun K hK => ?_)
      go_simp
      refine hsp1.mono ?_
      rintro e w7 ⟨rfl, Z7, h7, hM7⟩
      obtain ⟨hR7, hd7⟩ := hPd.mid hM7
      have hA7 := hAd.ext hM7.1 hAZ
      have hC7 : (fun w' : World => w'.cell? ⟨A, 1, none⟩ = some (.int .i64 d.a)) w7 := hA7.cell' (i := 1) rfl
      refine hK _ _ hC7 ?_
      clear hK K
      try simp only [Act.put, List.setIfInBounds_toArray, List.set_cons_zero, List.set_cons_succ]
      refine anyZ_step 7 rfl (by kernel_rfl) (fun K hK => ?_)
      go_simp
      refine (hrb w7 hR7).mono ?_
      rintro e w8 ⟨rfl, R8, h8, hM8⟩
      have hP8 := ZP.two h7 hR7 hd7 h8 hM8 hrel
      have hA8 := hA7.ext hM8.1 hAR
      have hC8 : (fun w' : World => w'.cell? ⟨A, 1, none⟩ = some (.int .i64 d.a)) w8 := hA8.cell' (i := 1) rfl
      refine hK _ _ hC8 ?_
      clear hK K
      try simp only [Act.put, List.setIfInBounds_toArray, List.set_cons_zero, List.set_cons_succ]
      have hee : (fb.e == fb.e) = true := beq_self_eq_true _
      refine anyZ_take 8 (v := ?_) rfl (by kernel_rfl) (by kernel_rfl) (by kernel_rfl) (by kernel_rfl) (fun _ _ _ h => h) hC8 (Or.inl ⟨by rfl, ?_⟩) ?_
      rotate_left
      · (intro wq hq; (try dsimp only at hq); go_simp; with_reducible rfl)
      simp only [Act.put, List.setIfInBounds_toArray, List.set_cons_zero, List.set_cons_succ]
      refine anyZ_take 9 (v := ?_) rfl (by kernel_rfl) (by kernel_rfl) (by kernel_rfl) (by kernel_rfl) (fun _ _ _ h => h) hC8 (Or.inl ⟨by rfl, ?_⟩) ?_
      rotate_left
      · (intro wq hq; (try dsimp only at hq); go_simp; with_reducible rfl)
      simp only [Act.put, List.setIfInBounds_toArray, List.set_cons_zero, List.set_cons_succ]
      refine anyZ_done (by kernel_rfl) ?_ _
      clear hC hC7 hC8 hA8 hA7 hsp1 hrb hPd hAd
      go_wp2_with fail
      go_ret
      exact ⟨by simp, Z7, _, _, _, R8, _, hP8.mono (by omega)⟩
    · have hq3 : ((kd : Int) == 3) = false := by rw [beq_eq_false_iff_ne]; omega
      go_wp2_with fail
      refine (outs128_spec hP.b).mono ?_
      rintro e w4 ⟨ro, rfl, hown, hx4⟩
      have hP4 := hP.extNo hx4
      have hA4 := hA1.extNo hx4
      have z0 := hA4.cell' (i := 0) rfl
      have z2 := hA4.cell' (i := 2) rfl
      obtain ⟨out, hout⟩ : ∃ out, zoL l' ll l'.length = out := ⟨_, rfl⟩
      have hol := zoL_len l' ll l'.length
      have hle := hP4.b.bi.le
      rw [hout] at hown hol
      clear hout c0 c1 c2 c3 hP hA1 hx4
      obtain ⟨ao, co, rfl, hco⟩ := ownsRow_val hown
      go_wp2_with fail
      refine (bring_spec w4 d.op 4 (by decide) (by decide)).mono ?_
      rintro e w5 ⟨rfl, rfl⟩
      rw [hkd]
      by_cases h2 : kd = 2
      · have hq2 : ((kd : Int) == 2) = true := by rw [beq_iff_eq]; omega
        by_cases hl0 : 0 < out.length
        · have hd3 : decide ((0 : Int) < out.length) = true := decide_eq_true (by omega)
          obtain ⟨j, hj, hj2⟩ := modn d.b out.length (by omega)
          obtain ⟨bo, co', e, _, _, hob, hbol, cj, _, _⟩ := own_at hown (k := j) (by omega)
          cases e
          rw [toI_nth (by omega)] at cj
          go_wp2_with fail
          refine (bring_spec w4 d.b out.length (by omega) (by omega)).mono ?_
          rintro e w6 ⟨rfl, rfl⟩
          rw [hj]
          have hA9 := hA4
          have e2 := hA9.cell' (i := 1) rfl
          have hxd : Ext No w4 (w4).drew := (Ext.refl No _).drew
          have hPd := hP4.extNo hxd
          have hAd := hA9.extNo hxd
          have hrel := zfree_rel hPd.zi hPd.zr d.a ((nth out j : Nat) : Int)
          have hsp1 := zt_free hPd.a d.a ((nth out j : Nat) : Int)
          have hrb : ∀ w', RT w0 w' r R l' ll → _ := fun w' hh => rz_free hh d.a ((nth out j : Nat) : Int)
          obtain ⟨fa, hfa⟩ : ∃ fa, zfree l ll D d.a ((nth out j : Nat) : Int) = fa := ⟨_, rfl⟩
          obtain ⟨fb, hfb⟩ : ∃ fb, rfree l' ll d.a ((nth out j : Nat) : Int) = fb := ⟨_, rfl⟩
          rw [hfa] at hsp1 hrel
          rw [hfb] at hrb hrel
          rw [hrel.e] at hsp1
          clear hfa hfb
          go_wp2_with fail
          refine anyZ_begin 12 (fun w' => w'.cell? ⟨A, 1, none⟩ = some (.int .i64 d.a)) (by kernel_rfl) ?_
          have hC : (fun w' : World => w'.cell? ⟨A, 1, none⟩ = some (.int .i64 d.a)) (w4).drew := e2
          refine anyZ_take 0 (v := ?_) rfl (by kernel_rfl) (by kernel_rfl) (by kernel_rfl) (by kernel_rfl) (fun _ _ _ h => h) hC (Or.inl ⟨by rfl, ?_⟩) ?_
          rotate_left
          · (intro wq hq; (try dsimp only at hq); go_simp; with_reducible rfl)
          simp only [Act.put, List.setIfInBounds_toArray, List.set_cons_zero, List.set_cons_succ]
          refine anyZ_take 1 (v := ?_) rfl (by kernel_rfl) (by kernel_rfl) (by kernel_rfl) (by kernel_rfl) (fun _ _ _ h => h) hC (Or.inl ⟨by rfl, ?_⟩) ?_
          rotate_left
          · (intro wq hq; (try dsimp only at hq); go_simp; with_reducible rfl)
          simp only [Act.put, List.setIfInBounds_toArray, List.set_cons_zero, List.set_cons_succ]
          refine anyZ_take 2 (v := ?_) rfl (by kernel_rfl) (by kernel_rfl) (by kernel_rfl) (by kernel_rfl) (fun _ _ _ h => h) hC (Or.inl ⟨by rfl, ?_⟩) ?_
          rotate_left
          · (intro wq hq; (try dsimp only at hq); go_simp; with_reducible rfl)
          simp only [Act.put, List.setIfInBounds_toArray, List.set_cons_zero, List.set_cons_succ]
          refine anyZ_take 3 (v := ?_) rfl (by kernel_rfl) (by kernel_rfl) (by kernel_rfl) (by kernel_rfl) (fun _ _ _ h => h) hC (Or.inl ⟨by rfl, ?_⟩) ?_
          rotate_left
          · (intro wq hq; (try dsimp only at hq); go_simp; with_reducible rfl)
          simp only [Act.put, List.setIfInBounds_toArray, List.set_cons_zero, List.set_cons_succ]
          refine anyZ_take 5 (v := ?_) rfl (by kernel_rfl) (by kernel_rfl) (by kernel_rfl) (by kernel_rfl) (fun _ _ _ h => h) hC (Or.inl ⟨by rfl, ?_⟩) ?_
          rotate_left
          · (intro wq hq; (try dsimp only at hq); go_simp; with_reducible rfl)
          simp only [Act.put, List.setIfInBounds_toArray, List.set_cons_zero, List.set_cons_succ]
          refine anyZ_take 6 (v := ?_) rfl (by kernel_rfl) (by kernel_rfl) (by kernel_rfl) (by kernel_rfl) (fun _ _ _ h => h) hC (Or.inl ⟨by rfl, ?_⟩) ?_
          rotate_left
          · (intro wq hq; (try dsimp only at hq); go_simp; with_reducible rfl)
          simp only [Act.put, List.setIfInBounds_toArray, List.set_cons_zero, List.set_cons_succ]
          refine anyZ_take 7 (v := ?_) rfl (by kernel_rfl) (by kernel_rfl) (by kernel_rfl) (by kernel_rfl) (fun _ _ _ h => h) hC (Or.inl ⟨by rfl, ?_⟩) ?_
          rotate_left
          · (intro wq hq; (try dsimp only at hq); go_simp; with_reducible rfl)
          simp only [Act.put, List.setIfInBounds_toArray, List.set_cons_zero, List.set_cons_succ]
          refine anyZ_take 8 (v := ?_) rfl (by kernel_rfl) (by kernel_rfl) (by kernel_rfl) (by kernel_rfl) (fun _ _ _ h => h) hC (Or.inl ⟨by rfl, ?_⟩) ?_
          rotate_left
          · (intro wq hq; (try dsimp only at hq); go_simp; with_reducible rfl)
          simp only [Act.put, List.setIfInBounds_toArray, List.set_cons_zero, List.set_cons_succ]
          refine anyZ_step 4 rfl (by kernel_rfl) (fun K hK => ?_)
          go_simp
          refine hsp1.mono ?_
          rintro e w7 ⟨rfl, Z7, h7, hM7⟩
          obtain ⟨hR7, hd7⟩ := hPd.mid hM7
          have hA7 := hAd.ext hM7.1 hAZ
          have hC7 : (fun w' : World => w'.cell? ⟨A, 1, none⟩ = some (.int .i64 d.a)) w7 := hA7.cell' (i := 1) rfl
          refine hK _ _ hC7 ?_
          clear hK K
          try simp only [Act.put, List.setIfInBounds_toArray, List.set_cons_zero, List.set_cons_succ]
          refine anyZ_step 9 rfl (by kernel_rfl) (fun K hK => ?_)
          go_simp
          refine (hrb w7 hR7).mono ?_
          rintro e w8 ⟨rfl, R8, h8, hM8⟩
          have hP8 := ZP.two h7 hR7 hd7 h8 hM8 hrel
          have hA8 := hA7.ext hM8.1 hAR
          have hC8 : (fun w' : World => w'.cell? ⟨A, 1, none⟩ = some (.int .i64 d.a)) w8 := hA8.cell' (i := 1) rfl
          refine hK _ _ hC8 ?_
          clear hK K
          try simp only [Act.put, List.setIfInBounds_toArray, List.set_cons_zero, List.set_cons_succ]
          have hee : (fb.e == fb.e) = true := beq_self_eq_true _
          refine anyZ_take 10 (v := ?_) rfl (by kernel_rfl) (by kernel_rfl) (by kernel_rfl) (by kernel_rfl) (fun _ _ _ h => h) hC8 (Or.inl ⟨by rfl, ?_⟩) ?_
          rotate_left
          · (intro wq hq; (try dsimp only at hq); go_simp; with_reducible rfl)
          simp only [Act.put, List.setIfInBounds_toArray, List.set_cons_zero, List.set_cons_succ]
          refine anyZ_take 11 (v := ?_) rfl (by kernel_rfl) (by kernel_rfl) (by kernel_rfl) (by kernel_rfl) (fun _ _ _ h => h) hC8 (Or.inl ⟨by rfl, ?_⟩) ?_
          rotate_left
          · (intro wq hq; (try dsimp only at hq); go_simp; with_reducible rfl)
          simp only [Act.put, List.setIfInBounds_toArray, List.set_cons_zero, List.set_cons_succ]
          refine anyZ_done (by kernel_rfl) ?_ _
          clear hC hC7 hC8 hA8 hA7 hsp1 hrb hPd hAd e2 hA9
          go_wp2_with fail
          go_ret
          exact ⟨by simp, Z7, _, _, _, R8, _, hP8.mono (by omega)⟩

        · have hd3 : decide ((0 : Int) < out.length) = false := decide_eq_false (by omega)
          have hA9 := hA4
          have e2 := hA9.cell' (i := 1) rfl
          have hxd : Ext No w4 (w4).drew := (Ext.refl No _).drew
          have hPd := hP4.extNo hxd
          have hAd := hA9.extNo hxd
          have hrel := zfree_rel hPd.zi hPd.zr d.a d.b
          have hsp1 := zt_free hPd.a d.a d.b
          have hrb : ∀ w', RT w0 w' r R l' ll → _ := fun w' hh => rz_free hh d.a d.b
          obtain ⟨fa, hfa⟩ : ∃ fa, zfree l ll D d.a d.b = fa := ⟨_, rfl⟩
          obtain ⟨fb, hfb⟩ : ∃ fb, rfree l' ll d.a d.b = fb := ⟨_, rfl⟩
          rw [hfa] at hsp1 hrel
          rw [hfb] at hrb hrel
          rw [hrel.e] at hsp1
          clear hfa hfb
          go_wp2_with fail
          refine anyZ_begin 12 (fun w' => w'.cell? ⟨A, 1, none⟩ = some (.int .i64 d.a)) (by kernel_rfl) ?_
          have hC : (fun w' : World => w'.cell? ⟨A, 1, none⟩ = some (.int .i64 d.a)) (w4).drew := e2
          refine anyZ_take 0 (v := ?_) rfl (by kernel_rfl) (by kernel_rfl) (by kernel_rfl) (by kernel_rfl) (fun _ _ _ h => h) hC (Or.inl ⟨by rfl, ?_⟩) ?_
          rotate_left
          · (intro wq hq; (try dsimp only at hq); go_simp; with_reducible rfl)
          simp only [Act.put, List.setIfInBounds_toArray, List.set_cons_zero, List.set_cons_succ]
          refine anyZ_take 1 (v := ?_) rfl (by kernel_rfl) (by kernel_rfl) (by kernel_rfl) (by kernel_rfl) (fun _ _ _ h => h) hC (Or.inl ⟨by rfl, ?_⟩) ?_
          rotate_left
          · (intro wq hq; (try dsimp only at hq); go_simp; with_reducible rfl)
          simp only [Act.put, List.setIfInBounds_toArray, List.set_cons_zero, List.set_cons_succ]
          refine anyZ_take 2 (v := ?_) rfl (by kernel_rfl) (by kernel_rfl) (by kernel_rfl) (by kernel_rfl) (fun _ _ _ h => h) hC (Or.inl ⟨by rfl, ?_⟩) ?_
          rotate_left
          · (intro wq hq; (try dsimp only at hq); go_simp; with_reducible rfl)
          simp only [Act.put, List.setIfInBounds_toArray, List.set_cons_zero, List.set_cons_succ]
          refine anyZ_take 3 (v := ?_) rfl (by kernel_rfl) (by kernel_rfl) (by kernel_rfl) (by kernel_rfl) (fun _ _ _ h => h) hC (Or.inl ⟨by rfl, ?_⟩) ?_
          rotate_left
          · (intro wq hq; (try dsimp only at hq); go_simp; with_reducible rfl)
          simp only [Act.put, List.setIfInBounds_toArray, List.set_cons_zero, List.set_cons_succ]
          refine anyZ_take 5 (v := ?_) rfl (by kernel_rfl) (by kernel_rfl) (by kernel_rfl) (by kernel_rfl) (fun _ _ _ h => h) hC (Or.inl ⟨by rfl, ?_⟩) ?_
          rotate_left
          · (intro wq hq; (try dsimp only at hq); go_simp; with_reducible rfl)
          simp only [Act.put, List.setIfInBounds_toArray, List.set_cons_zero, List.set_cons_succ]
          refine anyZ_take 6 (v := ?_) rfl (by kernel_rfl) (by kernel_rfl) (by kernel_rfl) (by kernel_rfl) (fun _ _ _ h => h) hC (Or.inl ⟨by rfl, ?_⟩) ?_
          rotate_left
          · (intro wq hq; (try dsimp only at hq); go_simp; with_reducible rfl)
          simp only [Act.put, List.setIfInBounds_toArray, List.set_cons_zero, List.set_cons_succ]
          refine anyZ_take 7 (v := ?_) rfl (by kernel_rfl) (by kernel_rfl) (by kernel_rfl) (by kernel_rfl) (fun _ _ _ h => h) hC (Or.inl ⟨by rfl, ?_⟩) ?_
          rotate_left
          · (intro wq hq; (try dsimp only at hq); go_simp; with_reducible rfl)
          simp only [Act.put, List.setIfInBounds_toArray, List.set_cons_zero, List.set_cons_succ]
          refine anyZ_take 8 (v := ?_) rfl (by kernel_rfl) (by kernel_rfl) (by kernel_rfl) (by kernel_rfl) (fun _ _ _ h => h) hC (Or.inl ⟨by rfl, ?_⟩) ?_
          rotate_left
          · (intro wq hq; (try dsimp only at hq); go_simp; with_reducible rfl)
          simp only [Act.put, List.setIfInBounds_toArray, List.set_cons_zero, List.set_cons_succ]
          refine anyZ_step 4 rfl (by kernel_rfl) (fun K hK => ?_)
          go_simp
          refine hsp1.mono ?_
          rintro e w7 ⟨rfl, Z7, h7, hM7⟩
          obtain ⟨hR7, hd7⟩ := hPd.mid hM7
          have hA7 := hAd.ext hM7.1 hAZ
          have hC7 : (fun w' : World => w'.cell? ⟨A, 1, none⟩ = some (.int .i64 d.a)) w7 := hA7.cell' (i := 1) rfl
          refine hK _ _ hC7 ?_
          clear hK K
          try simp only [Act.put, List.setIfInBounds_toArray, List.set_cons_zero, List.set_cons_succ]
          refine anyZ_step 9 rfl (by kernel_rfl) (fun K hK => ?_)
          go_simp
          refine (hrb w7 hR7).mono ?_
          rintro e w8 ⟨rfl, R8, h8, hM8⟩
          have hP8 := ZP.two h7 hR7 hd7 h8 hM8 hrel
          have hA8 := hA7.ext hM8.1 hAR
          have hC8 : (fun w' : World => w'.cell? ⟨A, 1, none⟩ = some (.int .i64 d.a)) w8 := hA8.cell' (i := 1) rfl
          refine hK _ _ hC8 ?_
          clear hK K
          try simp only [Act.put, List.setIfInBounds_toArray, List.set_cons_zero, List.set_cons_succ]
          have hee : (fb.e == fb.e) = true := beq_self_eq_true _
          refine anyZ_take 10 (v := ?_) rfl (by kernel_rfl) (by kernel_rfl) (by kernel_rfl) (by kernel_rfl) (fun _ _ _ h => h) hC8 (Or.inl ⟨by rfl, ?_⟩) ?_
          rotate_left
          · (intro wq hq; (try dsimp only at hq); go_simp; with_reducible rfl)
          simp only [Act.put, List.setIfInBounds_toArray, List.set_cons_zero, List.set_cons_succ]
          refine anyZ_take 11 (v := ?_) rfl (by kernel_rfl) (by kernel_rfl) (by kernel_rfl) (by kernel_rfl) (fun _ _ _ h => h) hC8 (Or.inl ⟨by rfl, ?_⟩) ?_
          rotate_left
          · (intro wq hq; (try dsimp only at hq); go_simp; with_reducible rfl)
          simp only [Act.put, List.setIfInBounds_toArray, List.set_cons_zero, List.set_cons_succ]
          refine anyZ_done (by kernel_rfl) ?_ _
          clear hC hC7 hC8 hA8 hA7 hsp1 hrb hPd hAd e2 hA9
          go_wp2_with fail
          go_ret
          exact ⟨by simp, Z7, _, _, _, R8, _, hP8.mono (by omega)⟩

      · have hq2 : ((kd : Int) == 2) = false := by rw [beq_eq_false_iff_ne]; omega
        have hA9 := hA4
        have e2 := hA9.cell' (i := 1) rfl
        have hxd : Ext No w4 (w4).drew := (Ext.refl No _).drew
        have hPd := hP4.extNo hxd
        have hAd := hA9.extNo hxd
        have hrel := zfree_rel hPd.zi hPd.zr d.a d.b
        have hsp1 := zt_free hPd.a d.a d.b
        have hrb : ∀ w', RT w0 w' r R l' ll → _ := fun w' hh => rz_free hh d.a d.b
        obtain ⟨fa, hfa⟩ : ∃ fa, zfree l ll D d.a d.b = fa := ⟨_, rfl⟩
        obtain ⟨fb, hfb⟩ : ∃ fb, rfree l' ll d.a d.b = fb := ⟨_, rfl⟩
        rw [hfa] at hsp1 hrel
        rw [hfb] at hrb hrel
        rw [hrel.e] at hsp1
        clear hfa hfb
        go_wp2_with fail
        refine anyZ_begin 12 (fun w' => w'.cell? ⟨A, 1, none⟩ = some (.int .i64 d.a)) (by kernel_rfl) ?_
        have hC : (fun w' : World => w'.cell? ⟨A, 1, none⟩ = some (.int .i64 d.a)) (w4).drew := e2
        refine anyZ_take 0 (v := ?_) rfl (by kernel_rfl) (by kernel_rfl) (by kernel_rfl) (by kernel_rfl) (fun _ _ _ h => h) hC (Or.inl ⟨by rfl, ?_⟩) ?_
        rotate_left
        · (intro wq hq; (try dsimp only at hq); go_simp; with_reducible rfl)
        simp only [Act.put, List.setIfInBounds_toArray, List.set_cons_zero, List.set_cons_succ]
        refine anyZ_take 1 (v := ?_) rfl (by kernel_rfl) (by kernel_rfl) (by kernel_rfl) (by kernel_rfl) (fun _ _ _ h => h) hC (Or.inl ⟨by rfl, ?_⟩) ?_
        rotate_left
        · (intro wq hq; (try dsimp only at hq); go_simp; with_reducible rfl)
        simp only [Act.put, List.setIfInBounds_toArray, List.set_cons_zero, List.set_cons_succ]
        refine anyZ_take 2 (v := ?_) rfl (by kernel_rfl) (by kernel_rfl) (by kernel_rfl) (by kernel_rfl) (fun _ _ _ h => h) hC (Or.inl ⟨by rfl, ?_⟩) ?_
        rotate_left
        · (intro wq hq; (try dsimp only at hq); go_simp; with_reducible rfl)
        simp only [Act.put, List.setIfInBounds_toArray, List.set_cons_zero, List.set_cons_succ]
        refine anyZ_take 3 (v := ?_) rfl (by kernel_rfl) (by kernel_rfl) (by kernel_rfl) (by kernel_rfl) (fun _ _ _ h => h) hC (Or.inl ⟨by rfl, ?_⟩) ?_
        rotate_left
        · (intro wq hq; (try dsimp only at hq); go_simp; with_reducible rfl)
        simp only [Act.put, List.setIfInBounds_toArray, List.set_cons_zero, List.set_cons_succ]
        refine anyZ_take 5 (v := ?_) rfl (by kernel_rfl) (by kernel_rfl) (by kernel_rfl) (by kernel_rfl) (fun _ _ _ h => h) hC (Or.inl ⟨by rfl, ?_⟩) ?_
        rotate_left
        · (intro wq hq; (try dsimp only at hq); go_simp; with_reducible rfl)
        simp only [Act.put, List.setIfInBounds_toArray, List.set_cons_zero, List.set_cons_succ]
        refine anyZ_take 6 (v := ?_) rfl (by kernel_rfl) (by kernel_rfl) (by kernel_rfl) (by kernel_rfl) (fun _ _ _ h => h) hC (Or.inl ⟨by rfl, ?_⟩) ?_
        rotate_left
        · (intro wq hq; (try dsimp only at hq); go_simp; with_reducible rfl)
        simp only [Act.put, List.setIfInBounds_toArray, List.set_cons_zero, List.set_cons_succ]
        refine anyZ_take 7 (v := ?_) rfl (by kernel_rfl) (by kernel_rfl) (by kernel_rfl) (by kernel_rfl) (fun _ _ _ h => h) hC (Or.inl ⟨by rfl, ?_⟩) ?_
        rotate_left
        · (intro wq hq; (try dsimp only at hq); go_simp; with_reducible rfl)
        simp only [Act.put, List.setIfInBounds_toArray, List.set_cons_zero, List.set_cons_succ]
        refine anyZ_take 8 (v := ?_) rfl (by kernel_rfl) (by kernel_rfl) (by kernel_rfl) (by kernel_rfl) (fun _ _ _ h => h) hC (Or.inl ⟨by rfl, ?_⟩) ?_
        rotate_left
        · (intro wq hq; (try dsimp only at hq); go_simp; with_reducible rfl)
        simp only [Act.put, List.setIfInBounds_toArray, List.set_cons_zero, List.set_cons_succ]
        refine anyZ_step 4 rfl (by kernel_rfl) (fun K hK => ?_)
        go_simp
        refine hsp1.mono ?_
        rintro e w7 ⟨rfl, Z7, h7, hM7⟩
        obtain ⟨hR7, hd7⟩ := hPd.mid hM7
        have hA7 := hAd.ext hM7.1 hAZ
        have hC7 : (fun w' : World => w'.cell? ⟨A, 1, none⟩ = some (.int .i64 d.a)) w7 := hA7.cell' (i := 1) rfl
        refine hK _ _ hC7 ?_
        clear hK K
        try simp only [Act.put, List.setIfInBounds_toArray, List.set_cons_zero, List.set_cons_succ]
        refine anyZ_step 9 rfl (by kernel_rfl) (fun K hK => ?_)
        go_simp
        refine (hrb w7 hR7).mono ?_
        rintro e w8 ⟨rfl, R8, h8, hM8⟩
        have hP8 := ZP.two h7 hR7 hd7 h8 hM8 hrel
        have hA8 := hA7.ext hM8.1 hAR
        have hC8 : (fun w' : World => w'.cell? ⟨A, 1, none⟩ = some (.int .i64 d.a)) w8 := hA8.cell' (i := 1) rfl
        refine hK _ _ hC8 ?_
        clear hK K
        try simp only [Act.put, List.setIfInBounds_toArray, List.set_cons_zero, List.set_cons_succ]
        have hee : (fb.e == fb.e) = true := beq_self_eq_true _
        refine anyZ_take 10 (v := ?_) rfl (by kernel_rfl) (by kernel_rfl) (by kernel_rfl) (by kernel_rfl) (fun _ _ _ h => h) hC8 (Or.inl ⟨by rfl, ?_⟩) ?_
        rotate_left
        · (intro wq hq; (try dsimp only at hq); go_simp; with_reducible rfl)
        simp only [Act.put, List.setIfInBounds_toArray, List.set_cons_zero, List.set_cons_succ]
        refine anyZ_take 11 (v := ?_) rfl (by kernel_rfl) (by kernel_rfl) (by kernel_rfl) (by kernel_rfl) (fun _ _ _ h => h) hC8 (Or.inl ⟨by rfl, ?_⟩) ?_
        rotate_left
        · (intro wq hq; (try dsimp only at hq); go_simp; with_reducible rfl)
        simp only [Act.put, List.setIfInBounds_toArray, List.set_cons_zero, List.set_cons_succ]
        refine anyZ_done (by kernel_rfl) ?_ _
        clear hC hC7 hC8 hA8 hA7 hsp1 hrb hPd hAd e2 hA9
        go_wp2_with fail
        go_ret
        exact ⟨by simp, Z7, _, _, _, R8, _, hP8.mono (by omega)⟩

end
end Go.Proofs.Ytjkknjohmekeiaa
/- The law ZonePlays: its walk. No condition. -/
namespace Go.Proofs.Ytjkknjohmekeiaa
open Go.RowKit
set_option maxRecDepth 100000 in
set_option maxHeartbeats 6400000 in
theorem zonePlays_core (w : World) (cpus pages : Int) (vd : Value) (ds : List Cl) (G : Nat → Prop) (hv : RdC G w vd ds) :
    Calls Try.prog 21 #[.int .i64 cpus, .int .i64 pages, vd] w fun e w' => e = .returned (.bool true) ∧ Ext No w w' := by
  obtain ⟨ad, cd, rfl, hcd, hcd2⟩ := Rd.val hv
  obtain ⟨P, hP⟩ : ∃ P, pages.tmod 200 = P := ⟨_, rfl⟩
  have hP2 : IntKind.i64.wrap (pages.tmod 200) = P := by
    have h1 : P < 200 := by rw [← hP]; exact Int.tmod_lt_of_pos _ (by decide)
    have h2 : -200 < P := by
      rw [← hP]
      by_cases hp : 0 ≤ pages
      · rw [Int.tmod_eq_emod_of_nonneg hp]; omega
      · have e : pages = -(-pages) := by omega
        rw [e, Int.neg_tmod, Int.tmod_eq_emod_of_nonneg (by omega)]; omega
    rw [hP, IntKind.wrap_i64]; omega
  by_cases hok : (1 ≤ cpus ∧ cpus ≤ 8) ∧ 1 ≤ P ∧ P ≤ 1024
  · obtain ⟨c, rfl⟩ : ∃ c : Nat, cpus = c := ⟨cpus.toNat, by omega⟩
    obtain ⟨m, hm⟩ : ∃ m : Nat, P = m := ⟨P.toNat, by omega⟩
    rw [hm] at hP hP2 hok
    have hbd : (1 ≤ c ∧ c ≤ 8) ∧ 1 ≤ m ∧ m ≤ 1024 := by omega
    clear hok
    go_enter Try.func21, Try.ntmps21
    go_wp2_with fail
    try rw [hP]
    clear hP hP2
    refine (zt_new w w (Ext.refl _ _) c m hbd.1.1 hbd.1.2 hbd.2.1 hbd.2.2).mono ?_
    rintro e w1 ⟨z, Z, rfl, hZ, hZ0, hx1⟩
    go_wp2_with fail
    refine (rz_new w w1 hx1 c m hbd.1.1 hbd.1.2 hbd.2.1 hbd.2.2).mono ?_
    rintro e w2 ⟨r, R, rfl, hR, hR0, hx2⟩
    have hB : ZP w w2 z Z (full m) (List.replicate c []) (.map []) 0 r R (full m) := by
      refine ⟨hZ.extNo hx2, hR, fun x h1 h2 => by have := hZ.lt x h1; have := hR0 x h2; omega, ?_, ?_⟩
      · rw [flat_rep]; exact zi_new hbd.2.1 hbd.2.2
      · rw [flat_rep]; exact zr_new hbd.2.1 hbd.2.2
    clear hZ hR hZ0 hR0 hx1 hx2 hbd
    go_wp2_with fail
    go_loopg [11] 40 (fun g s wr => ∃ (k : Nat) (Z : Nat → Prop) (l : List T3) (ll : List (List Int)) (D : Dm) (R : Nat → Prop) (l' : List T3), 40 - k ≤ g ∧ s = .int .i64 k ∧ k ≤ ds.length ∧ k ≤ 40 ∧ ZP w wr z Z l ll D k r R l')
    case atStart => exact ⟨0, _, _, _, _, _, _, by omega, rfl, by omega, by omega, hB⟩
    case round =>
      clear hB
      obtain ⟨k, Z, l, ll, D, R, l', hg, rfl, hk1, hk2, hB⟩ := hrel
      obtain ⟨wz, hwz⟩ : ∃ wz, wr = wz := ⟨_, rfl⟩
      rw [hwz] at hB ⊢
      clear hwz
      have hg' := Lib.hid hg
      clear hg
      by_cases hlt : k < ds.length ∧ k < 40
      · obtain ⟨hlt1, hlt2⟩ := hlt
        have hd1 : decide ((k : Int) < ds.length) = true := decide_eq_true (by omega)
        have hd2 : decide ((k : Int) < 40) = true := decide_eq_true (by omega)
        obtain ⟨b, off, rfl, hbl, _, x0, x1, x2, x3⟩ := RdC.at (Rd.extNo hv hB.a.x) hlt1
        obtain ⟨d, hdd⟩ : ∃ d, nth ds k = d := ⟨_, rfl⟩
        rw [hdd] at x0 x1 x2 x3
        clear hdd
        have hspec := step80_spec hB (by unfold maxLen; omega) d
        clear hB
        go_wp2_with fail
        refine hspec.mono ?_
        rintro e w3 ⟨rfl, Z2, l2, ll2, D2, R2, l2', hB3⟩
        clear hspec x0 x1 x2 x3
        go_wp2_with fail
        go_roundg (40 - (k + 1))
        case measure => have := hg'.out; omega
        case rel => exact ⟨k + 1, Z2, l2, ll2, D2, R2, l2', by omega, by go_num, by omega, by omega, hB3⟩
      · have hspec := same81_spec hB
        have hX := hB.a.x
        clear hB
        have hex : ¬ k < ds.length ∨ (k < ds.length ∧ ¬ k < 40) := by omega
        rcases hex with h1 | ⟨h1, h2⟩
        · have hd1 : decide ((k : Int) < ds.length) = false := decide_eq_false (by omega)
          go_wp2_with fail
          refine hspec.mono ?_
          rintro e w3 ⟨rfl, hx3⟩
          go_wp2_with fail
          refine (works43_spec w3).mono ?_
          rintro e w4 ⟨rfl, hx4⟩
          go_wp2_with fail
          go_ret
          exact ⟨rfl, (hX.transNo hx3).transNo hx4⟩
        · have hd1 : decide ((k : Int) < ds.length) = true := decide_eq_true (by omega)
          have hd2 : decide ((k : Int) < 40) = false := decide_eq_false (by omega)
          go_wp2_with fail
          refine hspec.mono ?_
          rintro e w3 ⟨rfl, hx3⟩
          go_wp2_with fail
          refine (works43_spec w3).mono ?_
          rintro e w4 ⟨rfl, hx4⟩
          go_wp2_with fail
          go_ret
          exact ⟨rfl, (hX.transNo hx3).transNo hx4⟩
  · have hok' := Lib.hid hok
    clear hok
    go_enter Try.func21, Try.ntmps21
    go_wp2_with fail
    try rw [hP]
    clear hP hP2
    refine (znew_bad w cpus P hok'.out).mono ?_
    rintro e w1 ⟨rfl, hx1⟩
    go_wp2_with fail
    refine (rz_new_bad w1 cpus P hok'.out).mono ?_
    rintro e w2 ⟨rfl, hx2⟩
    have hX := hx1.transNo hx2
    clear hx1 hx2
    go_wp2_with fail
    go_loopg [11] 0 (fun g i wr => i = .int .i64 0 ∧ wr = w2)
    case atStart => exact ⟨rfl, rfl⟩
    case round =>
      obtain ⟨rfl, rfl⟩ := hrel
      by_cases hl : 0 < ds.length
      all_goals
        go_wp2_with fail
        refine (works43_spec _).mono ?_
        rintro e w2 ⟨rfl, x2⟩
        go_wp2_with fail
        go_ret
        exact ⟨rfl, hX.transNo x2⟩

theorem zonePlays_walk (w : World) (cpus : Int) (_ : (Lit.int .i64 cpus).wf = true) (pages : Int) (_ : (Lit.int .i64 pages).wf = true) (v : Value) (l : List Cl) (hv : RdC (Iv 0 w.heap.size) w v l) (_ : l.length * 32 ≤ reachBytes ∧ ∀ x ∈ l, Clwf x) :
    Calls Try.prog 21 #[.int .i64 cpus, .int .i64 pages, v] w fun e w' => e = .returned (.bool true) ∧ Below w.heap.size w w' :=
  (zonePlays_core w cpus pages v l _ hv).mono fun _ _ ⟨h1, h2⟩ => ⟨h1, h2.belowNo⟩
end Go.Proofs.Ytjkknjohmekeiaa
