/- A region that draws its order, in whatever order: each operation but the last keeps what stands, and what each has yielded stays known. No condition but the given checks. -/
import Derived.Test.YtjkknjohmekeiaaTapeR
namespace Go.Proofs.Ytjkknjohmekeiaa
open Go.RowKit

def upd (u : Nat → Value) (i : Nat) (v : Value) : Nat → Value := fun j => if j = i then v else u j
/-- All but the last of a list, with their numbers. -/
def AllBut (R : Nat → Oper → Prop) : Nat → List Oper → Prop
  | _, [] => True
  | _, [_] => True
  | n, o :: o' :: l => R n o ∧ AllBut R (n + 1) (o' :: l)
theorem AllBut.get {R : Nat → Oper → Prop} : ∀ {l : List Oper} {n : Nat}, AllBut R n l → ∀ (i : Nat) (o : Oper), l[i]? = some o → i + 1 < l.length → R (n + i) o
  | [], _, _, i, o, h, _ => by simp at h
  | [_], _, _, i, o, _, hi => by simp at hi
  | o' :: o2 :: l, n, ha, 0, o, h, _ => by
    have e : o' = o := by simpa using h
    subst e
    exact ha.1
  | o' :: o2 :: l, n, ha, i + 1, o, h, hi => by
    have h1 := AllBut.get (l := o2 :: l) (n := n + 1) ha.2 i o (by simpa using h) (by simp at hi ⊢; omega)
    have e : n + 1 + i = n + (i + 1) := by omega
    rw [e] at h1
    exact h1

section
variable {P : Program} {Q : Exit → Act → World → Prop} {md : Region.Mode}

structure OpOk (P : Program) (md : Region.Mode) (A : (Nat → Value) → Act) (I : Nat → World → Value → Prop) (W0 : World) (i : Nat) (o : Oper) : Prop where
  put : ∀ u v, (A u).put o.dst v = A (upd u i v)
  run : ∀ u w, Ext No W0 w → (∀ e ∈ o.after, Region.binds md e = true → I e.on w (u e.on)) → ∃ v w', (execOp (A u).eval o).run P w = .ok (.value v) w' ∧ Ext No w w' ∧ I i w' v

/-- No operation is guarded, each waits for earlier ones alone, the last waits for all. -/
def goodB (md : Region.Mode) (l : List Oper) : Bool :=
  ((List.range l.length).all fun i => match l[i]? with | none => true | some o => o.guard.isNone && o.after.all fun e => Nat.blt e.on i) &&
  ((List.range (l.length - 1)).all fun i => waits md l.toArray i l.length (l.length - 1))

def cntF (listed : Array Bool) (l : List Nat) : Nat := l.countP fun i => !listed.getD i true
theorem cntF_set {listed : Array Bool} {j : Nat} (hj : listed.getD j true = false) : ∀ l : List Nat, cntF (listed.setIfInBounds j true) l ≤ cntF listed l ∧ (j ∈ l → cntF (listed.setIfInBounds j true) l < cntF listed l)
  | [] => by simp [cntF]
  | a :: l => by
    have ih := cntF_set hj l
    unfold cntF at *
    rw [List.countP_cons, List.countP_cons]
    by_cases ha : j = a
    · subst ha
      have e1 : (listed.setIfInBounds j true).getD j true = true := by
        rw [Array.getD_eq_getD_getElem?, Array.getElem?_setIfInBounds]
        simp
        split <;> simp
      rw [e1, hj]
      have h1 := ih.1
      refine ⟨by simp only [Bool.not_true, Bool.not_false, Bool.false_eq_true, if_false, if_true]; omega, fun _ => by simp only [Bool.not_true, Bool.not_false, Bool.false_eq_true, if_false, if_true]; omega⟩
    · rw [getD_set_ne true ha]
      constructor
      · omega
      · intro hm
        rcases List.mem_cons.1 hm with h | h
        · exact absurd h ha
        · have := ih.2 h
          omega

theorem goodB_back {l : List Oper} (h : goodB md l = true) {i : Nat} {o : Oper} (ho : l[i]? = some o) : o.guard = none ∧ ∀ e ∈ o.after, e.on < i := by
  simp only [goodB, Bool.and_eq_true, List.all_eq_true, List.mem_range] at h
  have h1 := h.1 i (List.getElem?_eq_some_iff.1 ho).1
  rw [ho] at h1
  simp only [Bool.and_eq_true, Option.isNone_iff_eq_none, Array.all_eq_true', Nat.blt_eq] at h1
  exact h1
theorem goodB_waits {l : List Oper} (h : goodB md l = true) {i : Nat} (hi : i + 1 < l.length) : waits md l.toArray i l.length (l.length - 1) = true := by
  simp only [goodB, Bool.and_eq_true, List.all_eq_true, List.mem_range] at h
  exact h.2 i (by omega)

theorem getD_lt {listed : Array Bool} {i : Nat} (hi : i < listed.size) : listed.getD i true = listed.getD i false := by
  rw [Array.getD_eq_getD_getElem?, Array.getD_eq_getD_getElem?, Array.getElem?_eq_getElem hi]; rfl

theorem ready_none {l : List Oper} (h : goodB md l = true) {listed : Array Bool} (hs : listed.size = l.length) (hr : Region.ready md l.toArray listed = []) :
    ∀ n, ∀ i, i < n → i < l.length → listed.getD i false = true
  | 0, i, hi, _ => by omega
  | n + 1, i, hi, hl => by
    cases hg : listed.getD i false
    · exfalso
      have hm : i ∈ Region.ready md l.toArray listed := by
        rw [mem_ready]
        refine ⟨by rw [getD_lt (by omega)]; exact hg, l[i], by simp [hl], fun e he _ => ?_⟩
        have hb := (goodB_back h (List.getElem?_eq_getElem hl)).2 e he
        exact ready_none h hs hr n e.on (by omega) (by omega)
      rw [hr] at hm
      cases hm
    · rfl

theorem wpAny_inv {l : List Oper} {A : (Nat → Value) → Act} {I : Nat → World → Value → Prop} {W0 : World} (hg : goodB md l = true)
    (hI : ∀ i w w' v, I i w v → Ext No w w' → I i w' v) (hops : AllBut (OpOk P md A I W0) 0 l)
    (hlast : ∀ o, l[l.length - 1]? = some o → ∀ u w, Ext No W0 w → (∀ i, i + 1 < l.length → I i w (u i)) → o.wp P (A u) w (fun a' w' => Q .normal a' w') Q) (hne : 0 < l.length) :
    ∀ (fuel : Nat) (listed : Array Bool) (u : Nat → Value) (w : World), listed.size = l.length → Closed md l.toArray listed → cntF listed (List.range l.length) ≤ fuel →
      listed.getD (l.length - 1) false = false → Ext No W0 w → (∀ i, i < l.length → listed.getD i false = true → I i w (u i)) → wpAny P md l.toArray Q fuel listed (A u) w := by
  intro fuel
  induction fuel with
  | zero =>
    intro listed u w hs _ hc hz _ _
    exfalso
    have h0 : cntF listed (List.range l.length) = 0 := by omega
    rw [cntF, List.countP_eq_zero] at h0
    have h1 := h0 (l.length - 1) (by simp; omega)
    rw [getD_lt (by omega), hz] at h1
    simp at h1
  | succ fuel ih =>
    intro listed u w hs hcl hc hz hx hu
    refine ⟨fun hr => ?_, fun i hi => ?_⟩
    · have := ready_none hg hs hr l.length (l.length - 1) (by omega) (by omega)
      rw [hz] at this
      cases this
    · obtain ⟨hun, o, ho, hall⟩ := mem_ready.1 hi
      have ho' : l[i]? = some o := by simpa using ho
      have hil := (List.getElem?_eq_some_iff.1 ho').1
      obtain ⟨hgd, hbk⟩ := goodB_back hg ho'
      have hw : Region.wanted o (yielded l.toArray (A u).tmps) = true := by simp [Region.wanted, hgd]
      unfold wpOp
      rw [ho]
      show if Region.wanted o (yielded l.toArray (A u).tmps) = true then _ else _
      rw [if_pos hw]
      refine .inl ?_
      by_cases hiz : i = l.length - 1
      · subst hiz
        have hallI : ∀ i, i + 1 < l.length → listed.getD i false = true := fun i h1 =>
          waits_listed hcl i l.length (l.length - 1) (goodB_waits hg h1) (fun oz h2 e he hb => by rw [ho] at h2; cases h2; exact hall e he hb)
        refine Oper.wp_mono (fun a' w' hq => ?_) (hlast o ho' u w hx (fun i h1 => hu i (by omega) (hallI i h1)))
        refine wpAny_done ?_ hq fuel
        rw [List.eq_nil_iff_forall_not_mem]
        intro j hj
        obtain ⟨hj1, oj, hj2, _⟩ := mem_ready.1 hj
        have hjl : j < l.length := by
          have := (Array.getElem?_eq_some_iff.1 hj2).1
          simpa using this
        by_cases e : l.length - 1 = j
        · subst e
          rw [Array.getD_eq_getD_getElem?, Array.getElem?_setIfInBounds] at hj1
          rw [if_pos rfl, if_pos (by omega)] at hj1
          cases hj1
        · rw [getD_set_ne true e, getD_lt (by omega), hallI j (by omega)] at hj1
          cases hj1
      · have hok := hops.get i o ho' (by omega)
        rw [Nat.zero_add] at hok
        obtain ⟨v, w', hrun, hx', hv⟩ := hok.run u w hx (fun e he hb => hu e.on (by have := hbk e he; omega) (hall e he hb))
        unfold Oper.wp
        rw [hrun]
        show wpAny P md l.toArray Q fuel (listed.setIfInBounds i true) ((A u).put o.dst v) w'
        rw [hok.put]
        have hc' := (cntF_set hun (List.range l.length)).2 (by simpa using hil)
        refine ih _ _ _ (by simpa using hs) (hcl.set hi) (by omega) ?_ (hx.transNo hx') ?_
        · rw [Array.getD_eq_getD_getElem?, Array.getElem?_setIfInBounds, if_neg hiz, ← Array.getD_eq_getD_getElem?]
          exact hz
        · intro j hj hjl
          by_cases e : j = i
          · subst e
            simp only [upd, if_true]
            exact hv
          · have h1 : listed.getD j false = true := by
              rw [Array.getD_eq_getD_getElem?, Array.getElem?_setIfInBounds, if_neg (Ne.symm e), ← Array.getD_eq_getD_getElem?] at hjl
              exact hjl
            simp only [upd, if_neg e]
            exact hI _ _ _ _ (hu j hj h1) hx'

/-- The region in whatever order: what each operation but the last yields stays known; behind the last the walk goes on. -/
theorem wp_region_inv {id : Nat} {l : List Oper} {a : Act} {w : World} (A : (Nat → Value) → Act) (I : Nat → World → Value → Prop) (u0 : Nat → Value) (hm : P.follows .mixedOrders = true) (hg : goodB .any l = true) (hne : 0 < l.length)
    (ha : a = A u0) (hI : ∀ i w w' v, I i w v → Ext No w w' → I i w' v) (hops : AllBut (OpOk P .any A I w) 0 l)
    (hlast : ∀ o, l[l.length - 1]? = some o → ∀ u w', Ext No w w' → (∀ i, i + 1 < l.length → I i w' (u i)) → o.wp P (A u) w' (fun a' w' => Q .normal a' w') Q) :
    (Code.region id l.toArray true).wp P Q a w := by
  refine wp_region_any hm ?_
  subst ha
  have hf : ∀ i, (Array.replicate l.toArray.size false).getD i false = false := fun i => by
    rw [Array.getD_eq_getD_getElem?, Array.getElem?_replicate]
    split <;> rfl
  refine wpAny_inv hg hI hops hlast hne _ _ _ _ (by simp) (fun j oj _ h => ?_) ?_ (hf _) (Ext.refl _ _).drew (fun i _ h => ?_)
  · rw [hf] at h; cases h
  · unfold cntF
    refine Nat.le_trans List.countP_le_length ?_
    simp
  · rw [hf] at h; cases h
end
end Go.Proofs.Ytjkknjohmekeiaa
