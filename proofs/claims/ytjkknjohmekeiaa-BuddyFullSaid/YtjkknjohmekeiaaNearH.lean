/- Near pages that are new since a world; the chapter's pages are as the chapter says. No condition. -/
import Derived.Test.YtjkknjohmekeiaaNearG
import Derived.Test.YtjkknjohmekeiaaLawA
import Derived.Test.YtjkknjohmekeiaaTapeD
namespace Go.Proofs.Ytjkknjohmekeiaa
open Go.RowKit

/-- Near pages, all of whose blocks are new since w0; of what lay there nothing has changed. -/
def NT (w0 w : World) (p : Nat) (F : Nat → Prop) (ll : List (List Int)) (cap : Int) (T : TypeId := 95) : Prop :=
  Ext No w0 w ∧ NS w p F ll cap T ∧ ∀ x, F x → w0.heap.size ≤ x
section
variable {w0 w w' : World} {p : Nat} {F : Nat → Prop} {ll : List (List Int)} {cap : Int} {T : TypeId}
theorem NT.x (h : NT w0 w p F ll cap T) : Ext No w0 w := h.1
theorem NT.s (h : NT w0 w p F ll cap T) : NS w p F ll cap T := h.2.1
theorem NT.f (h : NT w0 w p F ll cap T) : ∀ x, F x → w0.heap.size ≤ x := h.2.2
theorem NT.ok (h : NT w0 w p F ll cap T) : NOk ll cap := h.2.1.1
theorem NT.ext {S : Nat → Prop} (h : NT w0 w p F ll cap T) (hx : Ext S w w') (hS : ∀ x, F x → ¬ S x) (hS2 : ∀ x, S x → w0.heap.size ≤ x) : NT w0 w' p F ll cap T :=
  ⟨h.1.transNew hx hS2, h.2.1.ext hx hS, h.2.2⟩
theorem NT.extNo (h : NT w0 w p F ll cap T) (hx : Ext No w w') : NT w0 w' p F ll cap T := h.ext hx (fun _ _ => id) (fun _ h => h.elim)
theorem NT.post {l2 : List (List Int)} {Q : (Nat → Prop) → Prop} (h : NT w0 w p F ll cap T) (hp : NPost w p F l2 cap w' Q T) :
    ∃ F', NT w0 w' p F' l2 cap T ∧ Ext F w w' ∧ Grows w F F' ∧ Q F' := by
  obtain ⟨F', h1, h2, h3, h4⟩ := hp
  refine ⟨F', ⟨h.1.transNew h2 h.2.2, h1, fun x hx => ?_⟩, h2, h3, h4⟩
  rcases h3 x hx with h5 | h5
  · exact h.2.2 x h5
  · have := h.1.size; omega

/-- A block that is new since w0 and none of F. -/
def OutF (w0 : World) (F : Nat → Prop) (b : Nat) : Prop := ¬ F b ∧ w0.heap.size ≤ b
theorem Ans.keep {F' : Nat → Prop} {v : Value} {l : List Int} (h : Ans w v l (OutF w0 F)) (hx : Ext F w w') (hg : Grows w F F') : Ans w' v l (OutF w0 F') := by
  rcases h with h | ⟨b, cs, cap, h0, h1, h2, h3, h4, h5, h6⟩
  · exact .inl h
  · refine .inr ⟨b, cs, cap, h0, h1, h2, h3.ext hx h5, h4, fun hf => ?_, h6⟩
    rcases hg b hf with h7 | h7
    · exact h5 h7
    · have := h3.lt; omega
theorem Ans.keepNo {v : Value} {l : List Int} {N : Nat → Prop} (h : Ans w v l N) (hx : Ext No w w') : Ans w' v l N := h.ext hx (fun _ _ => id)

theorem nt_new (w0 w : World) (hx : Ext No w0 w) (cpus cap : Int) (h1 : 1 ≤ cpus) (h2 : cpus ≤ 8) (h3 : 0 ≤ cap) (h4 : cap ≤ 64) (L : List (List Int)) (hL : List.replicate cpus.toNat [] = L) :
    Calls Try.prog 45 #[.int .i64 cpus, .int .i64 cap] w fun e w' => ∃ p F, e = .returned (.tuple #[.pointer (some ⟨p, 0, none⟩), .int .i64 0]) ∧ NT w0 w' p F L cap ∧ (∀ x, F x → w.heap.size ≤ x) ∧ w.heap.size ≤ p ∧ Ext No w w' := by
  refine (ns_new w cpus cap).mono ?_
  intro e w' h
  rw [if_pos ⟨⟨h1, h2⟩, h3, h4⟩, hL] at h
  obtain ⟨p, F, e1, e2, e3, e4, e5⟩ := h
  exact ⟨p, F, e1, ⟨hx.transNo e5, e2, fun x h => by have := e3 x h; have := hx.size; omega⟩, e3, e4, e5⟩

theorem nt_put (h : NT w0 w p F ll cap) (c page : Int) {E : Int} {L : List (List Int)} {A : List Int} (hE : putE ll c page = E) (hL : putL ll cap c page = L) (hA : putA ll cap c page = A) :
    Calls Try.prog 51 #[.pointer (some ⟨p, 0, none⟩), .int .i64 c, .int .i64 page] w fun e w' => ∃ r F', e = .returned (.tuple #[r, .int .i64 E]) ∧
      NT w0 w' p F' L cap ∧ Ans w' r A (fun b => OutF w0 F' b ∧ (F b ∨ w.heap.size ≤ b)) ∧ Ext F w w' ∧ Grows w F F' := by
  subst hE hL hA
  refine (ns_put w p F ll cap h.s c page).mono ?_
  rintro e w' ⟨r, he, hp⟩
  obtain ⟨F', g1, g2, g3, g4⟩ := h.post hp
  exact ⟨r, F', he, g1, g4.mono (fun b hb => ⟨⟨hb.1, by rcases hb.2 with h5 | h5; exact h.f b h5; have := h.x.size; omega⟩, hb.2⟩), g2, g3⟩
theorem nt_take (h : NT w0 w p F ll cap) (c : Int) {X : Int} {B : Bool} {L : List (List Int)} (hX : takeX ll c = X) (hB : takeB ll c = B) (hL : dropL ll c = L) :
    Calls Try.prog 52 #[.pointer (some ⟨p, 0, none⟩), .int .i64 c] w fun e w' => ∃ F', e = .returned (.tuple #[.int .i64 X, .bool B]) ∧
      NT w0 w' p F' L cap ∧ Ext F w w' ∧ Grows w F F' := by
  subst hX hL hB
  refine (ns_take w p F ll cap h.s c).mono ?_
  rintro e w' ⟨he, hp⟩
  obtain ⟨F', g1, g2, g3, _⟩ := h.post hp
  exact ⟨F', he, g1, g2, g3⟩
theorem nt_drain (h : NT w0 w p F ll cap) (c : Int) {A : List Int} {L : List (List Int)} (hA : listIn ll c = A) (hL : drainL ll c = L) :
    Calls Try.prog 53 #[.pointer (some ⟨p, 0, none⟩), .int .i64 c] w fun e w' => ∃ r F', e = .returned r ∧
      NT w0 w' p F' L cap ∧ Ans w' r A (fun b => OutF w0 F' b ∧ (F b ∨ w.heap.size ≤ b)) ∧ Ext F w w' ∧ Grows w F F' := by
  subst hA hL
  refine (ns_drain w p F ll cap h.s c).mono ?_
  rintro e w' ⟨r, he, hp⟩
  obtain ⟨F', g1, g2, g3, g4⟩ := h.post hp
  exact ⟨r, F', he, g1, g4.mono (fun b hb => ⟨⟨hb.1, h.f b hb.2⟩, .inl hb.2⟩), g2, g3⟩
theorem nt_has (h : NT w0 w p F ll cap) (x : Int) {B : Bool} (hB : hasIn ll x = B) :
    Calls Try.prog 54 #[.pointer (some ⟨p, 0, none⟩), .int .i64 x] w fun e w' => e = .returned (.bool B) ∧ NT w0 w' p F ll cap ∧ Ext No w w' := by
  subst hB
  refine (ns_has w p F ll cap h.s x).mono ?_
  rintro e w' ⟨he, hx⟩
  exact ⟨he, h.extNo hx, hx⟩
theorem nt_list (h : NT w0 w p F ll cap) (c : Int) {A : List Int} (hA : listIn ll c = A) :
    Calls Try.prog 48 #[.pointer (some ⟨p, 0, none⟩), .int .i64 c] w fun e w' => ∃ r, e = .returned r ∧ NT w0 w' p F ll cap ∧ Ans w' r A (fun b => OutF w0 F b ∧ w.heap.size ≤ b) ∧ Ext No w w' := by
  subst hA
  refine (ns_list w p F ll cap h.s c).mono ?_
  rintro e w' ⟨r, he, ha, hx⟩
  exact ⟨r, he, h.extNo hx, ha.mono (fun b hb => ⟨⟨fun hf => by have := h.s.lt b hf; omega, by have := h.x.size; omega⟩, hb⟩), hx⟩
theorem Ans.val {N : Nat → Prop} {v : Value} {l : List Int} (h : Ans w v l N) : ∃ a cap, v = .slice a l.length cap ∧ l.length ≤ cap ∧ cap ≤ 9223372036854775807 := Rd.val h.rd
end

set_option maxRecDepth 100000 in
set_option maxHeartbeats 3200000 in
theorem works50_spec (w : World) :
    Calls Try.prog 50 #[] w fun e w' => e = .returned (.bool true) ∧ Ext No w w' := by
  go_enter Try.func50, Try.ntmps50
  go_wp2_with fail
  refine (nt_new w _ (Ext.refl _ _) 2 2 (by decide) (by decide) (by decide) (by decide) [[], []] rfl).mono ?_
  rintro e w1 ⟨p, F1, rfl, h1, _, _, _⟩
  go_wp2_with fail
  refine (nt_put h1 0 5 (E := 0) (L := [[5], []]) (A := []) (by decide) (by decide) (by decide)).mono ?_
  rintro e w2 ⟨r2, F2, rfl, h2, a2, _, _⟩
  obtain ⟨aa, ca, rfl, _, _⟩ := a2.val
  go_wp2_with fail
  refine (nt_put h2 0 6 (E := 0) (L := [[5, 6], []]) (A := []) (by decide) (by decide) (by decide)).mono ?_
  rintro e w3 ⟨r3, F3, rfl, h3, a3, _, _⟩
  obtain ⟨ab, cb, rfl, _, _⟩ := a3.val
  go_wp2_with fail
  refine (nt_put h3 1 5 (E := 60) (L := [[5, 6], []]) (A := []) (by decide) (by decide) (by decide)).mono ?_
  rintro e w4 ⟨r4, F4, rfl, h4, a4, _, _⟩
  go_wp2_with fail
  refine (nt_take h4 0 (X := 6) (B := true) (L := [[5], []]) (by decide) (by decide) (by decide)).mono ?_
  rintro e w5 ⟨F5, rfl, h5, _, _⟩
  go_wp2_with fail
  refine (nt_has h5 6 (B := false) (by decide)).mono ?_
  rintro e w6 ⟨rfl, h6, _⟩
  go_wp2_with fail
  refine (nt_put h6 0 6 (E := 0) (L := [[5, 6], []]) (A := []) (by decide) (by decide) (by decide)).mono ?_
  rintro e w7 ⟨r7, F7, rfl, h7, a7, _, _⟩
  go_wp2_with fail
  refine (nt_put h7 0 7 (E := 0) (L := [[7], []]) (A := [5, 6]) (by decide) (by decide) (by decide)).mono ?_
  rintro e w8 ⟨r8, F8, rfl, h8, a8, _, _⟩
  go_wp2_with fail
  refine (nt_list h8 0 (A := [7]) (by decide)).mono ?_
  rintro e w9 ⟨r9, rfl, h9, a9, x9⟩
  go_wp2_with fail
  refine (nt_drain h9 0 (A := [7]) (L := [[], []]) (by decide) (by decide)).mono ?_
  rintro e w10 ⟨r10, F10, rfl, h10, a10, x10, g10⟩
  go_wp2_with fail
  refine (nt_take h10 0 (X := 0) (B := false) (L := [[], []]) (by decide) (by decide) (by decide)).mono ?_
  rintro e w11 ⟨F11, rfl, h11, x11, g11⟩
  go_wp2_with fail
  refine (nt_put h11 2 1 (E := 9) (L := [[], []]) (A := []) (by decide) (by decide) (by decide)).mono ?_
  rintro e w12 ⟨r12, F12, rfl, h12, a12, x12, g12⟩
  have a8 := a8.mono (fun _ h => h.1)
  have a9 := a9.mono (fun _ h => h.1)
  have a10 := a10.mono (fun _ h => h.1)
  have A8 := (((a8.keepNo x9).keep x10 g10).keep x11 g11).keep x12 g12
  have A9 := ((a9.keep x10 g10).keep x11 g11).keep x12 g12
  have A10 := (a10.keep x11 g11).keep x12 g12
  obtain ⟨b8, c8, rfl, _, _⟩ := A8.val
  obtain ⟨b9, c9, rfl, _, _⟩ := A9.val
  obtain ⟨b10, c10, rfl, _, _⟩ := A10.val
  have X := h12.x
  clear h1 h2 h3 h4 h5 h6 h7 h8 h9 h10 h11 h12 a2 a3 a4 a7 a8 a9 a10 a12 x9 x10 x11 x12 g10 g11 g12
  go_wp2_with fail
  refine (eqInts_spec _ _ _ [5, 6] [5, 6] _ _ (A8.rd.extNo ((Ext.refl _ _).alloc _)) (Rd.of_blk (n := 2) (Blk.new' rfl) rfl (by decide))).mono ?_
  rintro e w13 ⟨rfl, n1, rfl⟩
  go_wp2_with fail
  refine (eqInts_spec _ _ _ [7] [7] _ _ (A9.rd.extNo ((((Ext.refl _ _).alloc _).drewN _).alloc _)) (Rd.of_blk (n := 1) (Blk.new' (by simp)) rfl (by decide))).mono ?_
  rintro e w14 ⟨rfl, n2, rfl⟩
  go_wp2_with fail
  refine (eqInts_spec _ _ _ [7] [7] _ _ (A10.rd.extNo ((((((Ext.refl _ _).alloc _).drewN _).alloc _).drewN _).alloc _)) (Rd.of_blk (n := 1) (Blk.new' (by simp)) rfl (by decide))).mono ?_
  rintro e w15 ⟨rfl, n3, rfl⟩
  go_wp2_with fail
  go_ret
  exact ⟨rfl, X.transNo (((((((Ext.refl _ _).alloc _).drewN _).alloc _).drewN _).alloc _).drewN _)⟩
end Go.Proofs.Ytjkknjohmekeiaa
