/- Texts of ours, one behind the other (NearR, ZoneC): each says in its own first lines what it proves. No condition. -/
import Derived.Test.YtjkknjohmekeiaaPackL
/- The law NearKnown, walked. No condition. -/
namespace Go.Proofs.Ytjkknjohmekeiaa
open Go.RowKit

/-- Near pages that are none: nil, or empty. -/
def NoNear (w : World) (v : Value) : Prop := v = .pointer none ∨ ∃ b, v = .pointer (some ⟨b, 0, none⟩) ∧ Blk w b [.slice none 0 0, .int .i64 0] 95
theorem NoNear.extNo {w w' : World} {v : Value} (h : NoNear w v) (hx : Ext No w w') : NoNear w' v := by
  rcases h with h | ⟨b, h1, h2⟩
  · exact .inl h
  · exact .inr ⟨b, h1, h2.extNo hx⟩
theorem none_put (w : World) (v : Value) (h : NoNear w v) (c x : Int) :
    Calls Try.prog 51 #[v, .int .i64 c, .int .i64 x] w fun e w' => e = .returned (.tuple #[.slice none 0 0, .int .i64 1]) ∧ w = w' := by
  rcases h with rfl | ⟨b, rfl, h2⟩
  · go_enter Try.func51, Try.ntmps51
    go_wp2_with fail
    go_ret2
    exact ⟨rfl, rfl⟩
  · have c0 := h2.cell' (i := 0) rfl
    go_enter Try.func51, Try.ntmps51
    go_wp2_with fail
    go_ret2
    exact ⟨rfl, rfl⟩
theorem none_at (w : World) (v : Value) (h : NoNear w v) (c : Int) :
    Calls Try.prog 101 #[v, .int .i64 c] w fun e w' => e = .returned (.pointer none) ∧ w = w' := by
  rcases h with rfl | ⟨b, rfl, h2⟩
  · go_enter Try.func101, Try.ntmps101
    go_wp2_with fail
    go_ret
    exact ⟨rfl, rfl⟩
  · have c0 := h2.cell' (i := 0) rfl
    by_cases h0 : c < 0
    · go_enter Try.func101, Try.ntmps101
      go_wp2_with fail
      go_ret
      exact ⟨rfl, rfl⟩
    · have h1 : 0 ≤ c := by omega
      go_enter Try.func101, Try.ntmps101
      go_wp2_with fail
      go_ret
      exact ⟨rfl, rfl⟩
theorem none_take (w : World) (v : Value) (h : NoNear w v) (c : Int) :
    Calls Try.prog 52 #[v, .int .i64 c] w fun e w' => e = .returned (.tuple #[.int .i64 0, .bool false]) ∧ w = w' := by
  go_enter Try.func52, Try.ntmps52
  go_wp2_with fail
  refine (none_at w v h c).mono ?_
  rintro e w1 ⟨rfl, rfl⟩
  go_wp2_with fail
  go_ret2
  exact ⟨rfl, rfl⟩
theorem none_drain (w : World) (v : Value) (h : NoNear w v) (c : Int) :
    Calls Try.prog 53 #[v, .int .i64 c] w fun e w' => e = .returned (.slice none 0 0) ∧ w = w' := by
  go_enter Try.func53, Try.ntmps53
  go_wp2_with fail
  refine (none_at w v h c).mono ?_
  rintro e w1 ⟨rfl, rfl⟩
  go_wp2_with fail
  go_ret
  exact ⟨rfl, rfl⟩
theorem none_list (w : World) (v : Value) (h : NoNear w v) (c : Int) :
    Calls Try.prog 48 #[v, .int .i64 c] w fun e w' => e = .returned (.slice none 0 0) ∧ w = w' := by
  go_enter Try.func48, Try.ntmps48
  go_wp2_with fail
  refine (none_at w v h c).mono ?_
  rintro e w1 ⟨rfl, rfl⟩
  go_wp2_with fail
  go_ret
  exact ⟨rfl, rfl⟩
theorem none_has (w : World) (v : Value) (h : NoNear w v) (x : Int) :
    Calls Try.prog 54 #[v, .int .i64 x] w fun e w' => e = .returned (.bool false) ∧ Ext No w w' := by
  have hmf : ∀ (fn : Fn) (first cap : Array Value) (w : World), (Instr.makeFunc fn first cap).run Try.prog w = .ok (.func fn first cap) w := fun _ _ _ _ => rfl
  rcases h with rfl | ⟨b, rfl, h2⟩
  · go_enter Try.func54, Try.ntmps54
    go_wp2_with fail
    go_ret
    exact ⟨rfl, (Ext.refl _ _).alloc _⟩
  · have c0 := h2.cell' (i := 0) rfl
    have hlt := h2.lt
    have hB : Blk (w.alloc (.cells #[.int .i64 x] 3)) w.heap.size [.int .i64 x] 3 := Blk.new _ _ _
    go_enter Try.func54, Try.ntmps54
    go_wp2_with fail
    refine (contains104_spec _ _ [] x No No ⟨[], rfl, Rd.nil _ _ _, fun i hi => by simp at hi⟩ w.heap.size (hB.cell' (i := 0) rfl)).mono ?_
    rintro e w1 ⟨rfl, rfl⟩
    go_wp2_with fail
    go_ret
    exact ⟨rfl, (Ext.refl _ _).alloc _⟩

theorem ty_do3 : SlTy 61 70 3 24 := .mk' (z := .agg #[.int .i64 0, .int .i64 0, .int .i64 0]) (by kernel_rfl) Try.underlying61 rfl (by decide)
def doAt (i : Nat) : T3 := ⟨0, (i : Int) % 3, 1023 - i⟩
def dos (k : Nat) : List T3 := (List.range k).map doAt
theorem dos_succ (k : Nat) : dos (k + 1) = dos k ++ [doAt k] := by simp [dos, List.range_succ]
theorem dos_len (k : Nat) : (dos k).length = k := by simp [dos]
theorem t3s_append (l m : List T3) : t3sCells (l ++ m) = t3sCells l ++ t3sCells m := by simp [t3sCells]

set_option maxRecDepth 100000 in
set_option maxHeartbeats 3200000 in
theorem nearKnown_core (w : World) :
    Calls Try.prog 14 #[] w fun e w' => e = .returned (.bool true) ∧ Ext No w w' := by
  go_enter Try.func14, Try.ntmps14
  go_wp2_with fail
  go_loopg [1, 2] 2 (fun g v i wr => ∃ k : Nat, k + g = 2 ∧ i = .int .i64 k ∧ NoNear wr v ∧ Ext No w wr)
  case atStart => exact ⟨0, by omega, rfl, .inl rfl, Ext.refl _ _⟩
  case round =>
    obtain ⟨k, hk, rfl, hv, X⟩ := hrel
    have hk' := Lib.hid hk
    have hkn : k ≤ 2 := by omega
    clear hk
    by_cases hlt : k < 2
    · go_wp2_with fail
      refine (none_put _ _ hv _ _).mono ?_
      rintro e w1 ⟨rfl, rfl⟩
      go_wp2_with fail
      refine (none_take _ _ hv _).mono ?_
      rintro e w1 ⟨rfl, rfl⟩
      go_wp2_with fail
      refine (none_drain _ _ hv _).mono ?_
      rintro e w1 ⟨rfl, rfl⟩
      go_wp2_with fail
      refine (none_has _ _ hv _).mono ?_
      rintro e w1 ⟨rfl, x1⟩
      have hv := hv.extNo x1
      go_wp2_with fail
      refine (none_list _ _ hv _).mono ?_
      rintro e w2 ⟨rfl, rfl⟩
      have X1 := X.transNo x1
      go_wp2_with fail
      have hv2 : NoNear (w1.alloc (.cells #[.slice none 0 0, .int .i64 0] 95)) (.pointer (some ⟨w1.heap.size, 0, none⟩)) := .inr ⟨_, rfl, Blk.new' rfl⟩
      go_roundg (2 - (k + 1))
      case measure => have := hk'.out; omega
      case rel => exact ⟨k + 1, by omega, by go_num, hv2, X1.alloc _⟩
    · clear hv
      obtain ⟨W, hW⟩ : ∃ W, wr = W := ⟨_, rfl⟩
      rw [hW] at X ⊢
      clear hW
      go_wp2_with fail
      go_loopg [7, 8] 140 (fun g v i wr => ∃ k : Nat, k + g = 140 ∧ i = .int .i64 k ∧ wr.ownsRow W.heap.size 70 3 v k (t3sCells (dos k)) ∧ Ext No W wr)
      case atStart => exact ⟨0, by omega, rfl, World.ownsRow_nil _ _ _ _, Ext.refl _ _⟩
      case round =>
        obtain ⟨m, hm, rfl, ho, hx⟩ := hrel
        have hm' := Lib.hid hm
        have hmn : m ≤ 140 := by omega
        clear hm
        obtain ⟨av, cv, rfl, hcv⟩ := ownsRow_val ho
        have hmd : (m : Int).tmod 3 = (m : Int) % 3 := Int.tmod_eq_emod_of_nonneg (by omega)
        by_cases hlt2 : m < 140
        · go_wp2_with (at_builtin; refine stop_here ?_)
          refine Stop.mk ?_
          have hxa : Ext No wr (wr.alloc (.cells #[.int .i64 0, .int .i64 ((m : Int) % 3), .int .i64 (1023 - m)] 70)) := (Ext.refl _ _).alloc _
          refine wpList_app (v := .slice av m cv) (m := 1) ty_do3 rfl _ _ rfl rfl (ownsRow_ext ho hxa (fun _ _ => id)) rfl (Rd.of_blk (n := 1) (Blk.new' rfl) rfl (by decide)) (by simp [Value.oneCell']) (by omega) (by unfold maxLen; omega) (by have := hx.size; simp only [World.size_alloc]; omega) ?_
          intro v' w3 hown3 hx3 _ hfr3
          have hX : Ext No W w3 := (hx.transNo hxa).trans hx3 (fun x hx2 h => by have := (ho.lt x h).1; omega)
          have hown3' : Hid (w3.ownsRow W.heap.size 70 3 v' (m + 1) (t3sCells (dos (m + 1)))) := by rw [dos_succ, t3s_append]; exact hown3
          clear hown3 hx3 hfr3 ho
          go_wp2_with fail
          go_roundg (140 - (m + 1))
          case measure => have := hm'.out; omega
          case rel => exact ⟨m + 1, by omega, by go_num, hown3'.out, hX⟩
        · obtain rfl : m = 140 := by omega
          clear hmd hlt2
          obtain ⟨WW, hWW⟩ : ∃ WW, wr = WW := ⟨_, rfl⟩
          rw [hWW] at ho hx ⊢
          clear hWW
          go_wp2_with (at_builtin; refine stop_here ?_)
          refine Stop.mk ?_
          have hxa : Ext No WW (WW.alloc (.cells #[.int .i64 0, .int .i64 0, .int .i64 1024, .int .i64 0, .int .i64 0, .int .i64 (-1), .int .i64 0, .int .i64 8, .int .i64 0, .int .i64 0, .int .i64 (-1), .int .i64 0, .int .i64 1, .int .i64 9, .int .i64 0, .int .i64 2, .int .i64 (-1), .int .i64 0, .int .i64 2, .int .i64 1, .int .i64 0, .int .i64 1, .int .i64 0, .int .i64 0] 70)) := (Ext.refl _ _).alloc _
          refine wpList_app (v := .slice av 140 cv) (m := 8) ty_do3 rfl _ _ rfl rfl (ownsRow_ext ho hxa (fun _ _ => id)) rfl (Rd.of_blk (n := 8) (cs := [.int .i64 0, .int .i64 0, .int .i64 1024, .int .i64 0, .int .i64 0, .int .i64 (-1), .int .i64 0, .int .i64 8, .int .i64 0, .int .i64 0, .int .i64 (-1), .int .i64 0, .int .i64 1, .int .i64 9, .int .i64 0, .int .i64 2, .int .i64 (-1), .int .i64 0, .int .i64 2, .int .i64 1, .int .i64 0, .int .i64 1, .int .i64 0, .int .i64 0]) (Blk.new' rfl) rfl (by decide)) (by simp [Value.oneCell']) (by omega) (by unfold maxLen; omega) (by have := hx.size; simp only [World.size_alloc]; omega) ?_
          intro v' w3 hown3 hx3 _ hfr3
          have hX : Ext No W w3 := (hx.transNo hxa).trans hx3 (fun x hx2 h => by have := (ho.lt x h).1; omega)
          have hR : ∃ (L : List T3) (G : Nat → Prop), RdT G w3 v' L := by
            refine ⟨dos 140 ++ [⟨0, 0, 1024⟩, ⟨0, 0, -1⟩, ⟨0, 8, 0⟩, ⟨0, -1, 0⟩, ⟨1, 9, 0⟩, ⟨2, -1, 0⟩, ⟨2, 1, 0⟩, ⟨1, 0, 0⟩], OwnOf v', ?_⟩
            unfold RdT
            rw [t3s_append, List.length_append, dos_len]
            exact Rd.of_own hown3
          obtain ⟨L, G, hR⟩ := hR
          clear hown3 hx3 hfr3 ho hxa hx
          obtain ⟨al, cl, rfl, _, _⟩ := hR.val
          have X3 := X.transNo hX
          clear hX X
          go_wp2_with fail
          go_loopg [9] 70 (fun g i wr => ∃ c : Int, -1 ≤ c ∧ c ≤ 68 ∧ (67 - c).toNat ≤ g ∧ i = .int .i64 c ∧ Ext No w3 wr)
          case atStart => exact ⟨-1, by omega, by omega, by omega, rfl, Ext.refl _ _⟩
          case round =>
            obtain ⟨c, hc0, hc1, hcg, rfl, hx⟩ := hrel
            have hcg' := Lib.hid hcg
            clear hcg
            by_cases hc : c ≤ 65
            · go_wp2_with fail
              refine (nearPlays_core _ 3 c _ L G (hR.extNo hx)).mono ?_
              rintro e w4 ⟨rfl, x4⟩
              have hx4 := hx.transNo x4
              go_wp2_with fail
              refine (nearPlays_core _ 8 c _ L G (hR.extNo hx4)).mono ?_
              rintro e w5 ⟨rfl, x5⟩
              have hx5 := hx4.transNo x5
              clear x4 x5 hx hx4
              go_wp2_with fail
              go_roundg ((67 - (c + 3)).toNat)
              case measure => have := hcg'.out; omega
              case rel => exact ⟨c + 3, by omega, by omega, by omega, by go_num, hx5⟩
            · go_wp2_with fail
              refine (works50_spec _).mono ?_
              rintro e w4 ⟨rfl, x4⟩
              have hx4 := hx.transNo x4
              go_wp2_with fail
              refine (nearPlays_core _ 0 1 _ [] No (Rd.nil _ _ _)).mono ?_
              rintro e w5 ⟨rfl, x5⟩
              have hx5 := hx4.transNo x5
              go_wp2_with fail
              refine (nearPlays_core _ 9 1 _ [] No (Rd.nil _ _ _)).mono ?_
              rintro e w6 ⟨rfl, x6⟩
              have hx6 := hx5.transNo x6
              go_wp2_with fail
              refine (nearPlays_core _ 1 64 _ L G (hR.extNo hx6)).mono ?_
              rintro e w7 ⟨rfl, x7⟩
              have hx7 := hx6.transNo x7
              go_wp2_with fail
              refine (nearPlays_core _ 1 65 _ L G (hR.extNo hx7)).mono ?_
              rintro e w8 ⟨rfl, x8⟩
              have hx8 := hx7.transNo x8
              go_wp2_with fail
              go_ret
              exact ⟨rfl, X3.transNo hx8⟩

theorem nearKnown_walk (w : World) :
    Calls Try.prog 14 #[] w fun e w' => e = .returned (.bool true) ∧ Below w.heap.size w w' :=
  (nearKnown_core w).mono fun _ _ ⟨h1, h2⟩ => ⟨h1, h2.belowNo⟩
end Go.Proofs.Ytjkknjohmekeiaa
/- A zone in memory. No condition. -/
namespace Go.Proofs.Ytjkknjohmekeiaa
open Go.RowKit

/-- What a call may change, and what is owned behind it. -/
def Mv (w : World) (Z : Nat → Prop) (w' : World) (Z' : Nat → Prop) : Prop := Ext Z w w' ∧ Grows w Z Z'
section
variable {w w' w'' : World} {Z Z' Z'' : Nat → Prop}
theorem Mv.refl (w : World) (Z : Nat → Prop) : Mv w Z w Z := ⟨Ext.refl _ _, fun _ h => .inl h⟩
theorem Mv.no (hx : Ext No w w') (Z : Nat → Prop) : Mv w Z w' Z := ⟨hx.of_no, fun _ h => .inl h⟩
theorem Mv.trans (h : Mv w Z w' Z') (k : Mv w' Z' w'' Z'') : Mv w Z w'' Z'' :=
  ⟨h.1.trans k.1 (fun x hx hz => by
      rcases h.2 x hz with e | e
      · exact e
      · omega),
   fun x hx => by
      rcases k.2 x hx with e | e
      · exact h.2 x e
      · right; have := h.1.size; omega⟩
theorem Mv.transNo (h : Mv w Z w' Z') (k : Ext No w' w'') : Mv w Z w'' Z' := h.trans (.no k _)
end
theorem ownsMap_ext {S : Nat → Prop} {w w' : World} {m n : Nat} {D : Dm} (h : w.ownsMap Try.prog 3 (plainElem Try.prog 3) m n D) (hx : Ext S w w') (hm : ¬ S m) : w'.ownsMap Try.prog 3 (plainElem Try.prog 3) m n D := by
  have hlt := h.lt
  obtain ⟨es, clock, hb, r⟩ := h
  exact ⟨es, clock, (hx.block m hlt hm).trans hb, r⟩

/-- The blocks of a zone. -/
def foot (z p m : Nat) (v : Value) (F : Nat → Prop) : Nat → Prop := fun x => x = z ∨ x = p ∨ x = m ∨ OwnOf v x ∨ F x
structure Apart (z p m : Nat) (v : Value) (F : Nat → Prop) : Prop where
  zv : ¬ OwnOf v z
  zf : ¬ F z
  mv : ¬ OwnOf v m
  mf : ¬ F m
  pf : ¬ F p
  vf : ∀ x, OwnOf v x → ¬ F x
  zm : z ≠ m
  pm : p ≠ m
/-- A zone at block z: its buddies at p (the pages in the row v), what is near at q (in the blocks F), the map in block m. -/
structure ZC (w0 w : World) (z p q m : Nat) (v : Value) (F : Nat → Prop) (l : List T3) (ll : List (List Int)) (D : Dm) (n : Nat) : Prop where
  b : BT w0 w p v l
  e : NT w0 w q F ll 6
  c : Blk w z [.pointer (some ⟨p, 0, none⟩), .pointer (some ⟨q, 0, none⟩), .int .i64 ll.length, .int .i64 l.length, .map (some m)] 86
  mp : w.ownsMap Try.prog 3 (plainElem Try.prog 3) m n D
  zn : w0.heap.size ≤ z
  mn : w0.heap.size ≤ m
  ap : Apart z p m v F
section
variable {w0 w w' : World} {z p q m n : Nat} {v : Value} {F : Nat → Prop} {l : List T3} {ll : List (List Int)} {D : Dm}
theorem ZC.x (h : ZC w0 w z p q m v F l ll D n) : Ext No w0 w := h.b.x
theorem ZC.new (h : ZC w0 w z p q m v F l ll D n) (x : Nat) (hx : foot z p m v F x) : w0.heap.size ≤ x := by
  rcases hx with rfl | rfl | rfl | hx | hx
  · exact h.zn
  · exact h.b.pn
  · exact h.mn
  · exact h.b.vn x hx
  · exact h.e.f x hx
theorem ZC.lt (h : ZC w0 w z p q m v F l ll D n) (x : Nat) (hx : foot z p m v F x) : x < w.heap.size := by
  rcases hx with rfl | rfl | rfl | hx | hx
  · exact h.c.lt
  · exact h.b.lt.1
  · exact h.mp.lt
  · exact h.b.lt.2 x hx
  · exact h.e.s.lt x hx
theorem ZC.ext {S : Nat → Prop} (h : ZC w0 w z p q m v F l ll D n) (hx : Ext S w w') (hS : ∀ x, foot z p m v F x → ¬ S x) (hN : ∀ x, S x → w0.heap.size ≤ x) : ZC w0 w' z p q m v F l ll D n :=
  ⟨h.b.ext hx (hS p (.inr (.inl rfl))) (fun x h1 => hS x (.inr (.inr (.inr (.inl h1))))) hN, h.e.ext hx (fun x h1 => hS x (.inr (.inr (.inr (.inr h1))))) hN, h.c.ext hx (hS z (.inl rfl)), ownsMap_ext h.mp hx (hS m (.inr (.inr (.inl rfl)))), h.zn, h.mn, h.ap⟩
theorem ZC.extNo (h : ZC w0 w z p q m v F l ll D n) (hx : Ext No w w') : ZC w0 w' z p q m v F l ll D n := h.ext hx (fun _ _ => id) (fun _ h => h.elim)
theorem ZC.mono (h : ZC w0 w z p q m v F l ll D n) {n' : Nat} (hn : n ≤ n') : ZC w0 w z p q m v F l ll D n' := ⟨h.b, h.e, h.c, h.mp.mono hn, h.zn, h.mn, h.ap⟩
/-- The pages have changed. -/
theorem ZC.vmove (h : ZC w0 w z p q m v F l ll D n) {L : List T3} (hl : L.length = l.length) (hb : BT w0 w' p v L) (hx : Ext (OwnOf v) w w') : ZC w0 w' z p q m v F L ll D n ∧ Mv w (foot z p m v F) w' (foot z p m v F) :=
  ⟨⟨hb, h.e.ext hx (fun x h1 h2 => h.ap.vf x h2 h1) h.b.vn, by rw [hl]; exact h.c.ext hx h.ap.zv, ownsMap_ext h.mp hx h.ap.mv, h.zn, h.mn, h.ap⟩, hx.mono (fun x _ h1 => .inr (.inr (.inr (.inl h1)))), fun x h1 => .inl h1⟩
/-- What is near has changed. -/
theorem ZC.fmove (h : ZC w0 w z p q m v F l ll D n) {F' : Nat → Prop} {L : List (List Int)} (hl : L.length = ll.length) (hn : NT w0 w' q F' L 6) (hx : Ext F w w') (hg : Grows w F F') :
    ZC w0 w' z p q m v F' l L D n ∧ Mv w (foot z p m v F) w' (foot z p m v F') := by
  have hlt := h.lt
  have key : ∀ x, foot z p m v F x → ¬ F x → ¬ F' x := fun x h1 h2 h3 => by
    rcases hg x h3 with e | e
    · exact h2 e
    · have := hlt x h1; omega
  refine ⟨⟨h.b.ext hx h.ap.pf h.ap.vf h.e.f, hn, by rw [hl]; exact h.c.ext hx h.ap.zf, ownsMap_ext h.mp hx h.ap.mf, h.zn, h.mn, ?_⟩, hx.mono (fun x _ h1 => .inr (.inr (.inr (.inr h1)))), fun x h1 => ?_⟩
  · exact ⟨h.ap.zv, key z (.inl rfl) h.ap.zf, h.ap.mv, key m (.inr (.inr (.inl rfl))) h.ap.mf, key p (.inr (.inl rfl)) h.ap.pf, fun x h1 => key x (.inr (.inr (.inr (.inl h1)))) (h.ap.vf x h1), h.ap.zm, h.ap.pm⟩
  · rcases h1 with h1 | h1 | h1 | h1 | h1
    · exact .inl (.inl h1)
    · exact .inl (.inr (.inl h1))
    · exact .inl (.inr (.inr (.inl h1)))
    · exact .inl (.inr (.inr (.inr (.inl h1))))
    · rcases hg x h1 with e | e
      · exact .inl (.inr (.inr (.inr (.inr e))))
      · exact .inr e
/-- The map has changed. -/
theorem ZC.mmove (h : ZC w0 w z p q m v F l ll D n) {D' : Dm} {n' : Nat} (hm : w'.ownsMap Try.prog 3 (plainElem Try.prog 3) m n' D') (hx : Ext (One m) w w') :
    ZC w0 w' z p q m v F l ll D' n' ∧ Mv w (foot z p m v F) w' (foot z p m v F) :=
  ⟨⟨h.b.ext hx h.ap.pm (fun x h1 (e : x = m) => h.ap.mv (e ▸ h1)) (fun x (e : x = m) => by have := h.mn; omega), h.e.ext hx (fun x h1 (e : x = m) => h.ap.mf (e ▸ h1)) (fun x (e : x = m) => by have := h.mn; omega), h.c.extOne hx h.ap.zm, hm, h.zn, h.mn, h.ap⟩,
   hx.mono (fun x _ (e : x = m) => .inr (.inr (.inl e))), fun x h1 => .inl h1⟩
theorem turned_ext {m : Nat} (h : w.mapTurned w' m) : Ext (One m) w w' := (Ext.refl _ _).grown h.grown (fun k hk => .inr (by cases hk; rfl))
end

theorem law3 : Maps.Keyed Try.prog 3 := Maps.int_keyed Try.underlying3
theorem zero3 (w : World) : (zeroValue 3).run Try.prog w = .ok (.int .i64 0) w := by kernel_rfl
end Go.Proofs.Ytjkknjohmekeiaa
