/- Texts of ours, one behind the other (ZoneD, ZoneE, ZoneF, ZoneG, ZoneH): each says in its own first lines what it proves. No condition. -/
import Derived.Test.YtjkknjohmekeiaaPackN
/- A zone in memory: asked, each, drains. No condition. -/
namespace Go.Proofs.Ytjkknjohmekeiaa
open Go.RowKit

def askE (ll : List (List Int)) (c : Int) : Int := if inR ll c then 0 else 9
theorem asked95_spec (w : World) (z : Nat) (c0 c1 c3 c4 : Value) (ll : List (List Int)) (h : Blk w z [c0, c1, .int .i64 ll.length, c3, c4] 86) (h0 : 0 < ll.length) (c : Int) :
    Calls Try.prog 95 #[.pointer (some ⟨z, 0, none⟩), .int .i64 c] w fun e w' => e = .returned (.int .i64 (askE ll c)) ∧ w = w' := by
  have x2 := h.cell' (i := 2) rfl
  have hq : (((ll.length : Nat) : Int) == 0) = false := by rw [beq_eq_false_iff_ne]; omega
  by_cases h1 : c < 0
  · have hr : Hid (askE ll c = 9) := by show _ = _; unfold askE inR; rw [decide_eq_false (by omega)]; rfl
    go_enter Try.func95, Try.ntmps95
    go_wp2_with fail
    go_ret
    exact ⟨by rw [hr.out]; rfl, rfl⟩
  · by_cases h2 : (ll.length : Int) ≤ c
    · have hr : Hid (askE ll c = 9) := by show _ = _; unfold askE inR; rw [decide_eq_false (show ¬ c < ll.length by omega), Bool.and_false]; rfl
      go_enter Try.func95, Try.ntmps95
      go_wp2_with fail
      go_ret
      exact ⟨by rw [hr.out]; rfl, rfl⟩
    · have hr : Hid (askE ll c = 0) := by show _ = _; unfold askE inR; rw [decide_eq_true (by omega), decide_eq_true (by omega)]; rfl
      go_enter Try.func95, Try.ntmps95
      go_wp2_with fail
      go_ret
      exact ⟨by rw [hr.out]; rfl, rfl⟩
/-- No zone: nil, or such as nobody has made. -/
def NoZone (w : World) (v : Value) : Prop := v = .pointer none ∨ ∃ b c0 c1 c3 c4, v = .pointer (some ⟨b, 0, none⟩) ∧ Blk w b [c0, c1, .int .i64 0, c3, c4] 86
theorem NoZone.extNo {w w' : World} {v : Value} (h : NoZone w v) (hx : Ext No w w') : NoZone w' v := by
  rcases h with rfl | ⟨b, c0, c1, c3, c4, rfl, h2⟩
  · exact .inl rfl
  · exact .inr ⟨b, c0, c1, c3, c4, rfl, h2.extNo hx⟩
theorem asked95_none (w : World) (v : Value) (h : NoZone w v) (c : Int) :
    Calls Try.prog 95 #[v, .int .i64 c] w fun e w' => e = .returned (.int .i64 1) ∧ w = w' := by
  rcases h with rfl | ⟨b, c0, c1, c3, c4, rfl, h2⟩
  · go_enter Try.func95, Try.ntmps95
    go_wp2_with fail
    go_ret
    exact ⟨rfl, rfl⟩
  · have x2 := h2.cell' (i := 2) rfl
    go_enter Try.func95, Try.ntmps95
    go_wp2_with fail
    go_ret
    exact ⟨rfl, rfl⟩

set_option maxRecDepth 100000 in
set_option maxHeartbeats 1600000 in
theorem each107_spec (w0 w : World) (va : Value) (xs : List Int) (G : Nat → Prop) (hv : RdI G w va xs) {p : Nat} {v : Value} {l : List T3} (h : BT w0 w p v l) (hG : ∀ x, G x → ¬ OwnOf v x) :
    Calls Try.prog 107 #[va, .func (.func 69) #[.pointer (some ⟨p, 0, none⟩)] #[]] w fun e w' => (∃ u, e = .returned u) ∧ BT w0 w' p v (backL l xs) ∧ Ext (OwnOf v) w w' := by
  obtain ⟨a, cp, rfl, _, _⟩ := Rd.val hv
  go_enter Try.func107, Try.ntmps107
  go_wp2_with fail
  go_loopg [8] xs.length (fun g s wr => ∃ k : Nat, k + g = xs.length ∧ s = .int .i64 k ∧ BT w0 wr p v (backL l (xs.take k)) ∧ Ext (OwnOf v) w wr)
  case atStart => exact ⟨0, by omega, rfl, h, Ext.refl _ _⟩
  case round =>
    clear h
    obtain ⟨k, hk, rfl, hB, hx⟩ := hrel
    have hk' := Lib.hid hk
    have hkn : k ≤ xs.length := by omega
    clear hk
    by_cases hlt : k < xs.length
    · obtain ⟨b, off, rfl, _, _, x0⟩ := Rd.at1 (hv.ext hx hG) hlt
      rw [List.getElem?_map, nth_some hlt] at x0
      simp only [Option.map_some, int] at x0
      have hst : Hid (backL l (xs.take (k + 1)) = fstep (backL l (xs.take k)) (nth xs k)) := by show _ = _; rw [take_nth hlt, backL_snoc]
      have hd : decide ((k : Int) < xs.length) = true := decide_eq_true (by omega)
      go_wp2_with fail
      refine (bt_freeA hB (nth xs k)).mono ?_
      rintro e w2 ⟨rfl, hB2, hx2⟩
      have hx2' := hx.transSame hx2
      clear x0 hB hx hx2
      go_wp2_with fail
      go_roundg (xs.length - (k + 1))
      case measure => have := hk'.out; omega
      case rel => exact ⟨k + 1, by omega, by go_num, by rw [hst.out]; exact hB2, hx2'⟩
    · have hd : decide ((k : Int) < xs.length) = false := decide_eq_false (by omega)
      obtain rfl : k = xs.length := by omega
      rw [List.take_length] at hB
      go_wp2_with fail
      refine bodyPost_end (results_none rfl _ _ _) rfl ⟨⟨_, rfl⟩, hB, hx⟩

/-- The lists of which the first are drained. -/
def drK (ll : List (List Int)) (c : Nat) : List (List Int) := List.replicate c [] ++ ll.drop c
theorem drK_len {ll : List (List Int)} {c : Nat} (h : c ≤ ll.length) : (drK ll c).length = ll.length := by simp [drK]; omega
theorem drK_list {ll : List (List Int)} {c : Nat} (h : c < ll.length) : listIn (drK ll c) c = nth ll c := by
  have hi : inR (drK ll c) c = true := by unfold inR; rw [drK_len (by omega)]; simp; omega
  rw [(listIn_in hi).1, Int.toNat_natCast, nth_eq (by rw [drK_len (by omega)]; exact h), nth_eq h]
  unfold drK
  rw [List.getElem_append_right (by simp)]
  simp
theorem drK_next {ll : List (List Int)} {c : Nat} (h : c < ll.length) : drainL (drK ll c) c = drK ll (c + 1) := by
  have hi : inR (drK ll c) c = true := by unfold inR; rw [drK_len (by omega)]; simp; omega
  unfold drainL
  rw [if_pos hi, Int.toNat_natCast]
  unfold drK
  rw [List.set_append_right _ _ (by simp), List.length_replicate, Nat.sub_self, List.drop_eq_getElem_cons h, List.set_cons_zero, List.replicate_succ', List.append_assoc]
  rfl
theorem drK_all (ll : List (List Int)) : drK ll ll.length = List.replicate ll.length [] := by simp [drK]
theorem flat_next {ll : List (List Int)} {c : Nat} (h : c < ll.length) : (ll.take (c + 1)).flatten = (ll.take c).flatten ++ nth ll c := by rw [take_nth h]; simp

theorem len_or (a b : Nat) : decide (0 < a + b) = (decide (0 < a) || decide (0 < b)) := by
  by_cases h1 : 0 < a
  · rw [decide_eq_true h1, decide_eq_true (show 0 < a + b by omega)]; rfl
  · rw [decide_eq_false h1, Bool.false_or]; apply decide_eq_decide.2; omega
set_option maxRecDepth 100000 in
set_option maxHeartbeats 3200000 in
theorem drains96_spec (w0 w : World) {z p q m n : Nat} {v : Value} {F : Nat → Prop} {l : List T3} {ll : List (List Int)} {D : Dm} (h : ZC w0 w z p q m v F l ll D n) :
    Calls Try.prog 96 #[.pointer (some ⟨z, 0, none⟩)] w fun e w' => e = .returned (.bool (decide (0 < ll.flatten.length))) ∧
      ∃ F', ZC w0 w' z p q m v F' (backL l ll.flatten) (List.replicate ll.length []) D n ∧ Mv w (foot z p m v F) w' (foot z p m v F') := by
  have hmf : ∀ (fn : Fn) (first cap : Array Value) (w : World), (Instr.makeFunc fn first cap).run Try.prog w = .ok (.func fn first cap) w := fun _ _ _ _ => rfl
  have hn8 := h.e.ok.n8
  have z2 := h.c.cell' (i := 2) rfl
  obtain ⟨nn, hnn⟩ : ∃ nn, ll.length = nn := ⟨_, rfl⟩
  rw [hnn] at z2 hn8
  have hnn' := Lib.hid hnn
  clear hnn
  go_enter Try.func96, Try.ntmps96
  go_wp2_with fail
  clear z2
  go_loopg [2, 9] nn (fun g s i wr => ∃ (c : Nat) (F' : Nat → Prop), c + g = nn ∧ s = .bool (decide (0 < ((ll.take c).flatten).length)) ∧ i = .int .i64 c ∧ ZC w0 wr z p q m v F' (backL l (ll.take c).flatten) (drK ll c) D n ∧ Mv w (foot z p m v F) wr (foot z p m v F'))
  case atStart => exact ⟨0, F, by omega, rfl, rfl, h, Mv.refl _ _⟩
  case round =>
    clear h
    obtain ⟨c, F', hg, rfl, rfl, hZ, hM⟩ := hrel
    obtain ⟨wz, hwz⟩ : ∃ wz, wr = wz := ⟨_, rfl⟩
    rw [hwz] at hZ hM ⊢
    clear hwz
    have hg' := Lib.hid hg
    have hcn : c ≤ nn := by omega
    clear hg
    by_cases hlt : c < nn
    · have hlt' : c < ll.length := by rw [hnn'.out]; exact hlt
      have hd : decide ((c : Int) < nn) = true := decide_eq_true (by omega)
      have e1 := Lib.hid (drK_list hlt')
      have e2 := Lib.hid (drK_next hlt')
      have e3 := Lib.hid (flat_next hlt')
      have z1 := hZ.c.cell' (i := 1) rfl
      go_wp2_with fail
      refine (nt_drain hZ.e (c : Int) e1.out e2.out).mono ?_
      rintro e w2 ⟨r, F2, rfl, hN2, ha2, hx2, hg2⟩
      obtain ⟨hZ2, hM2⟩ := hZ.fmove (by rw [drK_len (c := c + 1) (by omega), drK_len (c := c) (by omega)]) hN2 hx2 hg2
      have hM2' := hM.trans hM2
      have hrd := ha2.rd
      have hG : ∀ x, (OutF w0 F2 x ∧ (F' x ∨ wz.heap.size ≤ x)) → ¬ OwnOf v x := fun x hx ho => by
        rcases hx.2 with hh | hh
        · exact hZ.ap.vf x ho hh
        · have := hZ.b.lt.2 x ho; omega
      obtain ⟨A, hA⟩ : ∃ A, nth ll c = A := ⟨_, rfl⟩
      rw [hA] at hrd e3
      have z0 := hZ2.c.cell' (i := 0) rfl
      obtain ⟨S, hS⟩ : ∃ S, (ll.take c).flatten = S := ⟨_, rfl⟩
      rw [hS] at e3 hZ2 ⊢
      have hlen : decide (0 < (S ++ A).length) = (decide (0 < S.length) || decide (0 < A.length)) := by
        rw [List.length_append]; exact len_or _ _
      obtain ⟨ar, cr, rfl, _, _⟩ := Rd.val hrd
      have hend := each107_spec w0 w2 _ A _ hrd hZ2.b hG
      clear ha2 hN2 hx2 hg2 hM2 hM z1 hA hS
      by_cases hs0 : 0 < S.length
      · have hds : decide (0 < S.length) = true := decide_eq_true hs0
        have hl2 : Hid (decide (0 < (S ++ A).length) = true) := by show _ = _; rw [hlen, hds]; rfl
        clear hlen
        rw [hds]
        go_wp2_with fail
        refine hend.mono ?_
        rintro e w3 ⟨⟨u3, rfl⟩, hB3, hx3⟩
        obtain ⟨hZ3, hM3⟩ := hZ2.vmove (backL_bi A hZ2.b.i).2 hB3 hx3
        have hM4 := hM2'.trans hM3
        rw [← backL_app, ← e3.out] at hZ3
        rw [← e3.out] at hl2
        clear hend hB3 hx3 hM3 hM2' hZ2 hZ z0 hrd
        go_wp2_with fail
        go_roundg (nn - (c + 1))
        case measure => have := hg'.out; omega
        case rel => exact ⟨c + 1, F2, by omega, by rw [hl2.out], by go_num, hZ3, hM4⟩

      · have hds : decide (0 < S.length) = false := decide_eq_false hs0
        rw [hds] at hlen ⊢
        by_cases ha0 : 0 < A.length
        · have hda : decide ((0 : Int) < A.length) = true := decide_eq_true (by omega)
          have hl2 : Hid (decide (0 < (S ++ A).length) = true) := by show _ = _; rw [hlen, decide_eq_true ha0]; rfl
          clear hlen
          go_wp2_with fail
          refine hend.mono ?_
          rintro e w3 ⟨⟨u3, rfl⟩, hB3, hx3⟩
          obtain ⟨hZ3, hM3⟩ := hZ2.vmove (backL_bi A hZ2.b.i).2 hB3 hx3
          have hM4 := hM2'.trans hM3
          rw [← backL_app, ← e3.out] at hZ3
          rw [← e3.out] at hl2
          clear hend hB3 hx3 hM3 hM2' hZ2 hZ z0 hrd
          go_wp2_with fail
          go_roundg (nn - (c + 1))
          case measure => have := hg'.out; omega
          case rel => exact ⟨c + 1, F2, by omega, by rw [hl2.out], by go_num, hZ3, hM4⟩

        · have hda : decide ((0 : Int) < A.length) = false := decide_eq_false (by omega)
          have hl2 : Hid (decide (0 < (S ++ A).length) = false) := by show _ = _; rw [hlen, decide_eq_false ha0]; rfl
          clear hlen
          go_wp2_with fail
          refine hend.mono ?_
          rintro e w3 ⟨⟨u3, rfl⟩, hB3, hx3⟩
          obtain ⟨hZ3, hM3⟩ := hZ2.vmove (backL_bi A hZ2.b.i).2 hB3 hx3
          have hM4 := hM2'.trans hM3
          rw [← backL_app, ← e3.out] at hZ3
          rw [← e3.out] at hl2
          clear hend hB3 hx3 hM3 hM2' hZ2 hZ z0 hrd
          go_wp2_with fail
          go_roundg (nn - (c + 1))
          case measure => have := hg'.out; omega
          case rel => exact ⟨c + 1, F2, by omega, by rw [hl2.out], by go_num, hZ3, hM4⟩

    · have hd : decide ((c : Int) < nn) = false := decide_eq_false (by omega)
      obtain rfl : c = nn := by omega
      rw [← hnn'.out, List.take_length, drK_all] at hZ
      have e9 : Hid ((ll.take c).flatten = ll.flatten) := by show _ = _; rw [← hnn'.out, List.take_length]
      go_wp2_with fail
      go_ret
      rw [e9.out]
      exact ⟨rfl, F', hZ, hM⟩
end Go.Proofs.Ytjkknjohmekeiaa
/- A zone in memory: Alloc. No condition. -/
namespace Go.Proofs.Ytjkknjohmekeiaa
open Go.RowKit

theorem keyOf3 {x : Int} (h : -9223372036854775808 ≤ x ∧ x ≤ 9223372036854775807) : keyOf Try.prog 3 (.int .i64 x) = some (key x) := Maps.keyOf_int_mk Try.underlying3 (WalkArith.wf_i64 h)
theorem take_none {ll : List (List Int)} {c : Int} (h : takeB ll c = false) : dropL ll c = ll := by
  unfold dropL
  split
  · next hi =>
    obtain ⟨e, h1, h2⟩ := listIn_in hi
    have : listIn ll c = [] := by unfold takeB at h; simpa using h
    rw [this, List.dropLast_nil, ← this, e, nth_eq h1]
    exact List.set_getElem_self h1
  · rfl
theorem dropLn {ll : List (List Int)} {c : Int} : (dropL ll c).length = ll.length := by unfold dropL; split <;> simp
theorem putLn {ll : List (List Int)} {cap c page : Int} : (putL ll cap c page).length = ll.length := by unfold putL; split <;> simp
theorem drainLn {ll : List (List Int)} {c : Int} : (drainL ll c).length = ll.length := by unfold drainL; split <;> simp
theorem ask_yes {ll : List (List Int)} {c : Int} (h : inR ll c = true) : askE ll c = 0 := by unfold askE; rw [h]; rfl
theorem ask_no {ll : List (List Int)} {c : Int} (h : inR ll c = false) : askE ll c = 9 := by unfold askE; rw [h]; rfl
section
variable {w0 w : World} {z p q m n : Nat} {v : Value} {F : Nat → Prop} {l : List T3} {ll : List (List Int)} {D : Dm}
theorem ZC.ask (h : ZC w0 w z p q m v F l ll D n) (c : Int) :
    Calls Try.prog 95 #[.pointer (some ⟨z, 0, none⟩), .int .i64 c] w fun e w' => e = .returned (.int .i64 (askE ll c)) ∧ w = w' := asked95_spec w z _ _ _ _ ll h.c h.e.ok.n1 c
theorem ZC.askA (h : ZC w0 w z p q m v F l ll D n) {c : Int} (hc : inR ll c = true) :
    Calls Try.prog 95 #[.pointer (some ⟨z, 0, none⟩), .int .i64 c] w fun e w' => e = .returned (.int .i64 0) ∧ w = w' := by rw [← ask_yes hc]; exact h.ask c
theorem ZC.askN (h : ZC w0 w z p q m v F l ll D n) {c : Int} (hc : inR ll c = false) :
    Calls Try.prog 95 #[.pointer (some ⟨z, 0, none⟩), .int .i64 c] w fun e w' => e = .returned (.int .i64 9) ∧ w = w' := by rw [← ask_no hc]; exact h.ask c
theorem ZC.in0 (h : ZC w0 w z p q m v F l ll D n) : inR ll 0 = true := by have := h.e.ok.n1; unfold inR; simp; omega

theorem zalloc_range (h : ZC w0 w z p q m v F l ll D n) (c o k : Int) (hc : inR ll c = false) :
    Calls Try.prog 41 #[.pointer (some ⟨z, 0, none⟩), .int .i64 c, .int .i64 o, .int .i64 k] w fun e w' => e = .returned (.tuple #[.int .i64 0, .int .i64 9]) ∧ w = w' := by
  go_enter Try.func41, Try.ntmps41
  go_wp2_with fail
  refine (h.askN hc).mono ?_
  rintro e w1 ⟨rfl, rfl⟩
  go_wp2_with fail
  go_ret2
  exact ⟨rfl, rfl⟩
set_option maxRecDepth 100000 in
set_option maxHeartbeats 1600000 in
theorem zalloc_arg (h : ZC w0 w z p q m v F l ll D n) (c o k : Int) (hc : inR ll c = true) (hbad : ¬ ((0 ≤ o ∧ o ≤ 10) ∧ 0 ≤ k ∧ k ≤ 8)) :
    Calls Try.prog 41 #[.pointer (some ⟨z, 0, none⟩), .int .i64 c, .int .i64 o, .int .i64 k] w fun e w' => e = .returned (.tuple #[.int .i64 0, .int .i64 2]) ∧ w = w' := by
  have ha := h.askA hc
  clear hc h
  have hex : o < 0 ∨ (0 ≤ o ∧ 10 < o) ∨ ((0 ≤ o ∧ o ≤ 10) ∧ k < 0) ∨ ((0 ≤ o ∧ o ≤ 10) ∧ 0 ≤ k ∧ 8 < k) := by omega
  clear hbad
  rcases hex with h1 | ⟨h1, h2⟩ | ⟨⟨h1, h2⟩, h3⟩ | ⟨⟨h1, h2⟩, h3, h4⟩
  all_goals
    go_enter Try.func41, Try.ntmps41
    go_wp2_with fail
    refine ha.mono ?_
    rintro e w1 ⟨rfl, rfl⟩
    go_wp2_with fail
    go_ret2
    exact ⟨rfl, rfl⟩

set_option maxRecDepth 100000 in
set_option maxHeartbeats 3200000 in
theorem zalloc_near (h : ZC w0 w z p q m v F l ll D n) (hn : n < maxLen) (c : Int) (k : Nat) (hk : k ≤ 8) (hc : inR ll c = true) (hb : takeB ll c = true) :
    Calls Try.prog 41 #[.pointer (some ⟨z, 0, none⟩), .int .i64 c, .int .i64 0, .int .i64 k] w fun e w' => e = .returned (.tuple #[.int .i64 (takeX ll c), .int .i64 0]) ∧
      ∃ F', ZC w0 w' z p q m v F' l (dropL ll c) (D.put (key (takeX ll c)) (dat k)) (n + 1) ∧ Mv w (foot z p m v F) w' (foot z p m v F') := by
  have ha := h.askA hc
  have hx : 0 ≤ takeX ll c ∧ takeX ll c < 1024 := by
    have := (h.e.ok.list c).2
    unfold takeX takeB at *
    cases hl : listIn ll c with
    | nil => rw [hl] at hb; simp at hb
    | cons y ys => rw [hl] at this; exact this _ (by rw [List.getLastD_eq_getLast?, List.getLast?_eq_some_getLast (List.cons_ne_nil _ _)]; exact List.getLast_mem _)
  have hkey := keyOf3 (x := takeX ll c) (by omega)
  have hwv : (Lit.int .i64 (k : Int)).wf = true := WalkArith.wf_i64 (by omega)
  obtain ⟨X, hX⟩ : ∃ X, takeX ll c = X := ⟨_, rfl⟩
  have hlen : (dropL ll c).length = ll.length := dropLn
  obtain ⟨L, hL⟩ : ∃ L, dropL ll c = L := ⟨_, rfl⟩
  have ht := nt_take h.e c hX hb hL
  rw [hX] at hx hkey ⊢
  rw [hL] at hlen ⊢
  clear hX hb hL hc
  have z1 := h.c.cell' (i := 1) rfl
  go_enter Try.func41, Try.ntmps41
  go_wp2_with fail
  refine ha.mono ?_
  rintro e w1 ⟨rfl, rfl⟩
  go_wp2_with fail
  refine ht.mono ?_
  rintro e w2 ⟨F2, rfl, hN2, hx2, hg2⟩
  obtain ⟨hZ2, hM2⟩ := h.fmove hlen hN2 hx2 hg2
  have z4 := hZ2.c.cell' (i := 4) rfl
  have hown := hZ2.mp
  clear hN2 hx2 hg2 z1 ha ht
  go_wp2_with (first
    | (at_mapUpdate; refine wpList_mapUpdate_in _ rfl _ _ _ 84 rfl 3 3 law3 Try.underlying84 _ m n D rfl hown hn _ _ _ rfl rfl hkey _ [] (plainElem_int Try.underlying3 hwv) ?_; intro w9 hown9 hturn9)
    | fail)
  obtain ⟨hZ3, hM3⟩ := hZ2.mmove hown9 (turned_ext hturn9)
  go_ret2
  exact ⟨rfl, F2, hZ3, hM2.trans hM3⟩

set_option maxRecDepth 100000 in
set_option maxHeartbeats 3200000 in
theorem zalloc_far (h : ZC w0 w z p q m v F l ll D n) (hn : n < maxLen) (c : Int) (o k : Nat) (ho : o ≤ 10) (hk : k ≤ 8) (hc : inR ll c = true) (hf : ¬ (o = 0 ∧ takeB ll c = true)) {b : Bk} (hb : leastL l o = some b) :
    Calls Try.prog 41 #[.pointer (some ⟨z, 0, none⟩), .int .i64 c, .int .i64 o, .int .i64 k] w fun e w' => e = .returned (.tuple #[.int .i64 b.i, .int .i64 0]) ∧
      ∃ F', ZC w0 w' z p q m v F' (allocL l o k) ll (if o = 0 then D.put (key b.i) (dat k) else D) (n + 1) ∧ Mv w (foot z p m v F) w' (foot z p m v F') := by
  have ha := h.askA hc
  have hbi := (least_free hb).2
  have hle := h.b.i.le
  have hkey := keyOf3 (x := (b.i : Int)) (by omega)
  have hwv : (Lit.int .i64 (k : Int)).wf = true := WalkArith.wf_i64 (by omega)
  have hX : allocX l o = b.i := by unfold allocX; rw [hb]
  have hE : allocE l o = 0 := by unfold allocE; rw [hb]
  have hAL : (allocL l o k).length = l.length := (h.b.i.alloc hk hb).1.len
  obtain ⟨L, hL⟩ : ∃ L, allocL l o k = L := ⟨_, rfl⟩
  rw [hL] at hAL ⊢
  obtain ⟨x, hx0⟩ : ∃ x : Nat, b.i = x := ⟨_, rfl⟩
  rw [hx0] at hX hkey hbi ⊢
  clear hb hx0
  have hdo : decide ((10 : Int) < o) = false := decide_eq_false (by omega)
  have hdk : decide ((8 : Int) < k) = false := decide_eq_false (by omega)
  have hd0 : decide ((o : Int) < 0) = false := decide_eq_false (by omega)
  have hd1 : decide ((k : Int) < 0) = false := decide_eq_false (by omega)
  by_cases h0 : o = 0
  · subst h0
    have htb : takeB ll c = false := by cases hh : takeB ll c; rfl; exact absurd ⟨rfl, hh⟩ hf
    have hlen : (dropL ll c).length = ll.length := dropLn
    have ht := nt_take h.e c rfl htb (take_none htb)
    have z1 := h.c.cell' (i := 1) rfl
    clear hf hlen htb hc
    go_enter Try.func41, Try.ntmps41
    go_wp2_with fail
    refine ha.mono ?_
    rintro e w1 ⟨rfl, rfl⟩
    go_wp2_with fail
    refine ht.mono ?_
    rintro e w2 ⟨F2, rfl, hN2, hx2, hg2⟩
    obtain ⟨hZ2, hM2⟩ := h.fmove rfl hN2 hx2 hg2
    have z0 := hZ2.c.cell' (i := 0) rfl
    clear hN2 hx2 hg2 z1 ha ht
    go_wp2_with fail
    refine (bt_alloc hZ2.b 0 k (by omega) hk hX hE hL).mono ?_
    rintro e w3 ⟨rfl, hB3, hx3⟩
    obtain ⟨hZ3, hM3⟩ := hZ2.vmove hAL hB3 hx3
    have hown := hZ3.mp
    have z4 := hZ3.c.cell' (i := 4) rfl
    clear hB3 hx3 z0 hX hE hL
    go_wp2_with (first
      | (at_mapUpdate; refine wpList_mapUpdate_in _ rfl _ _ _ 84 rfl 3 3 law3 Try.underlying84 _ m n D rfl hown hn _ _ _ rfl rfl hkey _ [] (plainElem_int Try.underlying3 hwv) ?_; intro w9 hown9 hturn9)
      | fail)
    obtain ⟨hZ4, hM4⟩ := hZ3.mmove hown9 (turned_ext hturn9)
    go_ret2
    exact ⟨rfl, F2, hZ4, (hM2.trans hM3).trans hM4⟩
  · have hq0 : ((o : Int) == 0) = false := by rw [beq_eq_false_iff_ne]; omega
    have hq1 : ¬ (o : Int) = 0 := by omega
    have z0 := h.c.cell' (i := 0) rfl
    clear hf hc
    go_enter Try.func41, Try.ntmps41
    go_wp2_with fail
    refine ha.mono ?_
    rintro e w1 ⟨rfl, rfl⟩
    go_wp2_with fail
    refine (bt_alloc h.b o k ho hk hX hE hL).mono ?_
    rintro e w3 ⟨rfl, hB3, hx3⟩
    obtain ⟨hZ3, hM3⟩ := h.vmove hAL hB3 hx3
    clear hB3 hx3 z0 hX hE hL ha
    go_wp2_with fail
    go_ret2
    exact ⟨rfl, F, hZ3.mono (by omega), hM3⟩

end
end Go.Proofs.Ytjkknjohmekeiaa
/- A zone in memory: Alloc where no block is free. No condition. -/
namespace Go.Proofs.Ytjkknjohmekeiaa
open Go.RowKit
section
variable {w0 w : World} {z p q m n : Nat} {v : Value} {F : Nat → Prop} {l : List T3} {ll : List (List Int)} {D : Dm}
set_option maxRecDepth 100000 in
set_option maxHeartbeats 6400000 in
theorem zalloc_none (h : ZC w0 w z p q m v F l ll D n) (hn : n < maxLen) (c : Int) (o k : Nat) (ho : o ≤ 10) (hk : k ≤ 8) (hc : inR ll c = true) (hf : ¬ (o = 0 ∧ takeB ll c = true)) (hb : leastL l o = none) :
    Calls Try.prog 41 #[.pointer (some ⟨z, 0, none⟩), .int .i64 c, .int .i64 o, .int .i64 k] w fun e w' => e = .returned (.tuple #[.int .i64 (allocX (backL l ll.flatten) o), .int .i64 (allocE (backL l ll.flatten) o)]) ∧
      ∃ F', ZC w0 w' z p q m v F' (allocL (backL l ll.flatten) o k) (List.replicate ll.length []) (if allocE (backL l ll.flatten) o = 0 ∧ o = 0 then D.put (key (allocX (backL l ll.flatten) o)) (dat k) else D) (n + 1) ∧ Mv w (foot z p m v F) w' (foot z p m v F') := by
  have ha := h.askA hc
  have hwv : (Lit.int .i64 (k : Int)).wf = true := WalkArith.wf_i64 (by omega)
  have hX0 : allocX l o = 0 := by unfold allocX; rw [hb]
  have hE0 : allocE l o = 7 := by unfold allocE; rw [hb]
  have hL0 : allocL l o k = l := BI.none k hb
  clear hb
  have hdo : decide ((10 : Int) < o) = false := decide_eq_false (by omega)
  have hdk : decide ((8 : Int) < k) = false := decide_eq_false (by omega)
  have hd0 : decide ((o : Int) < 0) = false := decide_eq_false (by omega)
  have hd1 : decide ((k : Int) < 0) = false := decide_eq_false (by omega)
  obtain ⟨D1, hD1⟩ : ∃ D1, (if allocE (backL l ll.flatten) o = 0 ∧ o = 0 then D.put (key (allocX (backL l ll.flatten) o)) (dat k) else D) = D1 := ⟨_, rfl⟩
  rw [hD1]
  have hD1' := Lib.hid hD1
  clear hD1
  by_cases h0 : o = 0
  · subst h0
    have htb : takeB ll c = false := by cases hh : takeB ll c; rfl; exact absurd ⟨rfl, hh⟩ hf
    have ht := nt_take h.e c rfl htb (take_none htb)
    have z1 := h.c.cell' (i := 1) rfl
    clear hf htb hc
    go_enter Try.func41, Try.ntmps41
    go_wp2_with fail
    refine ha.mono ?_
    rintro e w1 ⟨rfl, rfl⟩
    go_wp2_with fail
    refine ht.mono ?_
    rintro e w2 ⟨F2, rfl, hN2, hx2, hg2⟩
    obtain ⟨hZ2, hM2⟩ := h.fmove rfl hN2 hx2 hg2
    have z0 := hZ2.c.cell' (i := 0) rfl
    clear hN2 hx2 hg2 z1 ha ht
    go_wp2_with fail
    refine (bt_alloc hZ2.b 0 k ho hk hX0 hE0 hL0).mono ?_
    rintro e w3 ⟨rfl, hB3, hx3⟩
    obtain ⟨hZ3, hM3⟩ := hZ2.vmove rfl hB3 hx3
    have hM3' := hM2.trans hM3
    clear hB3 hx3 hM3
    go_wp2_with fail
    refine (drains96_spec w0 w3 hZ3).mono ?_
    rintro e w4 ⟨rfl, F4, hZ4, hM4⟩
    have hM4' := hM3'.trans hM4
    clear hM4 hM3' hZ3
    by_cases hfl : 0 < ll.flatten.length
    · rw [decide_eq_true hfl]
      have y0 := hZ4.c.cell' (i := 0) rfl
      have hbi4 := hZ4.b.i
      obtain ⟨l1, hl1⟩ : ∃ l1, backL l ll.flatten = l1 := ⟨_, rfl⟩
      rw [hl1] at hZ4 hbi4
      have hl1' := Lib.hid hl1
      clear hl1
      cases hb1 : leastL l1 0 with
      | none =>
        have hX1 : allocX l1 0 = 0 := by unfold allocX; rw [hb1]
        have hE1 : allocE l1 0 = 7 := by unfold allocE; rw [hb1]
        have hL1 : allocL l1 0 k = l1 := BI.none k hb1
        have hX1' := Lib.hid hX1; have hE1' := Lib.hid hE1; have hL1' := Lib.hid hL1
        clear hb1
        go_wp2_with fail
        refine (bt_alloc hZ4.b 0 k ho hk hX1 hE1 hL1).mono ?_
        rintro e w5 ⟨rfl, hB5, hx5⟩
        obtain ⟨hZ5, hM5⟩ := hZ4.vmove rfl hB5 hx5
        clear hB5 hx5 hX1 hE1 hL1 y0
        go_wp2_with fail
        go_ret2
        have hDD : D1 = D := by rw [← hD1'.out, hl1'.out, hE1'.out, if_neg (fun h => absurd h.1 (by decide))]
        rw [hl1'.out, hX1'.out, hE1'.out, hL1'.out, hDD]
        exact ⟨rfl, F4, hZ5.mono (by omega), hM4'.trans hM5⟩
      | some b =>
        have hX1 : allocX l1 0 = b.i := by unfold allocX; rw [hb1]
        have hE1 : allocE l1 0 = 0 := by unfold allocE; rw [hb1]
        have hX1' := Lib.hid hX1; have hE1' := Lib.hid hE1
        have hbi := (least_free hb1).2
        have hle := hbi4.le
        have hAL : (allocL l1 0 k).length = l1.length := (hbi4.alloc hk hb1).1.len
        obtain ⟨L1, hL1⟩ : ∃ L1, allocL l1 0 k = L1 := ⟨_, rfl⟩
        have hL1' := Lib.hid hL1
        rw [hL1] at hAL
        obtain ⟨x, hx0⟩ : ∃ x : Nat, b.i = x := ⟨_, rfl⟩
        rw [hx0] at hX1 hX1' hbi
        have hkey := keyOf3 (x := (x : Int)) (by omega)
        clear hb1 hx0
        go_wp2_with fail
        refine (bt_alloc hZ4.b 0 k ho hk hX1 hE1 hL1).mono ?_
        rintro e w5 ⟨rfl, hB5, hx5⟩
        obtain ⟨hZ5, hM5⟩ := hZ4.vmove hAL hB5 hx5
        have hown := hZ5.mp
        have y4 := hZ5.c.cell' (i := 4) rfl
        clear hB5 hx5 hX1 hE1 hL1 y0
        go_wp2_with (first
          | (at_mapUpdate; refine wpList_mapUpdate_in _ rfl _ _ _ 84 rfl 3 3 law3 Try.underlying84 _ m n D rfl hown hn _ _ _ rfl rfl hkey _ [] (plainElem_int Try.underlying3 hwv) ?_; intro w9 hown9 hturn9)
          | fail)
        obtain ⟨hZ6, hM6⟩ := hZ5.mmove hown9 (turned_ext hturn9)
        go_ret2
        have hDD : D1 = D.put (key (x : Int)) (dat k) := by rw [← hD1'.out, hl1'.out, hE1'.out, hX1'.out, if_pos (by first | exact ⟨rfl, rfl⟩ | exact ⟨rfl, trivial⟩ | simp)]
        rw [hl1'.out, hX1'.out, hE1'.out, hL1'.out, hDD]
        exact ⟨rfl, F4, hZ6, (hM4'.trans hM5).trans hM6⟩
    · rw [decide_eq_false hfl]
      have hnil : ll.flatten = [] := List.eq_nil_of_length_eq_zero (by omega)
      have e1 : Hid (backL l ll.flatten = l) := by show _ = _; rw [hnil]; rfl
      rw [e1.out] at hZ4
      have hX0' := Lib.hid hX0; have hE0' := Lib.hid hE0; have hL0' := Lib.hid hL0
      clear hnil hfl hX0 hE0 hL0
      go_wp2_with fail
      go_ret2
      have hDD : D1 = D := by rw [← hD1'.out, e1.out, hE0'.out, if_neg (fun h => absurd h.1 (by decide))]
      rw [e1.out, hX0'.out, hE0'.out, hL0'.out, hDD]
      exact ⟨rfl, F4, hZ4.mono (by omega), hM4'⟩
  · have hq0 : ((o : Int) == 0) = false := by rw [beq_eq_false_iff_ne]; omega
    have hq1 : ¬ (o : Int) = 0 := by omega
    have z0 := h.c.cell' (i := 0) rfl
    clear hf hc
    go_enter Try.func41, Try.ntmps41
    go_wp2_with fail
    refine ha.mono ?_
    rintro e w1 ⟨rfl, rfl⟩
    go_wp2_with fail
    refine (bt_alloc h.b o k ho hk hX0 hE0 hL0).mono ?_
    rintro e w3 ⟨rfl, hB3, hx3⟩
    obtain ⟨hZ3, hM3⟩ := h.vmove rfl hB3 hx3
    have hM3' := (Mv.refl w (foot z p m v F)).trans hM3
    clear hB3 hx3 hM3
    go_wp2_with fail
    refine (drains96_spec w0 w3 hZ3).mono ?_
    rintro e w4 ⟨rfl, F4, hZ4, hM4⟩
    have hM4' := hM3'.trans hM4
    clear hM4 hM3' hZ3
    by_cases hfl : 0 < ll.flatten.length
    · rw [decide_eq_true hfl]
      have y0 := hZ4.c.cell' (i := 0) rfl
      have hbi4 := hZ4.b.i
      obtain ⟨l1, hl1⟩ : ∃ l1, backL l ll.flatten = l1 := ⟨_, rfl⟩
      rw [hl1] at hZ4 hbi4
      have hl1' := Lib.hid hl1
      clear hl1
      cases hb1 : leastL l1 o with
      | none =>
        have hX1 : allocX l1 o = 0 := by unfold allocX; rw [hb1]
        have hE1 : allocE l1 o = 7 := by unfold allocE; rw [hb1]
        have hL1 : allocL l1 o k = l1 := BI.none k hb1
        have hX1' := Lib.hid hX1; have hE1' := Lib.hid hE1; have hL1' := Lib.hid hL1
        clear hb1
        go_wp2_with fail
        refine (bt_alloc hZ4.b o k ho hk hX1 hE1 hL1).mono ?_
        rintro e w5 ⟨rfl, hB5, hx5⟩
        obtain ⟨hZ5, hM5⟩ := hZ4.vmove rfl hB5 hx5
        clear hB5 hx5 hX1 hE1 hL1 y0
        go_wp2_with fail
        go_ret2
        have hDD : D1 = D := by rw [← hD1'.out, hl1'.out, hE1'.out, if_neg (fun h => absurd h.1 (by decide))]
        rw [hl1'.out, hX1'.out, hE1'.out, hL1'.out, hDD]
        exact ⟨rfl, F4, hZ5.mono (by omega), hM4'.trans hM5⟩
      | some b =>
        have hX1 : allocX l1 o = b.i := by unfold allocX; rw [hb1]
        have hE1 : allocE l1 o = 0 := by unfold allocE; rw [hb1]
        have hX1' := Lib.hid hX1; have hE1' := Lib.hid hE1
        have hbi := (least_free hb1).2
        have hle := hbi4.le
        have hAL : (allocL l1 o k).length = l1.length := (hbi4.alloc hk hb1).1.len
        obtain ⟨L1, hL1⟩ : ∃ L1, allocL l1 o k = L1 := ⟨_, rfl⟩
        have hL1' := Lib.hid hL1
        rw [hL1] at hAL
        obtain ⟨x, hx0⟩ : ∃ x : Nat, b.i = x := ⟨_, rfl⟩
        rw [hx0] at hX1 hX1' hbi
        have hkey := keyOf3 (x := (x : Int)) (by omega)
        clear hb1 hx0
        go_wp2_with fail
        refine (bt_alloc hZ4.b o k ho hk hX1 hE1 hL1).mono ?_
        rintro e w5 ⟨rfl, hB5, hx5⟩
        obtain ⟨hZ5, hM5⟩ := hZ4.vmove hAL hB5 hx5
        have hown := hZ5.mp
        have y4 := hZ5.c.cell' (i := 4) rfl
        clear hB5 hx5 hX1 hE1 hL1 y0
        go_wp2_with (first
          | (at_mapUpdate; refine wpList_mapUpdate_in _ rfl _ _ _ 84 rfl 3 3 law3 Try.underlying84 _ m n D rfl hown hn _ _ _ rfl rfl hkey _ [] (plainElem_int Try.underlying3 hwv) ?_; intro w9 hown9 hturn9)
          | fail)
        go_ret2
        have hDD : D1 = D := by rw [← hD1'.out, if_neg (fun h => h0 h.2)]
        rw [hl1'.out, hX1'.out, hE1'.out, hL1'.out, hDD]
        exact ⟨rfl, F4, hZ5.mono (by omega), hM4'.trans hM5⟩
    · rw [decide_eq_false hfl]
      have hnil : ll.flatten = [] := List.eq_nil_of_length_eq_zero (by omega)
      have e1 : Hid (backL l ll.flatten = l) := by show _ = _; rw [hnil]; rfl
      rw [e1.out] at hZ4
      have hX0' := Lib.hid hX0; have hE0' := Lib.hid hE0; have hL0' := Lib.hid hL0
      clear hnil hfl hX0 hE0 hL0
      go_wp2_with fail
      go_ret2
      have hDD : D1 = D := by rw [← hD1'.out, e1.out, hE0'.out, if_neg (fun h => absurd h.1 (by decide))]
      rw [e1.out, hX0'.out, hE0'.out, hL0'.out, hDD]
      exact ⟨rfl, F4, hZ4.mono (by omega), hM4'⟩
end
end Go.Proofs.Ytjkknjohmekeiaa
/- A zone in memory: Tag. No condition. -/
namespace Go.Proofs.Ytjkknjohmekeiaa
open Go.RowKit
section
variable {w0 w : World} {z p q m n : Nat} {v : Value} {F : Nat → Prop} {l : List T3} {ll : List (List Int)} {D : Dm}
set_option maxRecDepth 100000 in
set_option maxHeartbeats 1600000 in
theorem tag42_out (h : ZC w0 w z p q m v F l ll D n) (page : Int) (hp : page < 0 ∨ (0 ≤ page ∧ (l.length : Int) ≤ page)) :
    Calls Try.prog 42 #[.pointer (some ⟨z, 0, none⟩), .int .i64 page] w fun e w' => e = .returned (.tuple #[.agg #[.int .i64 0, .int .i64 0, .int .i64 0], .bool false]) ∧ Ext No w w' := by
  obtain ⟨A, hA⟩ : ∃ A, w.heap.size = A := ⟨_, rfl⟩
  obtain ⟨W, hW⟩ : ∃ W, w.alloc (.cells #[.int .i64 0, .int .i64 0, .int .i64 0] 56) = W := ⟨_, rfl⟩
  have hX : Ext No w W := by rw [← hW]; exact (Ext.refl _ _).alloc _
  have hB : Blk W A [.int .i64 0, .int .i64 0, .int .i64 0] 56 := by rw [← hW]; exact Blk.new' hA.symm
  have hW' := Lib.hid hW
  have hA' := Lib.hid hA
  clear hW hA
  have h1 := h.extNo hX
  have z3 := h1.c.cell' (i := 3) rfl
  have ha := h1.askA h1.in0
  have b0 := hB.cell' (i := 0) rfl
  have b1 := hB.cell' (i := 1) rfl
  have b2 := hB.cell' (i := 2) rfl
  have f0 := hB.frozen 0
  have f1 := hB.frozen 1
  have f2 := hB.frozen 2
  have hB2 := ((hB.set 0 (.int .i64 0)).set 1 (.int .i64 0)).set 2 (.int .i64 0)
  have r0 := hB2.cell' (i := 0) rfl
  have r1 := hB2.cell' (i := 1) rfl
  have r2 := hB2.cell' (i := 2) rfl
  have hX2 : Ext No w (((W.setCell ⟨A, 0, none⟩ (.int .i64 0)).setCell ⟨A, 1, none⟩ (.int .i64 0)).setCell ⟨A, 2, none⟩ (.int .i64 0)) := ((hX.setCell _ _ (.inl (by rw [hA'.out]; exact Nat.le_refl _))).setCell _ _ (.inl (by rw [hA'.out]; exact Nat.le_refl _))).setCell _ _ (.inl (by rw [hA'.out]; exact Nat.le_refl _))
  clear h h1 hB hB2
  rcases hp with hp | ⟨hp0, hp⟩
  · go_enter Try.func42, Try.ntmps42
    go_wp2_with fail
    rw [hW'.out, hA'.out]
    refine ha.mono ?_
    rintro e w1 ⟨rfl, rfl⟩
    go_wp2_with fail
    refine bodyPost_ret (v := .tuple #[.agg #[.int .i64 0, .int .i64 0, .int .i64 0], .bool false]) (by simp [results, Try.results42, go_sem, r0, r1, r2]) rfl ⟨rfl, hX2⟩
  · have hd : decide ((l.length : Int) ≤ page) = true := decide_eq_true hp
    go_enter Try.func42, Try.ntmps42
    go_wp2_with fail
    rw [hW'.out, hA'.out]
    refine ha.mono ?_
    rintro e w1 ⟨rfl, rfl⟩
    go_wp2_with fail
    refine bodyPost_ret (v := .tuple #[.agg #[.int .i64 0, .int .i64 0, .int .i64 0], .bool false]) (by simp [results, Try.results42, go_sem, r0, r1, r2]) rfl ⟨rfl, hX2⟩
set_option maxRecDepth 100000 in
set_option maxHeartbeats 3200000 in
theorem tag42_no (h : ZC w0 w z p q m v F l ll D n) (i hh : Nat) (hil : i < l.length) (hd : Hd l i hh) (hno : (nth l hh).a ≠ 2 ∨ ((nth l hh).a = 2 ∧ hasIn ll hh = true)) :
    Calls Try.prog 42 #[.pointer (some ⟨z, 0, none⟩), .int .i64 i] w fun e w' => e = .returned (.tuple #[.agg #[.int .i64 0, .int .i64 0, .int .i64 0], .bool false]) ∧ Ext No w w' := by
  have hno' := Lib.hid hno
  clear hno
  obtain ⟨A, hA⟩ : ∃ A, w.heap.size = A := ⟨_, rfl⟩
  obtain ⟨W, hW⟩ : ∃ W, w.alloc (.cells #[.int .i64 0, .int .i64 0, .int .i64 0] 56) = W := ⟨_, rfl⟩
  have hX : Ext No w W := by rw [← hW]; exact (Ext.refl _ _).alloc _
  have hB : Blk W A [.int .i64 0, .int .i64 0, .int .i64 0] 56 := by rw [← hW]; exact Blk.new' hA.symm
  have hW' := Lib.hid hW
  have hA' := Lib.hid hA
  clear hW hA
  have h1 := h.extNo hX
  have hi := Lib.hid (hd.hlt hil)
  have z0 := h1.c.cell' (i := 0) rfl
  have z3 := h1.c.cell' (i := 3) rfl
  have ha := h1.askA h1.in0
  have ht := h1.b.i.tab
  have hE : headE l (i : Int) = 0 := by unfold headE inT; rw [ht, decide_eq_true (by omega), decide_eq_true (by omega)]; rfl
  have hR : headR l (i : Int) = hh := by unfold headR inT; rw [ht, decide_eq_true (by omega), decide_eq_true (by omega)]; exact headF_eq h1.b.i.va hil hd
  have d1 : decide ((i : Int) < 0) = false := decide_eq_false (by omega)
  have d2 : decide ((l.length : Int) ≤ i) = false := decide_eq_false (by omega)
  have d3 : decide (l.length ≤ i) = false := decide_eq_false (by omega)
  clear ht h
  go_enter Try.func42, Try.ntmps42
  go_wp2_with fail
  rw [hW'.out, hA'.out]
  refine ha.mono ?_
  rintro e w1 ⟨rfl, rfl⟩
  go_wp2_with fail
  refine (bt_pages h1.b).mono ?_
  rintro e w2 ⟨r, rfl, ho, _, hx2⟩
  have hAlt := hB.lt
  have h2 := h1.extNo hx2
  have hB2 := hB.extNo hx2
  have hX2 := hX.transNo hx2
  clear h1 hB hX hx2 z0 z3 ha
  go_wp2_with fail
  refine (head63_spec w2 r l _ (own_rdT ho) i).mono ?_
  rintro e w3 ⟨rfl, hx3⟩
  rw [hE, hR]
  have h3 := h2.extNo hx3
  have hB3 := hB2.extNo hx3
  have hX3 := hX2.transNo hx3
  have ho3 := ownsRow_ext ho hx3 (fun _ _ => id)
  have hrd := own_rdT ho3
  clear h2 hB2 hX2 hx3 ho hE hR
  obtain ⟨ar, cr, rfl, hlc, hcr⟩ := hrd.val
  obtain ⟨br, or, rfl, hbr, hbl, x0, x1, x2⟩ := hrd.at (k := hh) hi.out
  have hne : br ≠ A := fun e => by have := (ho3.lt br hbl).1; omega
  clear ho3 hrd
  have hhi : (hh : Int) < l.length := by have := hi.out; omega

  have b0 := hB3.cell' (i := 0) rfl
  have b1 := hB3.cell' (i := 1) rfl
  have b2 := hB3.cell' (i := 2) rfl
  have f0 := hB3.frozen 0
  have f1 := hB3.frozen 1
  have f2 := hB3.frozen 2
  have z1 := h3.c.cell' (i := 1) rfl
  rcases hno'.out with hk | ⟨hk, hn⟩
  · have hq : ((nth l hh).a != 2) = true := by simpa using hk
    have hB4 := ((hB3.set 0 (.int .i64 0)).set 1 (.int .i64 0)).set 2 (.int .i64 0)
    have r0 := hB4.cell' (i := 0) rfl
    have r1 := hB4.cell' (i := 1) rfl
    have r2 := hB4.cell' (i := 2) rfl
    have hX4 : Ext No w (((w3.setCell ⟨A, 0, none⟩ (.int .i64 0)).setCell ⟨A, 1, none⟩ (.int .i64 0)).setCell ⟨A, 2, none⟩ (.int .i64 0)) := ((hX3.setCell _ _ (.inl (by rw [hA'.out]; exact Nat.le_refl _))).setCell _ _ (.inl (by rw [hA'.out]; exact Nat.le_refl _))).setCell _ _ (.inl (by rw [hA'.out]; exact Nat.le_refl _))
    clear hk hB4 h3 hB3 hX3
    go_wp2_with fail
    refine bodyPost_ret (v := .tuple #[.agg #[.int .i64 0, .int .i64 0, .int .i64 0], .bool false]) (by simp [results, Try.results42, go_sem, r0, r1, r2]) rfl ⟨rfl, hX4⟩
  · have hq : ((nth l hh).a != 2) = false := by rw [hk]; rfl
    clear hk
    go_wp2_with fail
    refine (nt_has h3.e (hh : Int) hn).mono ?_
    rintro e w4 ⟨rfl, _, hx4⟩
    have hB4 := hB3.extNo hx4
    have hX4 := hX3.transNo hx4
    have c0 := hB4.cell' (i := 0) rfl
    have c1 := hB4.cell' (i := 1) rfl
    have c2 := hB4.cell' (i := 2) rfl
    have g0 := hB4.frozen 0
    have g1 := hB4.frozen 1
    have g2 := hB4.frozen 2
    have hB5 := ((hB4.set 0 (.int .i64 0)).set 1 (.int .i64 0)).set 2 (.int .i64 0)
    have r0 := hB5.cell' (i := 0) rfl
    have r1 := hB5.cell' (i := 1) rfl
    have r2 := hB5.cell' (i := 2) rfl
    have hX5 : Ext No w (((w4.setCell ⟨A, 0, none⟩ (.int .i64 0)).setCell ⟨A, 1, none⟩ (.int .i64 0)).setCell ⟨A, 2, none⟩ (.int .i64 0)) := ((hX4.setCell _ _ (.inl (by rw [hA'.out]; exact Nat.le_refl _))).setCell _ _ (.inl (by rw [hA'.out]; exact Nat.le_refl _))).setCell _ _ (.inl (by rw [hA'.out]; exact Nat.le_refl _))
    clear hB5 hB4 h3 hB3 hX3 hX4 hx4 b0 b1 b2 f0 f1 f2 z1 x0 x1 x2
    go_wp2_with fail
    refine bodyPost_ret (v := .tuple #[.agg #[.int .i64 0, .int .i64 0, .int .i64 0], .bool false]) (by simp [results, Try.results42, go_sem, r0, r1, r2]) rfl ⟨rfl, hX5⟩

set_option maxRecDepth 100000 in
set_option maxHeartbeats 3200000 in
theorem tag42_yes (h : ZC w0 w z p q m v F l ll D n) (i hh : Nat) (hil : i < l.length) (hd : Hd l i hh) (hk : (nth l hh).a = 2) (hn : hasIn ll hh = false) :
    Calls Try.prog 42 #[.pointer (some ⟨z, 0, none⟩), .int .i64 i] w fun e w' => e = .returned (.tuple #[.agg #[.int .i64 hh, .int .i64 (nth l hh).b, .int .i64 (tagF D l hh)], .bool true]) ∧ Ext No w w' := by
  have hzlt := h.c.lt
  have hmlt := h.mp.lt
  obtain ⟨A, hA⟩ : ∃ A, w.heap.size = A := ⟨_, rfl⟩
  obtain ⟨W, hW⟩ : ∃ W, w.alloc (.cells #[.int .i64 0, .int .i64 0, .int .i64 0] 56) = W := ⟨_, rfl⟩
  have hX : Ext No w W := by rw [← hW]; exact (Ext.refl _ _).alloc _
  have hB : Blk W A [.int .i64 0, .int .i64 0, .int .i64 0] 56 := by rw [← hW]; exact Blk.new' hA.symm
  have hW' := Lib.hid hW
  have hA' := Lib.hid hA
  clear hW hA
  have h1 := h.extNo hX
  have hi := Lib.hid (hd.hlt hil)
  have z0 := h1.c.cell' (i := 0) rfl
  have z3 := h1.c.cell' (i := 3) rfl
  have ha := h1.askA h1.in0
  have ht := h1.b.i.tab
  have hE : headE l (i : Int) = 0 := by unfold headE inT; rw [ht, decide_eq_true (by omega), decide_eq_true (by omega)]; rfl
  have hR : headR l (i : Int) = hh := by unfold headR inT; rw [ht, decide_eq_true (by omega), decide_eq_true (by omega)]; exact headF_eq h1.b.i.va hil hd
  have d1 : decide ((i : Int) < 0) = false := decide_eq_false (by omega)
  have d2 : decide ((l.length : Int) ≤ i) = false := decide_eq_false (by omega)
  have d3 : decide (l.length ≤ i) = false := decide_eq_false (by omega)
  clear ht h
  go_enter Try.func42, Try.ntmps42
  go_wp2_with fail
  rw [hW'.out, hA'.out]
  refine ha.mono ?_
  rintro e w1 ⟨rfl, rfl⟩
  go_wp2_with fail
  refine (bt_pages h1.b).mono ?_
  rintro e w2 ⟨r, rfl, ho, _, hx2⟩
  have hAlt := hB.lt
  have h2 := h1.extNo hx2
  have hB2 := hB.extNo hx2
  have hX2 := hX.transNo hx2
  clear h1 hB hX hx2 z0 z3 ha
  go_wp2_with fail
  refine (head63_spec w2 r l _ (own_rdT ho) i).mono ?_
  rintro e w3 ⟨rfl, hx3⟩
  rw [hE, hR]
  have h3 := h2.extNo hx3
  have hB3 := hB2.extNo hx3
  have hX3 := hX2.transNo hx3
  have ho3 := ownsRow_ext ho hx3 (fun _ _ => id)
  have hrd := own_rdT ho3
  clear h2 hB2 hX2 hx3 ho hE hR
  obtain ⟨ar, cr, rfl, hlc, hcr⟩ := hrd.val
  obtain ⟨br, or, rfl, hbr, hbl, x0, x1, x2⟩ := hrd.at (k := hh) hi.out
  have hne : br ≠ A := fun e => by have := (ho3.lt br hbl).1; omega
  clear ho3 hrd
  have hhi : (hh : Int) < l.length := by have := hi.out; omega

  rw [hA'.out] at hzlt hmlt
  have z1 := h3.c.cell' (i := 1) rfl
  have hq : ((nth l hh).a != 2) = false := by rw [hk]; rfl
  clear hk
  go_wp2_with fail
  refine (nt_has h3.e (hh : Int) hn).mono ?_
  rintro e w4 ⟨rfl, _, hx4⟩
  have h4 := h3.extNo hx4
  have hB4 := hB3.extNo hx4
  have hX4 := hX3.transNo hx4
  have y0 := hx4.cell x0 id
  have y1 := hx4.cell x1 id
  have y2 := hx4.cell x2 id
  have c0 := hB4.cell' (i := 0) rfl
  have c1 := hB4.cell' (i := 1) rfl
  have c2 := hB4.cell' (i := 2) rfl
  have g0 := hB4.frozen 0
  have g1 := hB4.frozen 1
  have g2 := hB4.frozen 2
  clear h3 hB3 hX3 hx4 x0 x1 x2 z1
  go_upto_region 7 with (fail)
  have hcl : Ext No w w4.drew := hX4.drew
  refine anyZ_begin 12 (fun w' => w'.cell? ⟨br, or + hh * 3 + 1, none⟩ = some (.int .i64 (nth l hh).b) ∧ w'.cell? ⟨br, or + hh * 3 + 2, none⟩ = some (.int .i64 (nth l hh).c) ∧ w'.cell? ⟨A, 0, none⟩ = some (.int .i64 0) ∧ w'.cell? ⟨A, 1, none⟩ = some (.int .i64 0) ∧ w'.cell? ⟨A, 2, none⟩ = some (.int .i64 0)) (by kernel_rfl) ?_
  have hC : (fun w' : World => w'.cell? ⟨br, or + hh * 3 + 1, none⟩ = some (.int .i64 (nth l hh).b) ∧ w'.cell? ⟨br, or + hh * 3 + 2, none⟩ = some (.int .i64 (nth l hh).c) ∧ w'.cell? ⟨A, 0, none⟩ = some (.int .i64 0) ∧ w'.cell? ⟨A, 1, none⟩ = some (.int .i64 0) ∧ w'.cell? ⟨A, 2, none⟩ = some (.int .i64 0)) w4.drew := ⟨y1, y2, c0, c1, c2⟩
  refine anyZ_take 0 (v := ?_) rfl (by kernel_rfl) (by kernel_rfl) (by kernel_rfl) (by kernel_rfl) (fun _ _ _ h => h) hC (Or.inl ⟨by rfl, ?_⟩) ?_
  rotate_left
  · (intro wq hq; (try dsimp only at hq); go_simp; with_reducible rfl)
  simp only [Act.put, List.setIfInBounds_toArray, List.set_cons_zero, List.set_cons_succ]
  refine anyZ_take 1 (v := ?_) rfl (by kernel_rfl) (by kernel_rfl) (by kernel_rfl) (by kernel_rfl) (fun _ _ _ h => h) hC (Or.inl ⟨by rfl, ?_⟩) ?_
  rotate_left
  · (intro wq hq; (try dsimp only at hq); go_simp; with_reducible rfl)
  simp only [Act.put, List.setIfInBounds_toArray, List.set_cons_zero, List.set_cons_succ]
  refine anyZ_take 2 (v := ?_) rfl (by kernel_rfl) (by kernel_rfl) (by kernel_rfl) (by kernel_rfl) (fun _ _ _ h => h) hC (Or.inl ⟨by rfl, ?_⟩) ?_
  rotate_left
  · (intro wq hq; (try dsimp only at hq); go_simp; with_reducible rfl)
  simp only [Act.put, List.setIfInBounds_toArray, List.set_cons_zero, List.set_cons_succ]
  refine anyZ_take 3 (v := ?_) rfl (by kernel_rfl) (by kernel_rfl) (by kernel_rfl) (by kernel_rfl) (fun _ _ _ h => h) hC (Or.inl ⟨by rfl, ?_⟩) ?_
  rotate_left
  · (intro wq hq; (try dsimp only at hq); go_simp; with_reducible rfl)
  simp only [Act.put, List.setIfInBounds_toArray, List.set_cons_zero, List.set_cons_succ]
  refine anyZ_take 4 (v := ?_) rfl (by kernel_rfl) (by kernel_rfl) (by kernel_rfl) (by kernel_rfl) (fun _ _ _ h => h) hC (Or.inl ⟨by rfl, ?_⟩) ?_
  rotate_left
  · (intro wq hq; (try dsimp only at hq); go_simp; with_reducible rfl)
  simp only [Act.put, List.setIfInBounds_toArray, List.set_cons_zero, List.set_cons_succ]
  refine anyZ_take 5 (v := ?_) rfl (by kernel_rfl) (by kernel_rfl) (by kernel_rfl) (by kernel_rfl) (fun _ _ _ h => h) hC (Or.inl ⟨by rfl, ?_⟩) ?_
  rotate_left
  · (intro wq hq; (try dsimp only at hq); go_simp; with_reducible rfl)
  simp only [Act.put, List.setIfInBounds_toArray, List.set_cons_zero, List.set_cons_succ]
  refine anyZ_take 6 (v := ?_) rfl (by kernel_rfl) (by kernel_rfl) (by kernel_rfl) (by kernel_rfl) (fun _ _ _ h => h) hC (Or.inl ⟨by rfl, ?_⟩) ?_
  rotate_left
  · (intro wq hq; (try dsimp only at hq); go_simp; with_reducible rfl)
  simp only [Act.put, List.setIfInBounds_toArray, List.set_cons_zero, List.set_cons_succ]
  refine anyZ_take 7 (v := ?_) rfl (by kernel_rfl) (by kernel_rfl) (by kernel_rfl) (by kernel_rfl) (fun _ _ _ h => h) hC (Or.inl ⟨by rfl, ?_⟩) ?_
  rotate_left
  · (intro wq hq; (try dsimp only at hq); go_simp; with_reducible rfl)
  simp only [Act.put, List.setIfInBounds_toArray, List.set_cons_zero, List.set_cons_succ]
  refine anyZ_take 8 (v := ?_) rfl (by kernel_rfl) (by kernel_rfl) (by kernel_rfl) (by kernel_rfl) (fun _ _ _ h => h) hC (Or.inl ⟨by rfl, ?_⟩) ?_
  rotate_left
  · (intro wq hq; (try dsimp only at hq); go_simp; with_reducible rfl)
  simp only [Act.put, List.setIfInBounds_toArray, List.set_cons_zero, List.set_cons_succ]
  refine anyZ_take 9 (v := ?_) rfl (by kernel_rfl) (by kernel_rfl) (by kernel_rfl) (by kernel_rfl) (fun _ _ _ h => h) hC (Or.inl ⟨by rfl, ?_⟩) ?_
  rotate_left
  · (intro wq hq; (try dsimp only at hq); go_simp; with_reducible rfl)
  simp only [Act.put, List.setIfInBounds_toArray, List.set_cons_zero, List.set_cons_succ]
  refine anyZ_take 10 (v := ?_) rfl (by kernel_rfl) (by kernel_rfl) (by kernel_rfl) (by kernel_rfl) (fun _ _ _ h => h) hC (Or.inl ⟨by rfl, ?_⟩) ?_
  rotate_left
  · (intro wq hq; (try dsimp only at hq); go_simp; with_reducible rfl)
  simp only [Act.put, List.setIfInBounds_toArray, List.set_cons_zero, List.set_cons_succ]
  refine anyZ_take 11 (v := ?_) rfl (by kernel_rfl) (by kernel_rfl) (by kernel_rfl) (by kernel_rfl) (fun _ _ _ h => h) hC (Or.inl ⟨by rfl, ?_⟩) ?_
  rotate_left
  · (intro wq hq; (try dsimp only at hq); go_simp; with_reducible rfl)
  simp only [Act.put, List.setIfInBounds_toArray, List.set_cons_zero, List.set_cons_succ]
  clear hC
  refine anyZ_last rfl (by kernel_rfl) (fun K hK => ?_)
  go_simp
  refine hK _ _ ?_
  clear hK K
  try simp only [Act.put, List.setIfInBounds_toArray, List.set_cons_zero, List.set_cons_succ]
  refine anyZ_done (by kernel_rfl) ?_ _
  have hst : Ext (One A) w4 (((w4.setCell ⟨A, 0, none⟩ (.int .i64 hh)).setCell ⟨A, 1, none⟩ (.int .i64 (nth l hh).b)).setCell ⟨A, 2, none⟩ (.int .i64 (nth l hh).c)).drew := (Ext.set3 _ _ _ _ _ _ _ _).drew
  have hB5 : Blk (((w4.setCell ⟨A, 0, none⟩ (.int .i64 hh)).setCell ⟨A, 1, none⟩ (.int .i64 (nth l hh).b)).setCell ⟨A, 2, none⟩ (.int .i64 (nth l hh).c)).drew A [.int .i64 hh, .int .i64 (nth l hh).b, .int .i64 (nth l hh).c] 56 := (((hB4.set 0 _).set 1 _).set 2 _).drew
  obtain ⟨V, hV⟩ : ∃ V, (((w4.setCell ⟨A, 0, none⟩ (.int .i64 hh)).setCell ⟨A, 1, none⟩ (.int .i64 (nth l hh).b)).setCell ⟨A, 2, none⟩ (.int .i64 (nth l hh).c)).drew = V := ⟨_, rfl⟩
  rw [hV] at hst hB5 ⊢
  clear hV
  have hmA : m ≠ A := fun e => by have := h4.mn; have := hmlt; omega
  have hzA : z ≠ A := fun e => by have := hzlt; omega
  have hown := ownsMap_ext h4.mp hst hmA
  have z4 := (h4.c.extOne hst hzA).cell' (i := 4) rfl
  have hX5 : Ext No w V := hX4.transNew hst (fun x (e : x = A) => by rw [hA'.out]; omega)
  have r0 := hB5.cell' (i := 0) rfl
  have r1 := hB5.cell' (i := 1) rfl
  have r2 := hB5.cell' (i := 2) rfl
  have s0 := hB5.frozen 0
  have s1 := hB5.frozen 1
  have s2 := hB5.frozen 2
  have hkey := keyOf3 (x := (hh : Int)) (by omega)
  clear c0 c1 c2 g0 g1 g2 y0 y1 y2 hB4 h4 hst hcl hX4
  cases hhas : Maps.has D (key hh)
  · have hT : Hid (tagF D l hh = (nth l hh).c) := tag_no hhas
    go_wp2_with (first
      | (at_lookup; refine wpList_lookup_own_ok_int _ rfl _ _ 84 rfl 3 3 .i64 law3 Try.underlying84 Try.underlying3 (zero3 _) m n D rfl hown _ _ rfl hkey ?_; intro c9 hat hwc)
      | fail)
    have hB6 := ((hB5.set 0 (.int .i64 hh)).set 1 (.int .i64 (nth l hh).b)).set 2 (.int .i64 (nth l hh).c)
    have t0 := hB6.cell' (i := 0) rfl
    have t1 := hB6.cell' (i := 1) rfl
    have t2 := hB6.cell' (i := 2) rfl
    have hX6 : Ext No w (((V.setCell ⟨A, 0, none⟩ (.int .i64 hh)).setCell ⟨A, 1, none⟩ (.int .i64 (nth l hh).b)).setCell ⟨A, 2, none⟩ (.int .i64 (nth l hh).c)) := ((hX5.setCell _ _ (.inl (by rw [hA'.out]; exact Nat.le_refl _))).setCell _ _ (.inl (by rw [hA'.out]; exact Nat.le_refl _))).setCell _ _ (.inl (by rw [hA'.out]; exact Nat.le_refl _))
    refine bodyPost_ret (v := .tuple #[.agg #[.int .i64 hh, .int .i64 (nth l hh).b, .int .i64 (nth l hh).c], .bool true]) (by simp [results, Try.results42, go_sem, t0, t1, t2]) rfl ⟨?_, hX6⟩
    rw [hT.out]
  · have hT : ∀ c9, DataW.atKey D (key hh) (DataW.lit (Lit.int .i64 0)) = DataW.lit (Lit.int .i64 c9) → tagF D l hh = c9 := fun c9 hat => by
      unfold tagF; rw [if_pos hhas]; show cval (DataW.atKey D (key hh) (DataW.lit (Lit.int .i64 0))) = c9; rw [hat]; rfl
    go_upto_region 8 with (fail)
    go_wp2_with (first
      | (at_lookup; refine wpList_lookup_own_ok_int _ rfl _ _ 84 rfl 3 3 .i64 law3 Try.underlying84 Try.underlying3 (zero3 _) m n D rfl hown _ _ rfl hkey ?_; intro c9 hat hwc; have hB6 := hB5.set 2 (.int .i64 c9); have s0 := hB6.frozen 0; have s1 := hB6.frozen 1; have s2 := hB6.frozen 2; have t0 := hB6.cell' (i := 0) rfl; have t1 := hB6.cell' (i := 1) rfl; have t2 := hB6.cell' (i := 2) rfl)
      | fail)
    have hT9 := Lib.hid (hT _ ‹_›)
    have hB7 := ((hB6.set 0 (.int .i64 hh)).set 1 (.int .i64 (nth l hh).b)).set 2 (.int .i64 c9)
    have q0 := hB7.cell' (i := 0) rfl
    have q1 := hB7.cell' (i := 1) rfl
    have q2 := hB7.cell' (i := 2) rfl
    have hX7 : Ext No w ((((V.setCell ⟨A, 2, none⟩ (.int .i64 c9)).setCell ⟨A, 0, none⟩ (.int .i64 hh)).setCell ⟨A, 1, none⟩ (.int .i64 (nth l hh).b)).setCell ⟨A, 2, none⟩ (.int .i64 c9)) := (((hX5.setCell _ _ (.inl (by rw [hA'.out]; exact Nat.le_refl _))).setCell _ _ (.inl (by rw [hA'.out]; exact Nat.le_refl _))).setCell _ _ (.inl (by rw [hA'.out]; exact Nat.le_refl _))).setCell _ _ (.inl (by rw [hA'.out]; exact Nat.le_refl _))
    refine bodyPost_ret (v := .tuple #[.agg #[.int .i64 hh, .int .i64 (nth l hh).b, .int .i64 c9], .bool true]) (by simp [results, Try.results42, go_sem, q0, q1, q2]) rfl ⟨?_, hX7⟩
    rw [hT9.out]
end
end Go.Proofs.Ytjkknjohmekeiaa
/- A zone in memory: Tag of any page; Near, Whole, Left. No condition. -/
namespace Go.Proofs.Ytjkknjohmekeiaa
open Go.RowKit

/-- Does a page say that it is out? Its head, order and cache then. -/
def tB (l : List T3) (ll : List (List Int)) (page : Int) : Bool := inT l page && (decide ((nth l (headF l page).toNat).a = 2) && !hasIn ll (headF l page))
def tH (l : List T3) (ll : List (List Int)) (page : Int) : Int := if tB l ll page then headF l page else 0
def tO (l : List T3) (ll : List (List Int)) (page : Int) : Int := if tB l ll page then (nth l (headF l page).toNat).b else 0
def tC (D : Dm) (l : List T3) (ll : List (List Int)) (page : Int) : Int := if tB l ll page then tagF D l (headF l page).toNat else 0
/-- Is a page the head of a block that is out, and not near? -/
def zout (l : List T3) (ll : List (List Int)) (page : Int) : Bool := outAt l page && !hasIn ll page
theorem hd_out {l : List T3} (hv : Va l) {i : Nat} (hi : i < l.length) (ha : (nth l i).a = 2) : headF l i = i :=
  headF_eq hv hi (Hd.start (hd_of_kind hv hi (by rw [ha]; decide)))
theorem in_nat {l : List T3} {i : Nat} (h : i < l.length) : inT l i = true := by unfold inT; rw [decide_eq_true (by omega), decide_eq_true (by omega)]; rfl
theorem zout_yes {l : List T3} {ll : List (List Int)} {page : Int} (h : BI l) (hz : zout l ll page = true) : ∃ i : Nat, page = i ∧ i < l.length ∧ (nth l i).a = 2 ∧ hasIn ll i = false ∧ tB l ll i = true ∧ tH l ll i = i ∧ tO l ll i = (nth l i).b := by
  unfold zout at hz
  rw [Bool.and_eq_true, Bool.not_eq_true'] at hz
  obtain ⟨h1, h2⟩ := hz
  obtain ⟨i, rfl, hi, ha⟩ := outAt_iff.1 h1
  have hh := hd_out h.va hi ha
  have hb : tB l ll i = true := by unfold tB; rw [in_nat hi, hh, Int.toNat_natCast, decide_eq_true ha, h2]; rfl
  exact ⟨i, rfl, hi, ha, h2, hb, by unfold tH; rw [hb, hh]; rfl, by unfold tO; rw [hb, hh, Int.toNat_natCast]; rfl⟩
theorem zout_no {l : List T3} {ll : List (List Int)} {page : Int} (_h : BI l) (hz : zout l ll page = false) : tB l ll page = false ∨ (tB l ll page = true ∧ (tH l ll page != page) = true) := by
  cases hb : tB l ll page
  · exact .inl rfl
  · refine .inr ⟨rfl, ?_⟩
    rw [bne_iff_ne]
    intro he
    unfold tH at he
    rw [hb] at he
    have he : headF l page = page := he
    unfold tB at hb
    rw [he] at hb
    simp only [Bool.and_eq_true, Bool.not_eq_true', decide_eq_true_eq] at hb
    obtain ⟨h1, h2, h3⟩ := hb
    unfold inT at h1
    simp only [Bool.and_eq_true, decide_eq_true_eq] at h1
    unfold zout at hz
    rw [outAt_iff.2 ⟨page.toNat, by omega, by omega, h2⟩, h3] at hz
    cases hz
section
variable {w0 w : World} {z p q m n : Nat} {v : Value} {F : Nat → Prop} {l : List T3} {ll : List (List Int)} {D : Dm}
theorem tag42_spec (h : ZC w0 w z p q m v F l ll D n) (page : Int) :
    Calls Try.prog 42 #[.pointer (some ⟨z, 0, none⟩), .int .i64 page] w fun e w' => e = .returned (.tuple #[.agg #[.int .i64 (tH l ll page), .int .i64 (tO l ll page), .int .i64 (tC D l ll page)], .bool (tB l ll page)]) ∧ Ext No w w' := by
  by_cases hp : 0 ≤ page ∧ page < l.length
  · obtain ⟨i, rfl⟩ : ∃ i : Nat, page = i := ⟨page.toNat, by omega⟩
    have hil : i < l.length := by omega
    obtain ⟨hh, hd⟩ := hd_ex h.b.i.va hil
    have hf := headF_eq h.b.i.va hil hd
    by_cases hk : (nth l hh).a = 2
    · cases hn : hasIn ll hh
      · have hb : tB l ll i = true := by unfold tB; rw [in_nat hil, hf, Int.toNat_natCast, decide_eq_true hk, hn]; rfl
        unfold tH tO tC
        rw [hb, if_pos rfl, if_pos rfl, if_pos rfl, hf, Int.toNat_natCast]
        exact tag42_yes h i hh hil hd hk hn
      · have hb : tB l ll i = false := by unfold tB; rw [hf, hn]; simp
        unfold tH tO tC
        rw [hb]
        exact tag42_no h i hh hil hd (.inr ⟨hk, hn⟩)
    · have hb : tB l ll i = false := by unfold tB; rw [hf, Int.toNat_natCast, decide_eq_false hk]; simp
      unfold tH tO tC
      rw [hb]
      exact tag42_no h i hh hil hd (.inl hk)
  · have hb : tB l ll page = false := by
      unfold tB inT
      by_cases h0 : 0 ≤ page
      · rw [decide_eq_false (show ¬ page < l.length by omega)]; simp
      · rw [decide_eq_false h0]; simp
    unfold tH tO tC
    rw [hb]
    exact tag42_out h page (by omega)
theorem near44_spec (h : ZC w0 w z p q m v F l ll D n) (c : Int) :
    Calls Try.prog 44 #[.pointer (some ⟨z, 0, none⟩), .int .i64 c] w fun e w' => e = .returned (.int .i64 (listIn ll c).length) ∧ Ext No w w' := by
  cases hi : inR ll c
  · have hl : (listIn ll c).length = 0 := by rw [(listIn_out hi).1]; rfl
    rw [hl]
    go_enter Try.func44, Try.ntmps44
    go_wp2_with fail
    refine (h.askN hi).mono ?_
    rintro e w1 ⟨rfl, rfl⟩
    go_wp2_with fail
    go_ret
    exact ⟨rfl, Ext.refl _ _⟩
  · have z1 := h.c.cell' (i := 1) rfl
    go_enter Try.func44, Try.ntmps44
    go_wp2_with fail
    refine (h.askA hi).mono ?_
    rintro e w1 ⟨rfl, rfl⟩
    go_wp2_with fail
    refine (nt_list h.e c rfl).mono ?_
    rintro e w2 ⟨r, rfl, _, ha, hx⟩
    obtain ⟨a, cap, rfl, _, _⟩ := ha.val
    go_wp2_with fail
    go_ret
    exact ⟨rfl, hx⟩
theorem whole57_spec (h : ZC w0 w z p q m v F l ll D n) :
    Calls Try.prog 57 #[.pointer (some ⟨z, 0, none⟩)] w fun e w' => e = .returned (.bool (decide (l = full l.length))) ∧ Ext No w w' := by
  have z0 := h.c.cell' (i := 0) rfl
  have hw := bt_whole h.b rfl
  obtain ⟨B, hB⟩ : ∃ B, decide (l = full l.length) = B := ⟨_, rfl⟩
  rw [hB] at hw ⊢
  go_enter Try.func57, Try.ntmps57
  go_wp2_with fail
  refine (h.askA h.in0).mono ?_
  rintro e w1 ⟨rfl, rfl⟩
  go_wp2_with fail
  refine hw.mono ?_
  rintro e w2 ⟨rfl, _, hx⟩
  go_wp2_with fail
  go_ret
  exact ⟨rfl, hx⟩
theorem frS_bd {l : List T3} (h : BI l) : 0 ≤ frS l ∧ frS l ≤ l.length := by
  rw [← cntF_all h.va]; exact cntF_bd l l.length
theorem flat_bd {ll : List (List Int)} {cap : Int} (h : NOk ll cap) : ∀ c, c ≤ ll.length → (((ll.take c).flatten.length : Nat) : Int) ≤ cap * c
  | 0, _ => by simp
  | c + 1, hc => by
    have ih := flat_bd h c (by omega)
    have h1 := h.lens _ (nth_mem (show c < ll.length by omega))
    rw [flat_next (by omega), List.length_append]
    have e : cap * ((c + 1 : Nat) : Int) = cap * c + cap := by push_cast; rw [Int.mul_add, Int.mul_one]
    rw [e]; push_cast; omega
set_option maxRecDepth 100000 in
set_option maxHeartbeats 3200000 in
theorem left40_spec (h : ZC w0 w z p q m v F l ll D n) :
    Calls Try.prog 40 #[.pointer (some ⟨z, 0, none⟩)] w fun e w' => e = .returned (.int .i64 (frS l + ll.flatten.length)) ∧ Ext No w w' := by
  have z0 := h.c.cell' (i := 0) rfl
  have hle := h.b.i.le
  obtain ⟨hs0, hs1⟩ := frS_bd h.b.i
  have hn8 := h.e.ok.n8
  have hbd := flat_bd h.e.ok
  obtain ⟨nn, hnn⟩ : ∃ nn, ll.length = nn := ⟨_, rfl⟩
  obtain ⟨S, hS⟩ : ∃ S, frS l = S := ⟨_, rfl⟩
  rw [hS] at hs0 hs1 ⊢
  have hlf := bt_left h.b hS
  have hnn' := Lib.hid hnn
  have hbd' := Lib.hid hbd
  rw [hnn] at hn8
  clear hbd hS
  go_enter Try.func40, Try.ntmps40
  go_wp2_with fail
  refine (h.askA h.in0).mono ?_
  rintro e w1 ⟨rfl, rfl⟩
  go_wp2_with fail
  refine hlf.mono ?_
  rintro e w2 ⟨rfl, _, hx2⟩
  have h2 := h.extNo hx2
  have z2 := h2.c.cell' (i := 2) rfl
  rw [hnn] at z2
  clear h z0 hlf hnn
  go_wp2_with fail
  clear z2
  go_loopg [3, 17] nn (fun g s i wr => ∃ c : Nat, c + g = nn ∧ s = .int .i64 (S + (ll.take c).flatten.length) ∧ i = .int .i64 c ∧ Ext No w2 wr)
  case atStart => exact ⟨0, by omega, by simp, rfl, Ext.refl _ _⟩
  case round =>
    obtain ⟨c, hg, rfl, rfl, hx⟩ := hrel
    obtain ⟨wz, hwz⟩ : ∃ wz, wr = wz := ⟨_, rfl⟩
    rw [hwz] at hx ⊢
    clear hwz
    have hg' := Lib.hid hg
    have hcn : c ≤ nn := by omega
    clear hg
    by_cases hlt : c < nn
    · have hlt' : c < ll.length := by rw [hnn'.out]; exact hlt
      have hd : decide ((c : Int) < nn) = true := decide_eq_true (by omega)
      have e3 := Lib.hid (flat_next hlt')
      have hb1 := hbd'.out (c + 1) (by omega)
      rw [e3.out, List.length_append] at hb1
      obtain ⟨T, hT⟩ : ∃ T, (ll.take c).flatten.length = T := ⟨_, rfl⟩
      have hli : listIn ll c = nth ll c := by
        have hi : inR ll c = true := by unfold inR; rw [decide_eq_true (by omega), decide_eq_true (by omega)]; rfl
        rw [(listIn_in hi).1, Int.toNat_natCast]
      have hz := h2.extNo hx
      have z1 := hz.c.cell' (i := 1) rfl
      have hspec := nt_list hz.e (c : Int) hli
      obtain ⟨A, hA⟩ : ∃ A, nth ll c = A := ⟨_, rfl⟩
      rw [hA] at hb1 hspec e3
      rw [hT] at hb1 ⊢
      have hT' := Lib.hid hT
      clear hT hA hli
      go_wp2_with fail
      refine hspec.mono ?_
      rintro e w3 ⟨r, rfl, _, ha, hx3⟩
      obtain ⟨a, cap, rfl, _, _⟩ := ha.val
      have hx3' := hx.transNo hx3
      clear ha hx3 hspec hz z1 hx
      have hw : IntKind.i64.wrap (S + (T : Int) + (A.length : Int)) = S + ((T + A.length : Nat) : Int) := by rw [IntKind.wrap_i64]; omega
      have hw' := Lib.hid hw
      clear hw
      have hw := hw'.out
      go_wp2_with fail
      go_roundg (nn - (c + 1))
      case measure => have := hg'.out; omega
      case rel => exact ⟨c + 1, by omega, by rw [e3.out, List.length_append, hT'.out]; try go_num, by go_num, hx3'⟩
    · have hd : decide ((c : Int) < nn) = false := decide_eq_false (by omega)
      obtain rfl : c = nn := by omega
      have e9 : Hid ((ll.take c).flatten = ll.flatten) := by show _ = _; rw [← hnn'.out, List.take_length]
      go_wp2_with fail
      go_ret
      rw [e9.out]
      exact ⟨rfl, hx2.transNo hx⟩
end
end Go.Proofs.Ytjkknjohmekeiaa
