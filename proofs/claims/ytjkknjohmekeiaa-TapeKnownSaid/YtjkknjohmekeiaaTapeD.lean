/- Copies and comparisons of bytes, numbers and scripts. Lengths of copies at most 2^47 bytes. -/
import Derived.Test.YtjkknjohmekeiaaTapeS
import Derived.Test.YtjkknjohmekeiaaApp
import Derived.Test.YtjkknjohmekeiaaAny
import Derived.Laws.BytesArg
import Derived.WideShapes
namespace Go.Proofs.Ytjkknjohmekeiaa
open Go.RowKit

set_option maxHeartbeats 800000 in
theorem copyBytes_spec (w : World) (v : Value) (l : List Nat) (F : Nat → Prop) (hb : RdB F w v l) (hlen : l.length ≤ 140737488355328) :
    Calls Try.prog 24 #[v] w fun e w' => ∃ r, e = .returned r ∧ (RdB (OwnOf r) w' r l ∧ w'.ownsRow w.heap.size 5 1 r l.length (l.map byt)) ∧ Ext No w w' := by
  go_enter Try.func24, Try.ntmps24
  go_wp2_with (at_builtin; refine stop_here ?_)
  refine Stop.mk ?_
  refine wpList_app (v := .slice none 0 0) ty_byte rfl _ _ rfl rfl (World.ownsRow_nil w w.heap.size 5 1) rfl hb.1 (by simp [byt, Value.oneCell']) (by omega) (by unfold maxLen; omega) (Nat.le_refl _) ?_
  intro v' w' hown hx _ hfr
  simp only [Nat.zero_add, List.nil_append] at hown
  go_wp2_with fail
  go_ret
  have hx' : Ext No w w' := hx.mono (fun x _ (h : OwnOf _ x) => by simp [OwnOf, Value.ownBlock] at h)
  exact ⟨_, rfl, ⟨⟨Rd.of_own hown, hb.2⟩, hown⟩, hx'⟩

set_option maxHeartbeats 800000 in
theorem copyInts_spec (w : World) (v : Value) (l : List Int) (F : Nat → Prop) (hb : RdI F w v l) (hlen : l.length * 8 ≤ 140737488355328) :
    Calls Try.prog 36 #[v] w fun e w' => ∃ r, e = .returned r ∧ (RdI (OwnOf r) w' r l ∧ w'.ownsRow w.heap.size 3 1 r l.length (l.map int)) ∧ Ext No w w' := by
  go_enter Try.func36, Try.ntmps36
  go_wp2_with (at_builtin; refine stop_here ?_)
  refine Stop.mk ?_
  refine wpList_app (v := .slice none 0 0) ty_int rfl _ _ rfl rfl (World.ownsRow_nil w w.heap.size 3 1) rfl hb (by simp [int, Value.oneCell']) (by omega) (by unfold maxLen; omega) (Nat.le_refl _) ?_
  intro v' w' hown hx _ hfr
  simp only [Nat.zero_add, List.nil_append] at hown
  go_wp2_with fail
  go_ret
  have hx' : Ext No w w' := hx.mono (fun x _ (h : OwnOf _ x) => by simp [OwnOf, Value.ownBlock] at h)
  exact ⟨_, rfl, ⟨Rd.of_own hown, hown⟩, hx'⟩

def strOf (l : List Nat) : ByteArray := strOfNums (l.map fun (x : Nat) => (x : Int))
theorem conv_run (w : World) (v : Value) (l : List Nat) (F : Nat → Prop) (hb : RdB F w v l) : (convert 22 9 v).run Try.prog w = .ok (.string (strOf l)) w := by
  cases l with
  | nil =>
    obtain ⟨a, cap, rfl, _, _⟩ := hb.1.val
    show (convert 22 9 (.slice a 0 cap)).run Try.prog w = _
    rw [run_convert_bytes_string w 22 9 5 a 0 cap Try.underlying22 Try.underlying5 Try.underlying9]
    cases a with
    | none => simp [Conv.bytesToString]; rfl
    | some a => rw [run_bytesToString w a 0 cap [] (by simp [loadCells, loadCellsFrom])]; rfl
  | cons x l =>
    obtain ⟨b, off, cap, rfl, h2, h3, h4, h6, h7⟩ := hb.1.open_ (by simp)
    refine run_convert_bytes_arg (P := Try.prog) w 22 5 Try.underlying22 Try.underlying5 b off _ cap _ (by simp) (fun i hi => ?_) 9 Try.underlying9
    have := h7 i (byt ((x :: l)[i])) (by rw [List.getElem?_map, List.getElem?_eq_getElem hi]; rfl)
    rw [this]
    simp only [byt, List.getD, List.getElem?_map, List.getElem?_eq_getElem hi, Option.map_some, Option.getD_some]
theorem strOf_inj {l m : List Nat} (hl : ∀ x ∈ l, x < 256) (hm : ∀ x ∈ m, x < 256) (h : strOf l = strOf m) : l = m := by
  have h2 : (strOf l).data.toList = (strOf m).data.toList := by rw [h]
  unfold strOf at h2
  rw [strOfNums_data, strOfNums_data, List.map_map, List.map_map] at h2
  have e : ∀ k : List Nat, (∀ x ∈ k, x < 256) → ((k.map ((fun n : Int => UInt8.ofNat n.toNat) ∘ fun (x : Nat) => (x : Int))).map UInt8.toNat) = k := by
    intro k hk
    rw [List.map_map]
    conv => rhs; rw [← List.map_id k]
    apply List.map_congr_left
    intro x hx
    have := hk x hx
    simp; omega
  rw [← e l hl, ← e m hm, h2]

set_option maxHeartbeats 800000 in
theorem eqBytes_spec (w : World) (a b : Value) (l m : List Nat) (F G : Nat → Prop) (ha : RdB F w a l) (hb : RdB G w b m) :
    Calls Try.prog 28 #[a, b] w fun e w' => e = .returned (.bool (decide (l = m))) ∧ w = w' := by
  have h1 := conv_run w a l F ha
  have h2 := conv_run w b m G hb
  have h3 : Hid (((strOf l).toList == (strOf m).toList) = decide (l = m)) := by
    show _ = _
    by_cases h : l = m
    · subst h; simp
    · have : strOf l ≠ strOf m := fun e => h (strOf_inj ha.2 hb.2 e)
      have h4 : (strOf l).toList ≠ (strOf m).toList := fun e => this (by
        rw [Go.ByteArray.toList_eq, Go.ByteArray.toList_eq] at e
        exact Go.WideShapes.bytes_inj e)
      simp [h, h4]
  go_enter Try.func28, Try.ntmps28
  go_wp2_with fail
  go_ret
  exact ⟨by rw [← h3.out]; rfl, rfl⟩

set_option maxHeartbeats 800000 in
theorem eqInts_spec (w : World) (a b : Value) (xs ys : List Int) (F G : Nat → Prop) (ha : RdI F w a xs) (hb : RdI G w b ys) :
    Calls Try.prog 37 #[a, b] w fun e w' => e = .returned (.bool (decide (xs = ys))) ∧ ∃ n, w' = w.drewN n := by
  obtain ⟨a1, cap1, rfl, hc1, hc1'⟩ := Rd.val ha
  obtain ⟨a2, cap2, rfl, hc2, hc2'⟩ := Rd.val hb
  by_cases hl : xs.length = ys.length
  · obtain ⟨n, hn⟩ : ∃ n, xs.length = n := ⟨_, rfl⟩
    have hn2 : ys.length = n := by omega
    have hpost : (∀ i, i < n → nth xs i = nth ys i) → decide (xs = ys) = true := by
      intro h
      simp only [decide_eq_true_eq]
      apply List.ext_getElem hl
      intro i h1 h2
      have := h i (by omega)
      rwa [nth_eq h1, nth_eq h2] at this
    unfold RdI at ha hb
    rw [hn] at ha ⊢
    rw [hn2] at hb ⊢
    have hpost' := Lib.hid hpost
    have hne : ((n : Int) != (n : Int)) = false := by simp
    rw [hn] at hc1; rw [hn2] at hc2
    have hnx := Lib.hid hn; have hny := Lib.hid hn2
    clear hpost hn hn2 hl
    go_enter Try.func37, Try.ntmps37
    go_wp2
    go_loopg [5] n (fun g i wr => ∃ k : Nat, k + g = n ∧ i = .int .i64 k ∧ (∀ j, j < k → nth xs j = nth ys j) ∧ ∃ m, wr = w.drewN m)
    case atStart => exact ⟨0, by omega, rfl, by omega, 0, rfl⟩
    case round =>
      obtain ⟨k, hk, rfl, heq, m, rfl⟩ := hrel
      have hk' := Lib.hid hk
      have hkn : k ≤ n := by omega
      have heq' := Lib.hid heq
      clear hk heq
      by_cases hlt : k < n
      · obtain ⟨b1, o1, rfl, _, _, c1⟩ := ha.at1 hlt
        obtain ⟨b2, o2, rfl, _, _, c2⟩ := hb.at1 hlt
        rw [List.getElem?_map, nth_some (by rw [hnx.out]; exact hlt)] at c1
        rw [List.getElem?_map, nth_some (by rw [hny.out]; exact hlt)] at c2
        simp only [Option.map_some, int] at c1 c2
        by_cases hv : nth xs k = nth ys k
        · have hv1 : (nth xs k != nth ys k) = false := by simp [hv]
          have hv' := Lib.hid hv; clear hv
          go_wp2
          go_quiet (fail)
          go_wp2
          go_roundg (n - (k + 1))
          case measure => have := hk'.out; omega
          case rel =>
            refine ⟨k + 1, by omega, by go_num, fun j hj => ?_, m + nq, rfl⟩
            by_cases hjk : j < k
            · exact heq'.out j hjk
            · obtain rfl : j = k := by omega
              exact hv'.out
        · have hv1 : (nth xs k != nth ys k) = true := by simp [hv]
          have hfin : Hid (decide (xs = ys) = false) := by
            show _ = _; simp only [decide_eq_false_iff_not]; intro h; exact hv (by rw [h])
          clear hv
          go_wp2
          go_quiet (fail)
          go_wp2
          go_ret
          exact ⟨by rw [hfin.out]; rfl, m + nq, by simp⟩
      · go_wp2
        go_ret
        have := hpost'.out (fun i hi => heq'.out i (by omega))
        exact ⟨by rw [this]; rfl, m, rfl⟩
  · have hne : ((xs.length : Int) != (ys.length : Int)) = true := by simp; omega
    have hfin : Hid (decide (xs = ys) = false) := by
      show _ = _; simp only [decide_eq_false_iff_not]; intro h; exact hl (by rw [h])
    clear hl
    go_enter Try.func37, Try.ntmps37
    go_wp2
    go_ret
    exact ⟨by rw [hfin.out]; rfl, 0, rfl⟩

/-! ### Scripts -/
theorem RdCC.val {F G : Nat → Prop} {w : World} {v : Value} {ll : List (List Cl)} (h : RdCC F G w v ll) : ∃ a cap, v = .slice a ll.length cap ∧ ll.length ≤ cap ∧ cap ≤ 9223372036854775807 := by
  obtain ⟨vs, _, h, _⟩ := h
  exact h.val
/-- The row at a place. -/
theorem RdCC.at {F G : Nat → Prop} {w : World} {a : Option Addr} {n cap : Nat} {ll : List (List Cl)} (h : RdCC F G w (.slice a n cap) ll) {i : Nat} (hi : i < ll.length) :
    ∃ b off ai ci, a = some ⟨b, off, none⟩ ∧ w.cell? ⟨b, off + i, none⟩ = some (.slice ai (nth ll i).length ci) ∧ RdC G w (.slice ai (nth ll i).length ci) (nth ll i) ∧ (nth ll i).length ≤ ci ∧ ci ≤ 9223372036854775807 := by
  obtain ⟨vs, h1, h2, h3⟩ := h
  have hn : n = ll.length := by obtain ⟨_, _, e, _⟩ := h2; cases e; rfl
  subst hn
  obtain ⟨b, off, e, _, _, hc⟩ := h2.at1 hi
  have hr := h3 i hi
  obtain ⟨ai, ci, e2, h5, h6⟩ := Rd.val hr
  refine ⟨b, off, ai, ci, e, ?_, e2 ▸ hr, h5, h6⟩
  rw [hc, nth_some (by omega), e2]
/-- The four cells of a call at a place. -/
theorem RdC.at {F : Nat → Prop} {w : World} {a : Option Addr} {n cap : Nat} {l : List Cl} (h : RdC F w (.slice a n cap) l) {k : Nat} (hk : k < l.length) :
    ∃ b off, a = some ⟨b, off, none⟩ ∧ b < w.heap.size ∧ F b ∧ w.cell? ⟨b, off + k * 4, none⟩ = some (.int .i64 (nth l k).op) ∧ w.cell? ⟨b, off + k * 4 + 1, none⟩ = some (.int .i64 (nth l k).a) ∧
      w.cell? ⟨b, off + k * 4 + 2, none⟩ = some (.int .i64 (nth l k).b) ∧ w.cell? ⟨b, off + k * 4 + 3, none⟩ = some (.int .i64 (nth l k).c) := by
  obtain ⟨b, off, cap', e, _, _, hF, hlt, hc⟩ := Rd.open_ h (by omega)
  cases e
  refine ⟨b, off, rfl, hlt, hF, ?_, ?_, ?_, ?_⟩
  · exact hc (k * 4) _ (clsCells_at (i := 0) hk (by omega))
  · rw [Nat.add_assoc]; exact hc (k * 4 + 1) _ (clsCells_at (i := 1) hk (by omega))
  · rw [Nat.add_assoc]; exact hc (k * 4 + 2) _ (clsCells_at (i := 2) hk (by omega))
  · rw [Nat.add_assoc]; exact hc (k * 4 + 3) _ (clsCells_at (i := 3) hk (by omega))

theorem Cl.ne_cases {x y : Cl} (h : ¬ x = y) : (x.op == y.op) = false ∨ ((x.op == y.op) = true ∧ (x.a == y.a) = false) ∨ ((x.op == y.op) = true ∧ (x.a == y.a) = true ∧ (x.b == y.b) = false) ∨
    ((x.op == y.op) = true ∧ (x.a == y.a) = true ∧ (x.b == y.b) = true ∧ (x.c == y.c) = false) := by
  simp only [beq_eq_false_iff_ne, beq_iff_eq]
  by_cases h1 : x.op = y.op
  · by_cases h2 : x.a = y.a
    · by_cases h3 : x.b = y.b
      · by_cases h4 : x.c = y.c
        · exfalso; apply h; cases x; cases y; simp only at h1 h2 h3 h4; rw [h1, h2, h3, h4]
        · exact .inr (.inr (.inr ⟨h1, h2, h3, h4⟩))
      · exact .inr (.inr (.inl ⟨h1, h2, h3⟩))
    · exact .inr (.inl ⟨h1, h2⟩)
  · exact .inl h1
set_option maxRecDepth 100000 in
set_option maxHeartbeats 1600000 in
theorem same26_spec (w : World) (va vb : Value) (a b : Scr) (F G : Nat → Prop) (ha : RdS F w va a) (hb : RdS G w vb b) :
    Calls Try.prog 26 #[va, vb] w fun e w' => e = .returned (.bool (decide (a = b))) ∧ Ext No w w' := by
  obtain ⟨c1, p1, rfl, hc1, hp1⟩ := ha
  obtain ⟨c2, p2, rfl, hc2, hp2⟩ := hb
  obtain ⟨ac1, kc1, rfl, _, _⟩ := hc1.val
  obtain ⟨ac2, kc2, rfl, _, _⟩ := hc2.val
  obtain ⟨ap1, kp1, rfl, _, _⟩ := Rd.val hp1
  obtain ⟨ap2, kp2, rfl, _, _⟩ := Rd.val hp2
  have hX : Ext No w ((w.alloc (.cells #[.int .i64 a.cpus, .int .i64 a.pages, .slice ac1 a.calls.length kc1, .slice ap1 a.picks.length kp1] 27)).alloc (.cells #[.int .i64 b.cpus, .int .i64 b.pages, .slice ac2 b.calls.length kc2, .slice ap2 b.picks.length kp2] 27)) := ((Ext.refl _ _).alloc _).alloc _
  by_cases h1 : a.cpus = b.cpus
  · by_cases h2 : a.pages = b.pages
    · by_cases h3 : a.calls.length = b.calls.length
      · have g1 : (a.cpus != b.cpus) = false := by simp [h1]
        have g2 : (a.pages != b.pages) = false := by simp [h2]
        have g3 : ((a.calls.length : Int) != (b.calls.length : Int)) = false := by simp [h3]
        have h1' := Lib.hid h1; have h2' := Lib.hid h2; have h3' := Lib.hid h3
        clear h1 h2 h3
        go_enter Try.func26, Try.ntmps26
        go_wp2_with fail
        refine (eqInts_spec _ _ _ _ _ F G (hp1.extNo hX) (hp2.extNo hX)).mono ?_
        rintro e w1 ⟨rfl, m0, hw1⟩
        have hX1 : Ext No w w1 := by rw [hw1]; exact hX.drewN _
        have hA : Blk w1 w.heap.size [.int .i64 a.cpus, .int .i64 a.pages, .slice ac1 a.calls.length kc1, .slice ap1 a.picks.length kp1] 27 := by rw [hw1]; exact ((Blk.new _ _ _).alloc _).drewN _
        have hB : Blk w1 (w.heap.size + 1) [.int .i64 b.cpus, .int .i64 b.pages, .slice ac2 b.calls.length kc2, .slice ap2 b.picks.length kp2] 27 := by rw [hw1]; exact (Blk.new' (by simp)).drewN _
        clear hw1 hX
        by_cases hpk : a.picks = b.picks
        · have g4 : decide (a.picks = b.picks) = true := by simp [hpk]
          rw [g4]
          clear g4
          have hpk' := Lib.hid hpk; clear hpk
          have cA := hA.cell' (i := 2) rfl
          have cB := hB.cell' (i := 2) rfl
          have hc1 := hc1.ext hX1 (fun _ _ => id) (fun _ _ => id)
          have hc2 := hc2.ext hX1 (fun _ _ => id) (fun _ _ => id)
          go_wp2_with fail
          go_loopg [5] a.calls.length (fun g i wr => ∃ k : Nat, k + g = a.calls.length ∧ i = .int .i64 k ∧ (∀ j, j < k → nth a.calls j = nth b.calls j) ∧ ∃ m, wr = w1.drewN m)
          case atStart => exact ⟨0, by omega, rfl, by omega, 0, rfl⟩
          case round =>
            obtain ⟨k, hk, rfl, heq, m, rfl⟩ := hrel
            have hk' := Lib.hid hk
            have hkn : k ≤ a.calls.length := by omega
            have heq' := Lib.hid heq
            clear hk heq
            by_cases hlt : k < a.calls.length
            · have hlt2 : k < b.calls.length := by have := h3'.out; omega
              obtain ⟨b1, o1, ai, ci, rfl, r1, q1, _, _⟩ := hc1.at hlt
              obtain ⟨b2, o2, aj, cj, rfl, r2, q2, _, _⟩ := hc2.at hlt2
              by_cases hle : (nth a.calls k).length = (nth b.calls k).length
              · have g5 : (((nth a.calls k).length : Int) != ((nth b.calls k).length : Int)) = false := by simp [hle]
                have hle' := Lib.hid hle; clear hle
                go_wp2
                go_quiet (fail)
                go_wp2
                clear g5
                go_loopg [6] (nth a.calls k).length (fun g i wr => ∃ t : Nat, t + g = (nth a.calls k).length ∧ i = .int .i64 t ∧ (∀ j, j < t → nth (nth a.calls k) j = nth (nth b.calls k) j) ∧ ∃ m, wr = w1.drewN m)
                case atStart => exact ⟨0, by omega, rfl, by omega, m + nq, by simp⟩
                case round =>
                  obtain ⟨t, ht, rfl, hte, m', rfl⟩ := hrel
                  have ht' := Lib.hid ht
                  have htn : t ≤ (nth a.calls k).length := by omega
                  have hte' := Lib.hid hte
                  clear ht hte
                  by_cases htl : t < (nth a.calls k).length
                  · have htl2 : t < (nth b.calls k).length := by have := hle'.out; omega
                    obtain ⟨b3, o3, rfl, _, _, x0, x1, x2, x3⟩ := q1.at htl
                    obtain ⟨b4, o4, rfl, _, _, y0, y1, y2, y3⟩ := q2.at htl2
                    by_cases hv : nth (nth a.calls k) t = nth (nth b.calls k) t
                    · have hv' := Lib.hid hv
                      rw [hv] at x0 x1 x2 x3
                      clear hv
                      go_wp2
                      go_quiet (fail)
                      go_wp2
                      go_roundg ((nth a.calls k).length - (t + 1))
                      case measure => have := ht'.out; omega
                      case rel =>
                        refine ⟨t + 1, by omega, by go_num, fun j hj => ?_, m' + nq, by simp⟩
                        by_cases hjt : j < t
                        · exact hte'.out j hjt
                        · obtain rfl : j = t := by omega
                          exact hv'.out
                    · have hfin : Hid (decide (a = b) = false) := by show _ = _; simp only [decide_eq_false_iff_not]; intro h; exact hv (by rw [h])
                      rcases Cl.ne_cases hv with e1 | ⟨e1, e2⟩ | ⟨e1, e2, e3⟩ | ⟨e1, e2, e3, e4⟩
                      all_goals
                        clear hv
                        go_wp2
                        go_quiet (fail)
                        go_wp2
                        go_ret
                        exact ⟨by rw [hfin.out]; rfl, (hX1.drewN _).drewN _⟩
                  · go_wp2
                    go_roundg (a.calls.length - (k + 1))
                    case measure => have := hk'.out; omega
                    case rel =>
                      refine ⟨k + 1, by omega, by go_num, fun j hj => ?_, m', rfl⟩
                      by_cases hjk : j < k
                      · exact heq'.out j hjk
                      · obtain rfl : j = k := by omega
                        apply List.ext_getElem hle'.out
                        intro i h1 h2
                        have := hte'.out i (by omega)
                        rwa [nth_eq h1, nth_eq h2] at this
              · have g5 : (((nth a.calls k).length : Int) != ((nth b.calls k).length : Int)) = true := by simp; omega
                have hfin : Hid (decide (a = b) = false) := by show _ = _; simp only [decide_eq_false_iff_not]; intro h; exact hle (by rw [h])
                clear hle
                go_wp2
                go_quiet (fail)
                go_wp2
                go_ret
                exact ⟨by rw [hfin.out]; rfl, (hX1.drewN _).drewN _⟩
            · go_wp2
              go_ret
              have hfin : decide (a = b) = true := by
                simp only [decide_eq_true_eq]
                have hcc : a.calls = b.calls := by
                  apply List.ext_getElem h3'.out
                  intro i h1 h2
                  have := heq'.out i (by omega)
                  rwa [nth_eq h1, nth_eq h2] at this
                have e1 := h1'.out; have e2 := h2'.out; have e3 := hpk'.out
                cases a; cases b
                simp only at e1 e2 e3 hcc
                rw [e1, e2, e3, hcc]
              exact ⟨by rw [hfin]; rfl, hX1.drewN _⟩
        · have g4 : decide (a.picks = b.picks) = false := by simp [hpk]
          have hfin : Hid (decide (a = b) = false) := by show _ = _; simp only [decide_eq_false_iff_not]; intro h; exact hpk (by rw [h])
          rw [g4]
          clear hpk g4
          go_wp2_with fail
          go_ret
          exact ⟨by rw [hfin.out]; rfl, hX1⟩
      · have g1 : (a.cpus != b.cpus) = false := by simp [h1]
        have g2 : (a.pages != b.pages) = false := by simp [h2]
        have g3 : ((a.calls.length : Int) != (b.calls.length : Int)) = true := by simp; omega
        have hfin : Hid (decide (a = b) = false) := by show _ = _; simp only [decide_eq_false_iff_not]; intro h; exact h3 (by rw [h])
        clear h1 h2 h3
        go_enter Try.func26, Try.ntmps26
        go_wp2_with fail
        go_ret
        exact ⟨by rw [hfin.out]; rfl, hX⟩
    · have g1 : (a.cpus != b.cpus) = false := by simp [h1]
      have g2 : (a.pages != b.pages) = true := by simp [h2]
      have hfin : Hid (decide (a = b) = false) := by show _ = _; simp only [decide_eq_false_iff_not]; intro h; exact h2 (by rw [h])
      clear h1 h2
      go_enter Try.func26, Try.ntmps26
      go_wp2_with fail
      go_ret
      exact ⟨by rw [hfin.out]; rfl, hX⟩
  · have g1 : (a.cpus != b.cpus) = true := by simp [h1]
    have hfin : Hid (decide (a = b) = false) := by show _ = _; simp only [decide_eq_false_iff_not]; intro h; exact h1 (by rw [h])
    clear h1
    go_enter Try.func26, Try.ntmps26
    go_wp2_with fail
    go_ret
    exact ⟨by rw [hfin.out]; rfl, hX⟩

end Go.Proofs.Ytjkknjohmekeiaa
