/- The document's near pages: has, Has, New, List, Drain, Take. No condition. -/
import Derived.Test.YtjkknjohmekeiaaNearH
import Derived.Test.YtjkknjohmekeiaaAny
namespace Go.Proofs.Ytjkknjohmekeiaa
open Go.RowKit

abbrev RR (w : World) (nb lb base : Nat) (vs : List Value) (ll : List (List Int)) (cap : Int) : Prop := NearR w nb lb base vs ll cap 148

theorem rnear_has1 (w : World) (nb lb base : Nat) (vs : List Value) (ll : List (List Int)) (cap : Int) (h : RR w nb lb base vs ll cap) (c : Int) :
    Calls Try.prog 103 #[.pointer (some ⟨nb, 0, none⟩), .int .i64 c] w fun e w' => e = .returned (.bool (inR ll c)) ∧ w = w' := by
  have n0 := h.n.cell' (i := 0) rfl
  cases hi : inR ll c
  · obtain ⟨_, hc⟩ := listIn_out hi
    by_cases h0 : c < 0
    · clear hc hi
      go_enter Try.func103, Try.ntmps103
      go_wp2_with fail
      go_ret
      exact ⟨rfl, rfl⟩
    · have h1 : (ll.length : Int) ≤ c := by omega
      have h2 : 0 ≤ c := by omega
      have h5 : decide (c < (ll.length : Int)) = false := by simp; omega
      clear hc hi
      go_enter Try.func103, Try.ntmps103
      go_wp2_with fail
      go_ret
      exact ⟨rfl, rfl⟩
  · obtain ⟨_, h1, h2⟩ := listIn_in hi
    have h3 : 0 ≤ c := by omega
    have h4 : c < ll.length := by omega
    clear h1 h2 hi
    go_enter Try.func103, Try.ntmps103
    go_wp2_with fail
    go_ret
    exact ⟨rfl, rfl⟩

set_option maxRecDepth 100000 in
set_option maxHeartbeats 1600000 in
theorem rnear_has (w : World) (nb lb base : Nat) (vs : List Value) (ll : List (List Int)) (cap : Int) (h : RR w nb lb base vs ll cap) (x : Int) :
    Calls Try.prog 100 #[.pointer (some ⟨nb, 0, none⟩), .int .i64 x] w fun e w' => e = .returned (.bool (hasIn ll x)) ∧ w = w' := by
  have n0 := h.n.cell' (i := 0) rfl
  have hn := h.nums
  have hrd := h.rd
  have hno := any_none (l := ll) (p := fun l => l.any fun n => x == n)
  have hno' := Lib.hid hno; clear hno
  go_enter Try.func100, Try.ntmps100
  go_wp2_with fail
  go_loopg [5] ll.length (fun g i wr => ∃ k : Nat, k + g = ll.length ∧ i = .int .i64 k ∧ (∀ j, j < k → ((nth ll j).any fun n => x == n) = false) ∧ wr = w)
  case atStart => exact ⟨0, by omega, rfl, by omega, rfl⟩
  case round =>
    obtain ⟨k, hk, rfl, hall, rfl⟩ := hrel
    have hk' := Lib.hid hk; have hall' := Lib.hid hall
    have hkn : k ≤ ll.length := by omega
    clear hk hall
    by_cases hlt : k < ll.length
    · obtain ⟨b, off, ai, ci, e0, _, x0, q0, _, _⟩ := hrd.at hlt
      cases e0
      simp only [Nat.zero_add] at x0
      have hno2 := any_none (l := nth ll k) (p := fun n => x == n)
      have hno2' := Lib.hid hno2; clear hno2
      go_wp2_with fail
      go_loopg [6] (nth ll k).length (fun g i wr2 => ∃ m : Nat, m + g = (nth ll k).length ∧ i = .int .i64 m ∧ (∀ j, j < m → (x == nth (nth ll k) j) = false) ∧ wr2 = wr)
      case atStart => exact ⟨0, by omega, rfl, by omega, rfl⟩
      case round =>
        obtain ⟨m, hm, rfl, hall2, rfl⟩ := hrel
        have hm' := Lib.hid hm; have hall2' := Lib.hid hall2
        have hmn : m ≤ (nth ll k).length := by omega
        clear hm hall2
        by_cases hlt2 : m < (nth ll k).length
        · obtain ⟨b2, off2, rfl, _, _, x1⟩ := Rd.at1 q0 hlt2
          rw [List.getElem?_map, nth_some hlt2] at x1
          simp only [Option.map_some, int] at x1
          cases hc : (x == nth (nth ll k) m)
          · have hc' := Lib.hid hc
            have hc2 : (nth (nth ll k) m == x) = false := by rw [beq_eq_false_iff_ne] at hc ⊢; exact fun e => hc e.symm
            clear hc
            go_wp2_with fail
            go_roundg ((nth ll k).length - (m + 1))
            case measure => have := hm'.out; omega
            case rel =>
              refine ⟨m + 1, by omega, by go_num, fun j hj => ?_, rfl⟩
              by_cases hjm : j < m
              · exact hall2'.out j hjm
              · obtain rfl : j = m := by omega
                exact hc'.out
          · have hc2 : (nth (nth ll k) m == x) = true := by rw [beq_iff_eq] at hc ⊢; exact hc.symm
            have hr : Hid (hasIn ll x = true) := by
              show _ = _
              unfold hasIn
              exact any_of_nth (p := fun l => l.any fun n => x == n) hlt (any_of_nth (p := fun n => x == n) hlt2 hc)
            clear hc
            go_wp2_with fail
            go_ret
            exact ⟨by rw [hr.out]; rfl, rfl⟩
        · have hx : Hid (((nth ll k).any fun n => x == n) = false) := hno2'.out (fun j hj => hall2'.out j (by omega))
          go_wp2_with fail
          go_roundg (ll.length - (k + 1))
          case measure => have := hk'.out; omega
          case rel =>
            refine ⟨k + 1, by omega, by go_num, fun j hj => ?_, rfl⟩
            by_cases hjk : j < k
            · exact hall'.out j hjk
            · obtain rfl : j = k := by omega
              exact hx.out
    · have hr : Hid (hasIn ll x = false) := hno'.out (fun j hj => hall'.out j (by omega))
      go_wp2_with fail
      go_ret
      exact ⟨by rw [hr.out]; rfl, rfl⟩

set_option maxRecDepth 100000 in
set_option maxHeartbeats 800000 in
theorem rnear_new (w : World) (cpus cap : Int) :
    Calls Try.prog 46 #[.int .i64 cpus, .int .i64 cap] w fun e w' =>
      if (1 ≤ cpus ∧ cpus ≤ 8) ∧ 0 ≤ cap ∧ cap ≤ 64 then
        (∃ nb lb, e = .returned (.tuple #[.pointer (some ⟨nb, 0, none⟩), .int .i64 0]) ∧ RR w' nb lb w'.heap.size (List.replicate cpus.toNat (.slice none 0 0)) (List.replicate cpus.toNat []) cap ∧ w.heap.size ≤ nb ∧ w.heap.size ≤ lb) ∧ Ext No w w'
      else e = .returned (.tuple #[.pointer none, .int .i64 2]) ∧ w = w' := by
  by_cases h1 : cpus < 1
  · have hn : Hid (¬ ((1 ≤ cpus ∧ cpus ≤ 8) ∧ 0 ≤ cap ∧ cap ≤ 64)) := by show ¬ _; omega
    go_enter Try.func46, Try.ntmps46
    go_wp2_with fail
    go_ret2
    exact ⟨rfl, rfl⟩
  · by_cases h2 : 8 < cpus
    · have hn : Hid (¬ ((1 ≤ cpus ∧ cpus ≤ 8) ∧ 0 ≤ cap ∧ cap ≤ 64)) := by show ¬ _; omega
      go_enter Try.func46, Try.ntmps46
      go_wp2_with fail
      go_ret2
      exact ⟨rfl, rfl⟩
    · by_cases h3 : cap < 0
      · have hn : Hid (¬ ((1 ≤ cpus ∧ cpus ≤ 8) ∧ 0 ≤ cap ∧ cap ≤ 64)) := by show ¬ _; omega
        go_enter Try.func46, Try.ntmps46
        go_wp2_with fail
        go_ret2
        exact ⟨rfl, rfl⟩
      · by_cases h4 : 64 < cap
        · have hn : Hid (¬ ((1 ≤ cpus ∧ cpus ≤ 8) ∧ 0 ≤ cap ∧ cap ≤ 64)) := by show ¬ _; omega
          go_enter Try.func46, Try.ntmps46
          go_wp2_with fail
          go_ret2
          exact ⟨rfl, rfl⟩
        · have hy : Hid ((1 ≤ cpus ∧ cpus ≤ 8) ∧ 0 ≤ cap ∧ cap ≤ 64) := by show _ ∧ _; omega
          obtain ⟨n, rfl⟩ : ∃ n : Nat, cpus = (n : Int) := ⟨cpus.toNat, by omega⟩
          have hn8 : n ≤ 8 := by omega
          have hmk := mk_run mk_ll n (by omega) (by omega)
          rw [Nat.mul_one] at hmk
          go_enter Try.func46, Try.ntmps46
          go_wp2_with fail
          go_ret2
          have hB : Blk (w.alloc (.cells (Array.replicate n (.slice none 0 0)) 25)) w.heap.size (List.replicate n (.slice none 0 0)) 25 := by
            have := Blk.new' (w := w) (b := w.heap.size) (cs := List.replicate n (.slice none 0 0)) (T := 25) rfl
            simpa using this
          refine ⟨⟨w.heap.size + 1, rfl, w.heap.size, ⟨?_, hB.alloc _, by simp, fun i hi => ?_, fun i j x hi hj h => ?_, ?_⟩, by omega, by omega⟩, ((Ext.refl _ _).alloc _).alloc _⟩
          · simp only [Int.toNat_natCast, List.length_replicate]
            exact Blk.new' (by simp)
          · simp only [Int.toNat_natCast, List.length_replicate] at hi ⊢
            rw [nth_eq (by simpa using hi), nth_eq (by simpa using hi)]
            simp only [List.getElem_replicate]
            exact World.ownsRow_nil _ _ _ _
          · simp only [Int.toNat_natCast, List.length_replicate] at hi h
            rw [nth_eq (by simpa using hi)] at h
            simp [OwnOf, Value.ownBlock] at h
          · simp; omega

theorem rnear_list (w : World) (nb lb base : Nat) (vs : List Value) (ll : List (List Int)) (cap : Int) (h : RR w nb lb base vs ll cap) (c : Int) (hlen : ∀ l ∈ ll, l.length ≤ 1024) :
    Calls Try.prog 49 #[.pointer (some ⟨nb, 0, none⟩), .int .i64 c] w fun e w' => ∃ r, e = .returned r ∧ w'.ownsRow w.heap.size 3 1 r (listIn ll c).length ((listIn ll c).map int) ∧ Ext No w w' := by
  have n0 := h.n.cell' (i := 0) rfl
  cases hi : inR ll c
  · have hl := Lib.hid (listIn_out hi).1
    have hi' := Lib.hid hi; clear hi
    go_enter Try.func49, Try.ntmps49
    go_wp2_with fail
    refine (rnear_has1 w nb lb base vs ll cap h c).mono ?_
    rintro e w1 ⟨rfl, rfl⟩
    rw [hi'.out]
    go_wp2_with fail
    go_ret
    rw [hl.out]
    exact ⟨_, rfl, World.ownsRow_nil _ _ _ _, Ext.refl _ _⟩
  · obtain ⟨e0, hk, ek⟩ := listIn_in hi
    have hl := Lib.hid e0
    obtain ⟨k, rfl⟩ : ∃ k : Nat, c = (k : Int) := ⟨c.toNat, by omega⟩
    simp only [Int.toNat_natCast] at hk
    have hl2 := hlen (nth ll k) (nth_mem hk)
    obtain ⟨av, cv, ev, hcv⟩ := ownsRow_val (h.rows k hk)
    have hrow := h.rows k hk
    rw [ev] at hrow
    have c0 := h.l.cell' (i := k) (v := nth vs k) (nth_some (by rw [h.len]; exact hk))
    rw [ev] at c0
    have hi' := Lib.hid hi
    clear hi e0 ek hlen ev
    go_enter Try.func49, Try.ntmps49
    go_wp2_with fail
    refine (rnear_has1 w nb lb base vs ll cap h k).mono ?_
    rintro e w1 ⟨rfl, rfl⟩
    rw [hi'.out]
    go_wp2_with fail
    refine (copyInts_spec _ _ (nth ll k) _ (Rd.of_own hrow) (by omega)).mono ?_
    rintro e w2 ⟨r, rfl, ⟨_, ho⟩, hx⟩
    go_wp2_with fail
    go_ret
    rw [hl.out]
    exact ⟨_, rfl, ho, hx⟩

theorem rnear_drain (w : World) (nb lb base : Nat) (vs : List Value) (ll : List (List Int)) (cap : Int) (h : RR w nb lb base vs ll cap) (c : Nat) (hc : c < ll.length) :
    Calls Try.prog 99 #[.pointer (some ⟨nb, 0, none⟩), .int .i64 c] w fun e w' => e = .returned (nth vs c) ∧ w' = w.setCell ⟨lb, c, none⟩ (.slice none 0 0) ∧
      RR w' nb lb base (vs.set c (.slice none 0 0)) (ll.set c []) cap ∧ w'.ownsRow base 3 1 (nth vs c) (nth ll c).length ((nth ll c).map int) := by
  have hrow := h.rows c hc
  have hi' : Hid (inR ll (c : Int) = true) := by show _ = _; unfold inR; simp [hc]
  have n0 := h.n.cell' (i := 0) rfl
  obtain ⟨av, cv, ev, hcv⟩ := ownsRow_val hrow
  have hput := Lib.hid (h.put c hc (.slice none 0 0) [] (World.ownsRow_nil _ _ _ _) (fun j x _ _ ho => by simp [OwnOf, Value.ownBlock] at ho))
  have hrow' := Lib.hid (ownsRow_ext hrow (Ext.set1 w lb c (.slice none 0 0)) (fun x hx (e : x = lb) => by have := (hrow.lt x hx).1; have := h.nums; omega))
  have c0 := h.l.cell' (i := c) (v := nth vs c) (nth_some (by rw [h.len]; exact hc))
  have f0 := h.l.frozen c
  rw [ev] at c0 hrow' ⊢
  clear hrow ev
  go_enter Try.func99, Try.ntmps99
  go_wp2_with fail
  refine (rnear_has1 w nb lb base vs ll cap h c).mono ?_
  rintro e w1 ⟨rfl, rfl⟩
  rw [hi'.out]
  go_wp2_with fail
  go_ret
  exact ⟨rfl, rfl, hput.out, hrow'.out⟩
theorem rnear_drain_out (w : World) (nb lb base : Nat) (vs : List Value) (ll : List (List Int)) (cap : Int) (h : RR w nb lb base vs ll cap) (c : Int) (hi : inR ll c = false) :
    Calls Try.prog 99 #[.pointer (some ⟨nb, 0, none⟩), .int .i64 c] w fun e w' => e = .returned (.slice none 0 0) ∧ w = w' := by
  have hi' := Lib.hid hi; clear hi
  go_enter Try.func99, Try.ntmps99
  go_wp2_with fail
  refine (rnear_has1 w nb lb base vs ll cap h c).mono ?_
  rintro e w1 ⟨rfl, rfl⟩
  rw [hi'.out]
  go_wp2_with fail
  go_ret
  exact ⟨rfl, rfl⟩

theorem rnear_take_none (w : World) (nb lb base : Nat) (vs : List Value) (ll : List (List Int)) (cap : Int) (h : RR w nb lb base vs ll cap) (c : Int) (hi : inR ll c = false) :
    Calls Try.prog 98 #[.pointer (some ⟨nb, 0, none⟩), .int .i64 c] w fun e w' => e = .returned (.tuple #[.int .i64 0, .bool false]) ∧ w = w' := by
  have hi' := Lib.hid hi; clear hi
  go_enter Try.func98, Try.ntmps98
  go_wp2_with fail
  refine (rnear_has1 w nb lb base vs ll cap h c).mono ?_
  rintro e w1 ⟨rfl, rfl⟩
  rw [hi'.out]
  go_wp2_with fail
  go_ret2
  exact ⟨rfl, rfl⟩
theorem rnear_take_empty (w : World) (nb lb base : Nat) (vs : List Value) (ll : List (List Int)) (cap : Int) (h : RR w nb lb base vs ll cap) (c : Nat) (hc : c < ll.length) (hz : nth ll c = []) :
    Calls Try.prog 98 #[.pointer (some ⟨nb, 0, none⟩), .int .i64 c] w fun e w' => e = .returned (.tuple #[.int .i64 0, .bool false]) ∧ w = w' := by
  have hi' : Hid (inR ll (c : Int) = true) := by show _ = _; unfold inR; simp [hc]
  have n0 := h.n.cell' (i := 0) rfl
  have hrow := h.rows c hc
  rw [hz] at hrow
  obtain ⟨av, cv, ev, hcv⟩ := ownsRow_val hrow
  have c0 := h.l.cell' (i := c) (v := nth vs c) (nth_some (by rw [h.len]; exact hc))
  rw [ev] at c0
  simp only [List.length_nil] at c0
  clear hrow ev hz
  go_enter Try.func98, Try.ntmps98
  go_wp2_with fail
  refine (rnear_has1 w nb lb base vs ll cap h c).mono ?_
  rintro e w1 ⟨rfl, rfl⟩
  rw [hi'.out]
  go_wp2_with fail
  go_ret2
  exact ⟨rfl, rfl⟩

set_option maxRecDepth 100000 in
set_option maxHeartbeats 1600000 in
theorem rnear_take_at (w : World) (nb lb base : Nat) (vs : List Value) (ll : List (List Int)) (cap : Int) (h : RR w nb lb base vs ll cap) (c : Nat) (hc : c < ll.length) (n : Nat) (hz : (nth ll c).length = n + 1) (hbig : n < 4611686018427387904) :
    Calls Try.prog 98 #[.pointer (some ⟨nb, 0, none⟩), .int .i64 c] w fun e w' => e = .returned (.tuple #[.int .i64 (nth (nth ll c) n), .bool true]) ∧
      Ext (One lb) w w' ∧ ∃ v', RR w' nb lb base (vs.set c v') (ll.set c ((nth ll c).take n)) cap ∧ ∀ x, OwnOf v' x → OwnOf (nth vs c) x := by
  have hi' : Hid (inR ll (c : Int) = true) := by show _ = _; unfold inR; simp [hc]
  have n0 := h.n.cell' (i := 0) rfl
  have hrow := h.rows c hc
  rw [hz] at hrow
  obtain ⟨b, cv, ev, hcv, hcv2, hob, hbw, hcell, hfr, _⟩ := own_at (k := n) hrow (by omega)
  have e1 : nth ((nth ll c).map int) n = int (nth (nth ll c) n) := nth_map int (by omega)
  rw [e1] at hcell
  simp only [int] at hcell
  rw [ev] at hrow
  have hsh := own_shrink hrow (m := n) (by omega) (by simp)
  have e2 : ((nth ll c).map int).take n = ((nth ll c).take n).map int := by rw [List.map_take]
  have e3 : ((nth ll c).take n).length = n := by simp; omega
  rw [e2] at hsh
  have hput := Lib.hid (fun (q : Nat) => (h.ext (Ext.refl No w |>.drewN q) (fun _ _ => id)).put c hc (.slice (some ⟨b, 0, none⟩) n cv) ((nth ll c).take n) (by rw [e3]; exact ownsRow_ext hsh ((Ext.refl No w).drewN q) (fun _ _ => id)) (fun j x hj hjc ho ho2 => hjc (h.apart j c x hj hc ho2 (by rw [ev]; exact ho))))
  have c0 := h.l.cell' (i := c) (v := nth vs c) (nth_some (by rw [h.len]; exact hc))
  have f0 := h.l.frozen c
  rw [ev] at c0 hob ⊢
  have hbl : b ≠ lb := fun e => by have := (hrow.lt b hob).1; have := h.nums; omega
  clear hrow ev hsh e1 e2 e3 hz
  go_enter Try.func98, Try.ntmps98
  go_wp2_with fail
  refine (rnear_has1 w nb lb base vs ll cap h c).mono ?_
  rintro e w1 ⟨rfl, rfl⟩
  rw [hi'.out]
  go_wp2_with fail
  have hwr : IntKind.i64.wrap (n : Int) = n := by rw [IntKind.wrap_i64]; omega
  have hle : (n : Int) ≤ cv := by omega
  have hge : (0 : Int) ≤ n := by omega
  refine anyZ_begin 11 (fun w' => w'.cell? ⟨nb, 0, none⟩ = some (.slice (some ⟨lb, 0, none⟩) ll.length ll.length)) (by kernel_rfl) ?_
  have hC : (fun w' : World => w'.cell? ⟨nb, 0, none⟩ = some (.slice (some ⟨lb, 0, none⟩) ll.length ll.length)) w.drew := n0
  refine anyZ_take 0 (v := ?_) rfl (by kernel_rfl) (by kernel_rfl) (by kernel_rfl) (by kernel_rfl) (fun _ _ _ h => h) hC (Or.inl ⟨by rfl, ?_⟩) ?_
  rotate_left
  · (intro wq hq; (try dsimp only at hq); go_simp; with_reducible rfl)
  simp only [Act.put, List.setIfInBounds_toArray, List.set_cons_zero, List.set_cons_succ]
  refine anyZ_take 1 (v := ?_) rfl (by kernel_rfl) (by kernel_rfl) (by kernel_rfl) (by kernel_rfl) (fun _ _ _ h => h) hC (Or.inl ⟨by rfl, ?_⟩) ?_
  rotate_left
  · (intro wq hq; (try dsimp only at hq); go_simp; with_reducible rfl)
  simp only [Act.put, List.setIfInBounds_toArray, List.set_cons_zero, List.set_cons_succ]
  refine anyZ_take 2 (v := ?_) rfl (by kernel_rfl) (by kernel_rfl) (by kernel_rfl) (by kernel_rfl) (fun _ _ _ h => h) hC (Or.inl ⟨by rfl, ?_⟩) ?_
  rotate_left
  · (intro wq hq; (try dsimp only at hq); go_simp; with_reducible rfl)
  simp only [Act.put, List.setIfInBounds_toArray, List.set_cons_zero, List.set_cons_succ]
  refine anyZ_take 3 (v := ?_) rfl (by kernel_rfl) (by kernel_rfl) (by kernel_rfl) (by kernel_rfl) (fun _ _ _ h => h) hC (Or.inl ⟨by rfl, ?_⟩) ?_
  rotate_left
  · (intro wq hq; (try dsimp only at hq); go_simp; with_reducible rfl)
  simp only [Act.put, List.setIfInBounds_toArray, List.set_cons_zero, List.set_cons_succ]
  refine anyZ_take 4 (v := ?_) rfl (by kernel_rfl) (by kernel_rfl) (by kernel_rfl) (by kernel_rfl) (fun _ _ _ h => h) hC (Or.inl ⟨by rfl, ?_⟩) ?_
  rotate_left
  · (intro wq hq; (try dsimp only at hq); go_simp; with_reducible rfl)
  simp only [Act.put, List.setIfInBounds_toArray, List.set_cons_zero, List.set_cons_succ]
  refine anyZ_take 5 (v := ?_) rfl (by kernel_rfl) (by kernel_rfl) (by kernel_rfl) (by kernel_rfl) (fun _ _ _ h => h) hC (Or.inl ⟨by rfl, ?_⟩) ?_
  rotate_left
  · (intro wq hq; (try dsimp only at hq); go_simp; with_reducible rfl)
  simp only [Act.put, List.setIfInBounds_toArray, List.set_cons_zero, List.set_cons_succ]
  refine anyZ_take 6 (v := ?_) rfl (by kernel_rfl) (by kernel_rfl) (by kernel_rfl) (by kernel_rfl) (fun _ _ _ h => h) hC (Or.inl ⟨by rfl, ?_⟩) ?_
  rotate_left
  · (intro wq hq; (try dsimp only at hq); go_simp; with_reducible rfl)
  simp only [Act.put, List.setIfInBounds_toArray, List.set_cons_zero, List.set_cons_succ]
  refine anyZ_take 7 (v := ?_) rfl (by kernel_rfl) (by kernel_rfl) (by kernel_rfl) (by kernel_rfl) (fun _ _ _ h => h) hC (Or.inl ⟨by rfl, ?_⟩) ?_
  rotate_left
  · (intro wq hq; (try dsimp only at hq); go_simp; with_reducible rfl)
  simp only [Act.put, List.setIfInBounds_toArray, List.set_cons_zero, List.set_cons_succ]
  refine anyZ_take 8 (v := ?_) rfl (by kernel_rfl) (by kernel_rfl) (by kernel_rfl) (by kernel_rfl) (fun _ _ _ h => h) hC (Or.inl ⟨by rfl, ?_⟩) ?_
  rotate_left
  · (intro wq hq; (try dsimp only at hq); go_simp; with_reducible rfl)
  simp only [Act.put, List.setIfInBounds_toArray, List.set_cons_zero, List.set_cons_succ]
  refine anyZ_take 9 (v := ?_) rfl (by kernel_rfl) (by kernel_rfl) (by kernel_rfl) (by kernel_rfl) (fun _ _ _ h => h) hC (Or.inl ⟨by rfl, ?_⟩) ?_
  rotate_left
  · (intro wq hq; (try dsimp only at hq); go_simp; with_reducible rfl)
  simp only [Act.put, List.setIfInBounds_toArray, List.set_cons_zero, List.set_cons_succ]
  refine anyZ_take 10 (v := ?_) rfl (by kernel_rfl) (by kernel_rfl) (by kernel_rfl) (by kernel_rfl) (fun _ _ _ h => h) hC (Or.inl ⟨by rfl, ?_⟩) ?_
  rotate_left
  · (intro wq hq; (try dsimp only at hq); go_simp; with_reducible rfl)
  simp only [Act.put, List.setIfInBounds_toArray, List.set_cons_zero, List.set_cons_succ]
  clear hwr
  refine anyZ_last rfl (by kernel_rfl) (fun K hK => ?_)
  go_simp
  refine hK _ _ ?_
  clear hK K
  try simp only [Act.put, List.setIfInBounds_toArray, List.set_cons_zero, List.set_cons_succ]
  refine anyZ_done (by kernel_rfl) ?_ _
  go_wp2_with fail
  go_ret2
  exact ⟨rfl, (Ext.refl _ _).drew.trans (Ext.set1 _ _ _ _) (fun _ _ h => h), _, hput.out 1, fun x hx => hx⟩
end Go.Proofs.Ytjkknjohmekeiaa
