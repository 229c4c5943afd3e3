/- How the arguments of a law read: from the reading of the data to the rows that the walks speak of. -/
import Derived.Test.YtjkknjohmekeiaaBase
import Derived.Test.YtjkknjohmekeiaaTapeS
import Derived.Test.YtjkknjohmekeiaaRows
import Derived.OpenShut
import Derived.SizedLaws
import Derived.Deep.Slices
import Derived.Deep.Strs
import Derived.Lib.SmallJoins
namespace Go.Proofs.Ytjkknjohmekeiaa
open Go.ChangeShapes Go.WideShapes Go.RowKit
set_option linter.unusedVariables false

theorem bytes5 : Try.prog.bytesOf 5 = 1 := by kernel_rfl
theorem bytes3 : Try.prog.bytesOf 3 = 8 := by kernel_rfl

theorem weightsAll_mem {H : Type} {P : Program} {e : TypeId} : ∀ {ds : List (DataW H)} {d : DataW H}, d ∈ ds → ∀ n ∈ d.weights P e, n ∈ DataW.weightsAll P e ds
  | x :: r, d, hd, n, hn => by
    simp only [DataW.weightsAll, List.mem_append]
    rcases List.mem_cons.1 hd with rfl | hd
    · exact .inl hn
    · exact .inr (weightsAll_mem hd n hn)

theorem wf_u8_range {z : Int} (h : (Lit.int .u8 z).wf = true) : 0 ≤ z ∧ z < 256 := by
  simp only [Lit.wf, Bool.and_eq_true, decide_eq_true_eq] at h
  have e1 : IntKind.min .u8 = 0 := by decide
  have e2 : IntKind.max .u8 = 255 := by decide
  rw [e1, e2] at h
  omega
theorem wf_i64_range {z : Int} (h : (Lit.int .i64 z).wf = true) : -9223372036854775808 ≤ z ∧ z ≤ 9223372036854775807 := by
  simp only [Lit.wf, Bool.and_eq_true, decide_eq_true_eq] at h
  have e1 : IntKind.min .i64 = -9223372036854775808 := by decide
  have e2 : IntKind.max .i64 = 9223372036854775807 := by decide
  rw [e1, e2] at h
  omega
theorem flatMap_one {α : Type} (f : α → Value) (l : List α) : l.flatMap (fun x => [f x]) = l.map f := by
  induction l with
  | nil => rfl
  | cons a l ih => simp [ih]

theorem flatten_at {s : Nat} : ∀ {css : List (List Value)}, (∀ c ∈ css, c.length = s) → ∀ {k i : Nat} {c : List Value}, css[k]? = some c → i < s → css.flatten[k * s + i]? = c[i]?
  | c0 :: r, hl, 0, i, c, hk, hi => by
    simp only [List.getElem?_cons_zero, Option.some.injEq] at hk
    subst hk
    rw [List.flatten_cons, List.getElem?_append_left (by rw [hl c0 (by simp)]; omega), Nat.zero_mul, Nat.zero_add]
  | c0 :: r, hl, k + 1, i, c, hk, hi => by
    simp only [List.getElem?_cons_succ] at hk
    have h0 := hl c0 (by simp)
    rw [List.flatten_cons, List.getElem?_append_right (by rw [h0, Nat.succ_mul]; omega), h0, show (k + 1) * s + i - s = k * s + i by rw [Nat.succ_mul]; omega]
    exact flatten_at (fun c hc => hl c (by simp [hc])) hk hi
theorem flatten_len {s : Nat} : ∀ {css : List (List Value)}, (∀ c ∈ css, c.length = s) → css.flatten.length = css.length * s
  | [], _ => by simp
  | c0 :: r, hl => by
    rw [List.flatten_cons, List.length_append, hl c0 (by simp), flatten_len (fun c hc => hl c (by simp [hc])), List.length_cons, Nat.succ_mul]; omega

section
variable {H : Type} {enc : TypeId × Value → H} {W : World}
/-- A slice that came in, of elements of s cells each. -/
theorem open_sl {t e s : Nat} (ht : Try.prog.underlying t = some (.slice e)) (hs : Try.prog.cellsOf e = s) (hs0 : 0 < s) {fuel : Nat} {v : Value} {d : DataW H} {p : List MemPlace}
    (hf : DataW.trod enc Try.prog W 0 (fun _ => true) true fuel t [v] = some (d, p)) (lt : ∀ x ∈ p, x.block < W.heap.size) (hz : ∀ n ∈ d.weights Try.prog t, n ≤ reachBytes) :
    ∃ css : List (List Value), (∀ c ∈ css, c.length = s) ∧ Rd (Iv 0 W.heap.size) W v css.length s css.flatten ∧ css.length * Try.prog.bytesOf e ≤ reachBytes ∧
      ∀ c ∈ css, ∃ n D Pl, DataW.trod enc Try.prog W 0 (fun _ => true) true n e c = some (D, Pl) ∧ (∀ x ∈ Pl, x.block < W.heap.size) ∧ ∀ n ∈ D.weights Try.prog e, n ≤ reachBytes := by
  rcases Deep.open_slice ht hf with ⟨hcs, hx⟩ | ⟨a, len, cap', cap, n, D, Pl, hcs, _, hl, hm, rfl, hx, hel⟩
  · simp only [List.cons.injEq, and_true] at hcs
    subst hcs
    refine ⟨[], fun c hc => (by cases hc), Rd.nil _ _ _, ?_, fun c hc => (by cases hc)⟩
    show 0 * _ ≤ _
    rw [Nat.zero_mul]
    exact Nat.zero_le _
  · simp only [List.cons.injEq, and_true] at hcs
    subst hcs
    have hd := congrArg Prod.fst hx
    have hp := congrArg Prod.snd hx
    dsimp only at hd hp
    clear hx
    rw [hp] at lt
    rw [hd] at hz
    clear hd hp hf
    rw [hs] at hel lt
    obtain ⟨C, hC⟩ := Deep.choose_lt hel
    have hlen : ∀ i, i < cap → (C i).length = s := fun i hi => (World.cells?_some (hC i hi).1).2.1
    have hlc : ∀ c ∈ (List.range len).map C, c.length = s := by
      intro c hc
      obtain ⟨i, hi, rfl⟩ := List.mem_map.1 hc
      have := List.mem_range.1 hi
      exact hlen i (by omega)
    refine ⟨(List.range len).map C, hlc, ?_, ?_, ?_⟩
    · have hfl := flatten_len hlc
      rw [List.length_map, List.length_range] at hfl ⊢
      refine ⟨some a, cap, rfl, hfl, hl, hm, fun hne => ?_⟩
      have hpos : 0 < len := by
        rcases Nat.eq_zero_or_pos len with h0 | h0
        · subst h0; exact absurd rfl hne
        · exact h0
      have hcell : ∀ i, i < cap → ∀ j, j < s → W.cell? ((a.add (i * s)).add j) = (C i)[j]? := fun i hi => (World.cells?_some (hC i hi).1).2.2
      have h00 := hcell 0 (by omega) 0 hs0
      obtain ⟨b, off, spot⟩ := a
      have hsome : ∃ u, (C 0)[0]? = some u := ⟨_, List.getElem?_eq_getElem (by rw [hlen 0 (by omega)]; exact hs0)⟩
      obtain ⟨u0, hu0⟩ := hsome
      have hspot : spot = none := by
        have := World.cell?_spot (h00.trans hu0)
        simpa [Addr.add] using this
      subst hspot
      have hb : b < W.heap.size := lt (.cell b off) (List.mem_append_left _ (MemPlace.mem_row.2 ⟨0, Nat.mul_pos (by omega) hs0, by simp⟩))
      refine ⟨b, off, rfl, ⟨Nat.zero_le _, hb⟩, hb, fun i u hu => ?_⟩
      have hi : i < len * s := by
        have := (List.getElem?_eq_some_iff.1 hu).1
        omega
      have hk : i / s < len := Nat.div_lt_of_lt_mul (by rw [Nat.mul_comm]; exact hi)
      have hj : i % s < s := Nat.mod_lt _ hs0
      have hdm : i / s * s + i % s = i := by rw [Nat.mul_comm]; exact Nat.div_add_mod i s
      rw [← hdm, flatten_at hlc (k := i / s) (i := i % s) (c := C (i / s)) (by simp [hk]) hj] at hu
      have := hcell (i / s) (by omega) (i % s) hj
      rw [hu, Deep.add_add, hdm] at this
      rw [← add_plain]
      exact this
    · have := hz ((((List.range len).map D).length + ((List.range (cap - len)).map fun j => D (len + j)).length) * Try.prog.bytesOf e) (by simp [DataW.weights, ht])
      rw [List.length_map, List.length_range] at this ⊢
      exact Nat.le_trans (Nat.mul_le_mul_right _ (by omega)) this
    · intro c hc
      obtain ⟨i, hi, rfl⟩ := List.mem_map.1 hc
      have hi := List.mem_range.1 hi
      refine ⟨n, D i, Pl i, (hC i (by omega)).2, fun x hx => lt x (List.mem_append_right _ (List.mem_flatMap.2 ⟨i, List.mem_range.2 (by omega), hx⟩)), fun k hk => hz k ?_⟩
      simp only [DataW.weights, ht, List.mem_cons, List.mem_append]
      exact .inr (.inl (weightsAll_mem (List.mem_map.2 ⟨i, List.mem_range.2 hi, rfl⟩) k hk))

/-- .. each element being so many cells of a kind that a reader of elements knows. -/
theorem open_map {α : Type} {css : List (List Value)} {Q : α → Prop} {f : α → List Value} (h : ∀ c ∈ css, ∃ x, c = f x ∧ Q x) : ∃ l : List α, l.length = css.length ∧ css.flatten = l.flatMap f ∧ ∀ x ∈ l, Q x := by
  induction css with
  | nil => exact ⟨[], rfl, rfl, by simp⟩
  | cons c r ih =>
    obtain ⟨x, rfl, hq⟩ := h c (by simp)
    obtain ⟨l, h1, h2, h3⟩ := ih (fun c hc => h c (by simp [hc]))
    exact ⟨x :: l, by simp [h1], by simp [h2], by simpa using ⟨hq, h3⟩⟩

theorem open_byte1 {n : Nat} {c : List Value} {D : DataW H} {Pl : List MemPlace} (hl : c.length = 1) (h : DataW.trod enc Try.prog W 0 (fun _ => true) true n 5 c = some (D, Pl)) : ∃ x : Nat, c = [byt x] ∧ x < 256 := by
  obtain ⟨z, rfl, _, hw⟩ := DataW.trod_int Try.underlying5 h
  have := wf_u8_range hw
  exact ⟨z.toNat, by simp [byt]; omega, by omega⟩
theorem open_int1 {n : Nat} {c : List Value} {D : DataW H} {Pl : List MemPlace} (h : DataW.trod enc Try.prog W 0 (fun _ => true) true n 3 c = some (D, Pl)) : ∃ x : Int, c = [int x] ∧ (Lit.int .i64 x).wf = true := by
  obtain ⟨z, rfl, _, hw⟩ := DataW.trod_int Try.underlying3 h
  exact ⟨z, rfl, hw⟩

theorem open_bytes {v : Value} {d : DataW H} {p : List MemPlace} {fuel : Nat} (h : DataW.trod enc Try.prog W 0 (fun _ => true) true fuel 22 [v] = some (d, p)) (lt : ∀ x ∈ p, x.block < W.heap.size)
    (hz : ∀ n ∈ d.weights Try.prog 22, n ≤ reachBytes) : ∃ l, RdB (Iv 0 W.heap.size) W v l ∧ l.length ≤ reachBytes := by
  obtain ⟨css, h1, h2, h3, h4⟩ := open_sl Try.underlying22 (s := 1) (by kernel_rfl) (by omega) h lt hz
  obtain ⟨l, g1, g2, g3⟩ := open_map (f := fun x => [byt x]) (Q := fun x => x < 256) (fun c hc => by
    obtain ⟨n, D, Pl, k1, _⟩ := h4 c hc
    exact open_byte1 (h1 c hc) k1)
  rw [bytes5, ← g1] at h3
  refine ⟨l, ⟨?_, g3⟩, by rwa [Nat.mul_one] at h3⟩
  rw [g2, ← g1] at h2
  have e : l.flatMap (fun x => [byt x]) = l.map byt := flatMap_one byt l
  rw [e] at h2
  exact h2

theorem bytes42 : Try.prog.bytesOf 42 = 24 := by kernel_rfl
theorem bytes44 : Try.prog.bytesOf 44 = 32 := by kernel_rfl
theorem cells1 : Try.prog.cellsOf 3 = 1 := by kernel_rfl

theorem open_cell3 {n : Nat} {cs : List Value} {k : Nat} {y : DataW H × List MemPlace} (hk : k < cs.length) (h : DataW.trod enc Try.prog W 0 (fun _ => true) true n 3 ((cs.drop k).take (Try.prog.cellsOf 3)) = some y) : ∃ x : Int, cs[k]? = some (int x) ∧ (Lit.int .i64 x).wf = true := by
  rw [cells1] at h
  obtain ⟨x, hx, hw⟩ := open_int1 (D := y.1) (Pl := y.2) h
  refine ⟨x, ?_, hw⟩
  rw [List.drop_eq_getElem_cons hk, List.take_succ_cons, List.take_zero] at hx
  rw [List.getElem?_eq_getElem hk]
  simpa using hx

theorem four_of {c : List Value} {a b d e : Value} (h : c.length = 4) (h0 : c[0]? = some a) (h1 : c[1]? = some b) (h2 : c[2]? = some d) (h3 : c[3]? = some e) : c = [a, b, d, e] := by
  match c, h with
  | [x, y, z, u], _ => simp at h0 h1 h2 h3; simp [h0, h1, h2, h3]
theorem four_ex {c : List Value} (h : c.length = 4) : ∃ a b d e, c = [a, b, d, e] := by
  match c, h with
  | [x, y, z, u], _ => exact ⟨x, y, z, u, rfl⟩

theorem open_call1 {n : Nat} {c : List Value} {D : DataW H} {Pl : List MemPlace} (h : DataW.trod enc Try.prog W 0 (fun _ => true) true n 44 c = some (D, Pl)) : ∃ x : Cl, c = clCells x ∧ True := by
  obtain ⟨y0, y1, y2, y3, m, hx, hl, h0, h1, h2, h3⟩ := Go.Joins.trod_struct4 Try.underlying44 h
  have hl4 : c.length = 4 := hl.trans (by kernel_rfl)
  obtain ⟨x0, e0, _⟩ := open_cell3 (k := 0) (by omega) h0
  obtain ⟨x1, e1, _⟩ := open_cell3 (k := 1) (by omega) h1
  obtain ⟨x2, e2, _⟩ := open_cell3 (k := 2) (by omega) h2
  obtain ⟨x3, e3, _⟩ := open_cell3 (k := 3) (by omega) h3
  refine ⟨⟨x0, x1, x2, x3⟩, ?_, trivial⟩
  clear hl h h0 h1 h2 h3 hx
  exact four_of hl4 e0 e1 e2 e3

theorem open_calls {n : Nat} {v : Value} {d : DataW H} {p : List MemPlace} (h : DataW.trod enc Try.prog W 0 (fun _ => true) true n 42 [v] = some (d, p)) (lt : ∀ x ∈ p, x.block < W.heap.size)
    (hz : ∀ n ∈ d.weights Try.prog 42, n ≤ reachBytes) : ∃ l : List Cl, RdC (Iv 0 W.heap.size) W v l ∧ l.length * 32 ≤ reachBytes := by
  obtain ⟨css, h1, h2, h3, h4⟩ := open_sl Try.underlying42 (s := 4) (by kernel_rfl) (by omega) h lt hz
  obtain ⟨l, g1, g2, _⟩ := open_map (f := clCells) (Q := fun _ => True) (fun c hc => by
    obtain ⟨n, D, Pl, k1, _⟩ := h4 c hc
    exact open_call1 k1)
  rw [bytes44, ← g1] at h3
  rw [g2, ← g1] at h2
  exact ⟨l, h2, h3⟩

theorem open_rows {n : Nat} {v : Value} {d : DataW H} {p : List MemPlace} (h : DataW.trod enc Try.prog W 0 (fun _ => true) true n 24 [v] = some (d, p)) (lt : ∀ x ∈ p, x.block < W.heap.size)
    (hz : ∀ n ∈ d.weights Try.prog 24, n ≤ reachBytes) : ∃ ll : List (List Cl), RdCC (Iv 0 W.heap.size) (Iv 0 W.heap.size) W v ll ∧ ll.length * 24 ≤ reachBytes ∧ ∀ l ∈ ll, l.length * 32 ≤ reachBytes := by
  obtain ⟨css, h1, h2, h3, h4⟩ := open_sl Try.underlying24 (s := 1) (by kernel_rfl) (by omega) h lt hz
  obtain ⟨l, g1, g2, g3⟩ := open_map (α := Value × List Cl) (f := fun x => [x.1]) (Q := fun x => RdC (Iv 0 W.heap.size) W x.1 x.2 ∧ x.2.length * 32 ≤ reachBytes) (fun c hc => by
    obtain ⟨n, D, Pl, k1, k2, k3⟩ := h4 c hc
    match c, h1 c hc with
    | [u], _ =>
      obtain ⟨l, q1, q2⟩ := open_calls k1 k2 k3
      exact ⟨(u, l), rfl, q1, q2⟩)
  rw [bytes42, ← g1] at h3
  rw [g2, ← g1, flatMap_one] at h2
  refine ⟨l.map (·.2), ⟨l.map (·.1), by simp, by simpa using h2, fun i hi => ?_⟩, by simpa using h3, fun x hx => ?_⟩
  · rw [List.length_map] at hi
    have e1 : nth (l.map (·.1)) i = l[i].1 := by rw [nth_eq (by simpa using hi)]; simp
    have e2 : nth (l.map (·.2)) i = l[i].2 := by rw [nth_eq (by simpa using hi)]; simp
    rw [e1, e2]
    exact (g3 _ (List.getElem_mem hi)).1
  · obtain ⟨y, hy, rfl⟩ := List.mem_map.1 hx
    exact (g3 y hy).2

theorem open_ints1 {n : Nat} {v : Value} {d : DataW H} {p : List MemPlace} (h : DataW.trod enc Try.prog W 0 (fun _ => true) true n 25 [v] = some (d, p)) (lt : ∀ x ∈ p, x.block < W.heap.size)
    (hz : ∀ n ∈ d.weights Try.prog 25, n ≤ reachBytes) : ∃ l, RdI (Iv 0 W.heap.size) W v l ∧ l.length * 8 ≤ reachBytes ∧ ∀ x ∈ l, (Lit.int .i64 x).wf = true := by
  obtain ⟨css, h1, h2, h3, h4⟩ := open_sl Try.underlying25 (s := 1) (by kernel_rfl) (by omega) h lt hz
  obtain ⟨l, g1, g2, g3⟩ := open_map (f := fun x => [int x]) (Q := fun x => (Lit.int .i64 x).wf = true) (fun c hc => by
    obtain ⟨n, D, Pl, k1, _⟩ := h4 c hc
    exact open_int1 k1)
  rw [bytes3, ← g1] at h3
  rw [g2, ← g1, flatMap_one] at h2
  exact ⟨l, h2, h3, g3⟩

/-- The script fits into memory. -/
def ScrOk (s : Scr) : Prop := s.calls.length * 24 ≤ reachBytes ∧ (∀ l ∈ s.calls, l.length * 32 ≤ reachBytes) ∧ s.picks.length * 8 ≤ reachBytes ∧ (Lit.int .i64 s.cpus).wf = true ∧ (Lit.int .i64 s.pages).wf = true

theorem open_script {n : Nat} {cs : Array Value} {d : DataW H} {p : List MemPlace} (h : DataW.trod enc Try.prog W 0 (fun _ => true) true n 27 cs.toList = some (d, p)) (lt : ∀ x ∈ p, x.block < W.heap.size)
    (hz : ∀ n ∈ d.weights Try.prog 27, n ≤ reachBytes) : ∃ s, RdS (Iv 0 W.heap.size) W (.agg cs) s ∧ ScrOk s := by
  obtain ⟨y0, y1, y2, y3, m, hx, hl, h0, h1, h2, h3⟩ := Go.Joins.trod_struct4 Try.underlying27 h
  have hl4 : cs.toList.length = 4 := hl.trans (by kernel_rfl)
  obtain ⟨x0, e0, w0⟩ := open_cell3 (k := 0) (by omega) h0
  obtain ⟨x1, e1, w1⟩ := open_cell3 (k := 1) (by omega) h1
  have hd := congrArg Prod.fst hx
  have hp := congrArg Prod.snd hx
  dsimp only at hd hp
  clear hx
  rw [hp] at lt
  rw [hd] at hz
  simp only [DataW.weights, Try.underlying27, DataW.weightsEach, List.mem_append, List.map_cons, List.map_nil] at hz
  obtain ⟨a, b, v2, v3, hcs⟩ := four_ex hl4
  · rw [hcs] at e0 e1 h2 h3
    clear hl hl4
    simp only [List.getElem?_cons_zero, List.getElem?_cons_succ, Option.some.injEq] at e0 e1
    subst e0 e1
    have k2 : Try.prog.cellsOf 24 = 1 := by kernel_rfl
    have k3 : Try.prog.cellsOf 25 = 1 := by kernel_rfl
    have h2' : DataW.trod enc Try.prog W 0 (fun _ => true) true m 24 [v2] = some (y2.1, y2.2) := by rw [k2] at h2; exact h2
    have h3' : DataW.trod enc Try.prog W 0 (fun _ => true) true m 25 [v3] = some (y3.1, y3.2) := by rw [k3] at h3; exact h3
    obtain ⟨ll, q1, q2, q3⟩ := open_rows h2' (fun x hx => lt x (by simp [hx])) (fun k hk => hz k (by simp [hk]))
    obtain ⟨l, r1, r2, _⟩ := open_ints1 h3' (fun x hx => lt x (by simp [hx])) (fun k hk => hz k (by simp [hk]))
    refine ⟨⟨x0, x1, ll, l⟩, ⟨v2, v3, ?_, q1, r1⟩, q2, q3, r2, w0, w1⟩
    rw [← Array.toArray_toList (xs := cs), hcs]
    rfl
end
end Go.Proofs.Ytjkknjohmekeiaa
