/- Plain Lean: the script of a script's bytes is the script; a script of any bytes may be; bytes that agree are of scripts that agree. No condition beyond each theorem's own. -/
import Derived.Test.YtjkknjohmekeiaaTapeJ
namespace Go.Proofs.Ytjkknjohmekeiaa

theorem bt_cons {l rest : List Nat} {p x : Nat} (h : l.drop p = x :: rest) : bt l p = x ∧ l.drop (p + 1) = rest := by
  refine ⟨by unfold bt; rw [h]; rfl, ?_⟩
  rw [← List.drop_drop, h]; rfl
theorem byteOf_in {x : Int} (h0 : 0 ≤ x) (h1 : x ≤ 255) : ((byteOf x : Nat) : Int) = x := by unfold byteOf; omega

theorem callAt_of {l rest : List Nat} {p : Nat} {c : Cl} (hc : callOk c = true) (h : l.drop p = callBytes c ++ rest) : callAt l p = c ∧ l.drop (p + 5) = rest := by
  obtain ⟨⟨o0, o1⟩, ⟨a0, a1⟩, ⟨b0, b1⟩, c0, c1⟩ := callOk_facts hc
  simp only [callBytes, List.cons_append, List.nil_append] at h
  obtain ⟨h0, k0⟩ := bt_cons h
  obtain ⟨h1, k1⟩ := bt_cons k0
  obtain ⟨h2, k2⟩ := bt_cons k1
  obtain ⟨h3, k3⟩ := bt_cons k2
  obtain ⟨h4, k4⟩ := bt_cons k3
  refine ⟨?_, k4⟩
  unfold callAt
  rw [h0, h1, h2, h3, h4, byteOf_in o0 (by omega), byteOf_in a0 a1, byteOf_in c0 c1, byteOf_in (x := c.b / 256) (by omega) (by omega)]
  have e : ((byteOf c.b : Nat) : Int) = c.b % 256 := by unfold byteOf; omega
  rw [e, Int.emod_eq_of_lt o0 (by omega), show c.b / 256 * 256 + c.b % 256 = c.b by omega]

theorem listAt_cons (l : List Nat) (p k : Nat) : listAt l p (k + 1) = callAt l p :: listAt l (p + 5) k := by
  unfold listAt
  rw [List.range_succ_eq_map, List.map_cons, List.map_map]
  congr 1
  apply List.map_congr_left
  intro i _
  show callAt l (p + 5 * (i + 1)) = callAt l (p + 5 + 5 * i)
  rw [show p + 5 * (i + 1) = p + 5 + 5 * i by omega]

theorem listAt_of {l rest : List Nat} : ∀ {cs : List Cl} {p : Nat}, (∀ c ∈ cs, callOk c = true) → l.drop p = cs.flatMap callBytes ++ rest → listAt l p cs.length = cs ∧ l.drop (p + 5 * cs.length) = rest
  | [], p, _, h => by simpa [listAt] using h
  | c :: cs, p, hc, h => by
    rw [List.flatMap_cons, List.append_assoc] at h
    obtain ⟨h1, h2⟩ := callAt_of (hc c (by simp)) h
    obtain ⟨h3, h4⟩ := listAt_of (fun x hx => hc x (by simp [hx])) h2
    rw [List.length_cons, listAt_cons, h1, h3]
    exact ⟨rfl, by rw [show p + 5 * (cs.length + 1) = p + 5 + 5 * cs.length by omega]; exact h4⟩

theorem listOf_of {l rest : List Nat} {k : Nat} {cs : List Cl} (hl : listOk cs = true) (h : l.drop (posL l k) = listBytes cs ++ rest) : listOf l k = cs ∧ l.drop (posL l (k + 1)) = rest := by
  simp only [listOk, Bool.and_eq_true, decide_eq_true_eq, List.all_eq_true] at hl
  simp only [listBytes, List.cons_append] at h
  obtain ⟨h0, h1⟩ := bt_cons h
  have e : byteOf (cs.length : Int) = cs.length := by unfold byteOf; omega
  obtain ⟨h2, h3⟩ := listAt_of hl.2 h1
  have e2 : bt l (posL l k) % 65 = cs.length := by rw [h0, e]; omega
  refine ⟨by unfold listOf; rw [e2]; exact h2, ?_⟩
  show l.drop (posL l k + 1 + 5 * (bt l (posL l k) % 65)) = rest
  rw [e2]; exact h3

theorem lists_of {l rest : List Nat} {ll : List (List Cl)} (hl : ∀ x ∈ ll, listOk x = true) (h : l.drop 3 = ll.flatMap listBytes ++ rest) : ∀ k, k ≤ ll.length → listsTo l k = ll.take k ∧ l.drop (posL l k) = (ll.drop k).flatMap listBytes ++ rest
  | 0, _ => ⟨by simp [listsTo], by simpa [posL] using h⟩
  | k + 1, hk => by
    obtain ⟨h1, h2⟩ := lists_of hl h k (by omega)
    rw [drop_nth (show k < ll.length by omega), List.flatMap_cons, List.append_assoc] at h2
    obtain ⟨h3, h4⟩ := listOf_of (hl _ (by rw [nth_eq (by omega)]; exact List.getElem_mem _)) h2
    exact ⟨by rw [listsTo_succ, h1, h3, take_nth (by omega)], h4⟩

theorem bytesOf_head {s : Scr} {more : List Nat} (h : okB s = true) :
    (cpusOf (bytesOf s ++ more) : Int) = s.cpus ∧ (pagesOf (bytesOf s ++ more) : Int) = s.pages ∧ (bytesOf s ++ more).drop 3 = s.calls.flatMap listBytes ++ (s.picks.map byteOf ++ more) := by
  obtain ⟨⟨c1, c2, c3, c4, c5, c6⟩, _, _⟩ := okB_facts h
  have e : (bytesOf s ++ more).drop 0 = byteOf (s.cpus - 1) :: byteOf ((s.pages - 1) / 256) :: byteOf (s.pages - 1) :: (s.calls.flatMap listBytes ++ (s.picks.map byteOf ++ more)) := by
    simp [bytesOf, headBytes, List.append_assoc]
  obtain ⟨h0, k0⟩ := bt_cons e
  obtain ⟨h1, k1⟩ := bt_cons k0
  obtain ⟨h2, k2⟩ := bt_cons k1
  refine ⟨?_, ?_, k2⟩
  · unfold cpusOf; rw [h0]
    have := byteOf_in (x := s.cpus - 1) (by omega) (by omega)
    omega
  · unfold pagesOf; rw [h1, h2]
    have a := byteOf_in (x := (s.pages - 1) / 256) (by omega) (by omega)
    have b : ((byteOf (s.pages - 1) : Nat) : Int) = (s.pages - 1) % 256 := by unfold byteOf; omega
    omega

theorem script_more {s : Scr} (h : okB s = true) (more : List Nat) : script (bytesOf s ++ more) = ⟨s.cpus, s.pages, s.calls, ((s.picks.map byteOf ++ more).take 4096).map fun (x : Nat) => (x : Int)⟩ := by
  obtain ⟨⟨c1, c2, c3, c4, c5, c6⟩, _, _⟩ := okB_facts h
  obtain ⟨h1, h2, h3⟩ := bytesOf_head (more := more) h
  have hlo : ∀ x ∈ s.calls, listOk x = true := by
    simp only [okB, Bool.and_eq_true, List.all_eq_true] at h
    exact h.2.1
  have hn : cpusOf (bytesOf s ++ more) = s.calls.length := by omega
  obtain ⟨h4, h5⟩ := lists_of hlo h3 s.calls.length (Nat.le_refl _)
  rw [List.take_length] at h4
  rw [List.drop_length, List.flatMap_nil, List.nil_append] at h5
  unfold script restOf
  rw [h2, h1, hn, h4, h5]

theorem picks_back {xs : List Int} (h : ∀ n ∈ xs, 0 ≤ n ∧ n ≤ 255) : (xs.map byteOf).map (fun (x : Nat) => (x : Int)) = xs := by
  rw [List.map_map]
  conv => rhs; rw [← List.map_id xs]
  apply List.map_congr_left
  intro n hn
  exact byteOf_in (h n hn).1 (h n hn).2

theorem script_bytes {s : Scr} (h : okB s = true) : script (bytesOf s) = s := by
  have h1 := script_more h []
  obtain ⟨⟨c1, c2, c3, c4, c5, c6⟩, _, hp⟩ := okB_facts h
  rw [List.append_nil, List.append_nil, List.take_of_length_le (by simpa using c6), picks_back hp] at h1
  exact h1

theorem bt_lt {l : List Nat} (h : ∀ x ∈ l, x < 256) (p : Nat) : bt l p < 256 := by
  unfold bt
  cases hd : l.drop p with
  | nil => simp [hd0]
  | cons x r =>
    have : x ∈ l := List.mem_of_mem_drop (i := p) (by rw [hd]; simp)
    exact h x this
theorem okB_script {l : List Nat} (h : ∀ x ∈ l, x < 256) : okB (script l) = true := by
  have hb := bt_lt h
  unfold okB
  simp only [Bool.and_eq_true, List.all_eq_true]
  refine ⟨?_, ?_, ?_⟩
  · simp only [headOk, Bool.and_eq_true, decide_eq_true_eq]
    refine ⟨wtn_iff.2 ?_, wtn_iff.2 ?_, ?_, ?_⟩
    · show 1 ≤ ((cpusOf l : Nat) : Int) ∧ ((cpusOf l : Nat) : Int) ≤ 8
      unfold cpusOf; omega
    · show 1 ≤ ((pagesOf l : Nat) : Int) ∧ ((pagesOf l : Nat) : Int) ≤ 1024
      unfold pagesOf; omega
    · simp [script, listsTo]
    · simp [script]; omega
  · intro x hx
    simp only [script, listsTo, List.mem_map, List.mem_range] at hx
    obtain ⟨i, _, rfl⟩ := hx
    simp only [listOk, Bool.and_eq_true, decide_eq_true_eq, List.all_eq_true]
    refine ⟨by simp [listOf, listAt]; omega, fun c hc => ?_⟩
    simp only [listOf, listAt, List.mem_map, List.mem_range] at hc
    obtain ⟨j, _, rfl⟩ := hc
    simp only [callOk, callAt, Bool.and_eq_true]
    refine ⟨wtn_iff.2 ?_, wtn_iff.2 ?_, wtn_iff.2 ?_, wtn_iff.2 ?_⟩
    · omega
    · have := hb (posL l i + 1 + 5 * j + 1); omega
    · have := hb (posL l i + 1 + 5 * j + 2); have := hb (posL l i + 1 + 5 * j + 3); omega
    · have := hb (posL l i + 1 + 5 * j + 4); omega
  · intro n hn
    simp only [script, List.mem_map] at hn
    obtain ⟨x, hx, rfl⟩ := hn
    have := h x (List.mem_of_mem_drop (List.mem_of_mem_take hx))
    exact wtn_iff.2 (by omega)

theorem len_calls (ll : List (List Cl)) : ll.length ≤ (ll.flatMap listBytes).length := by
  induction ll with
  | nil => simp
  | cons x r ih => simp only [List.flatMap_cons, List.length_append, List.length_cons, listBytes]; omega
theorem len_bytes {s : Scr} (h : okB s = true) : 3 + s.cpus ≤ ((bytesOf s).length : Int) := by
  obtain ⟨⟨_, _, _, _, c5, _⟩, _, _⟩ := okB_facts h
  have := len_calls s.calls
  simp only [bytesOf, headBytes, List.length_append, List.length_cons, List.length_nil, List.length_map]
  omega
theorem bytes_same {s t : Scr} (hs : okB s = true) (ht : okB t = true) : decide (bytesOf s = bytesOf t) = decide (s = t) := by
  by_cases h : s = t
  · simp [h]
  · have : ¬ bytesOf s = bytesOf t := fun e => h (by rw [← script_bytes hs, ← script_bytes ht, e])
    simp [h, this]
theorem len_list (l : List Cl) : (l.flatMap callBytes).length = 5 * l.length := by
  induction l with
  | nil => rfl
  | cons x r ih => simp only [List.flatMap_cons, List.length_append, List.length_cons, callBytes, ih, List.length_nil]; omega
theorem len_lists {ll : List (List Cl)} (h : ∀ l ∈ ll, l.length ≤ 64) : (ll.flatMap listBytes).length ≤ 321 * ll.length := by
  induction ll with
  | nil => simp
  | cons x r ih =>
    have := ih (fun l hl => h l (by simp [hl]))
    have h64 := h x (by simp)
    simp only [List.flatMap_cons, List.length_append, List.length_cons, listBytes, len_list]
    omega
theorem len_most {s : Scr} (h : okB s = true) : (bytesOf s).length ≤ 6667 := by
  obtain ⟨⟨_, c2, _, _, c5, c6⟩, hl, _⟩ := okB_facts h
  have := len_lists (ll := s.calls) (fun l hl' => by
    obtain ⟨j, hj, rfl⟩ := List.getElem_of_mem hl'
    have := (hl j hj).1
    rwa [nth_eq hj] at this)
  simp only [bytesOf, headBytes, List.length_append, List.length_cons, List.length_nil, List.length_map]
  omega
end Go.Proofs.Ytjkknjohmekeiaa
