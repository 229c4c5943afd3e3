/- Plain: which pages are near, as a row of 1024 marks; what Put, Take and Drain do to them. No condition. -/
import Derived.Test.YtjkknjohmekeiaaNearI
namespace Go.Proofs.Ytjkknjohmekeiaa

theorem count_set (a : Int) : ∀ (ll : List (List Int)) (k : Nat) (l : List Int), k < ll.length → (nth ll k).count a + (ll.set k l).flatten.count a = l.count a + ll.flatten.count a
  | [], k, _, h => by simp at h
  | x :: t, 0, l, _ => by
    rw [nth_eq (by simp)]
    simp only [List.getElem_cons_zero, List.set_cons_zero, List.flatten_cons, List.count_append]; omega
  | x :: t, k + 1, l, h => by
    have h' : k < t.length := by simpa using h
    have := count_set a t k l h'
    rw [nth_eq (by simpa using h)]
    rw [nth_eq h'] at this
    simp only [List.getElem_cons_succ, List.set_cons_succ, List.flatten_cons, List.count_append]
    omega

theorem hasIn_iff {ll : List (List Int)} {x : Int} : hasIn ll x = true ↔ x ∈ ll.flatten := by
  unfold hasIn
  simp [List.any_eq_true]
theorem hasIn_false {ll : List (List Int)} {x : Int} : hasIn ll x = false ↔ x ∉ ll.flatten := by
  rw [← hasIn_iff]; simp

theorem put_perm {ll : List (List Int)} {cap c page : Int} (h0 : putE ll c page = 0) : (putA ll cap c page ++ (putL ll cap c page).flatten).Perm (page :: ll.flatten) := by
  obtain ⟨h1, _⟩ := putE_zero.1 h0
  obtain ⟨e1, h2, h3⟩ := listIn_in h1
  unfold putA putL
  rw [if_pos h0, if_pos h0]
  rw [List.perm_iff_count]
  intro a
  have q1 := count_set a ll c.toNat ((listIn ll c ++ [page]).drop (putK (listIn ll c).length cap)) h2
  have q2 : ((listIn ll c ++ [page]).take (putK (listIn ll c).length cap)).count a + ((listIn ll c ++ [page]).drop (putK (listIn ll c).length cap)).count a = (listIn ll c ++ [page]).count a := by
    rw [← List.count_append, List.take_append_drop]
  rw [List.count_append] at q2
  rw [← e1] at q1
  have q3 : (page :: ll.flatten).count a = [page].count a + ll.flatten.count a := by rw [← List.count_append]; rfl
  rw [List.count_append, q3]
  omega
theorem put_perm0 {ll : List (List Int)} {cap c page : Int} (h0 : putE ll c page ≠ 0) : putA ll cap c page = [] ∧ putL ll cap c page = ll := by
  unfold putA putL
  rw [if_neg h0, if_neg h0]; exact ⟨rfl, rfl⟩
theorem take_perm {ll : List (List Int)} {c : Int} : ((if takeB ll c then [takeX ll c] else []) ++ (dropL ll c).flatten).Perm ll.flatten := by
  cases h1 : inR ll c
  · have e := (listIn_out h1).1
    unfold takeB dropL
    rw [e, h1]; simp
  · obtain ⟨e1, h2, h3⟩ := listIn_in h1
    unfold dropL
    rw [if_pos h1, List.perm_iff_count]
    intro a
    have q1 := count_set a ll c.toNat (listIn ll c).dropLast h2
    rw [← e1] at q1
    rw [List.count_append]
    have q2 : (if takeB ll c then [takeX ll c] else []).count a + (listIn ll c).dropLast.count a = (listIn ll c).count a := by
      unfold takeB takeX
      rcases List.eq_nil_or_concat (listIn ll c) with h | ⟨l, x, h⟩
      · rw [h]; simp
      · rw [h]; simp [List.count_append]; omega
    omega
theorem drain_perm {ll : List (List Int)} {c : Int} : (listIn ll c ++ (drainL ll c).flatten).Perm ll.flatten := by
  cases h1 : inR ll c
  · have e := (listIn_out h1).1
    unfold drainL
    rw [e, h1]; simp
  · obtain ⟨e1, h2, h3⟩ := listIn_in h1
    unfold drainL
    rw [if_pos h1, List.perm_iff_count]
    intro a
    have q1 := count_set a ll c.toNat [] h2
    rw [← e1] at q1
    rw [List.count_append]
    simpa using q1

/-! ### The marks -/
def ind (S : List Int) : List Int := (List.range 1024).map fun (i : Nat) => if (i : Int) ∈ S then 1 else 0
theorem ind_len (S : List Int) : (ind S).length = 1024 := by simp [ind]
theorem ind_get (S : List Int) {k : Nat} (h : k < 1024) : nth (ind S) k = if (k : Int) ∈ S then 1 else 0 := by
  rw [nth_eq (by rw [ind_len]; exact h)]
  simp [ind]
theorem ind_perm {S T : List Int} (h : S.Perm T) : ind S = ind T := by
  unfold ind
  apply List.map_congr_left
  intro i _
  simp only [h.mem_iff]
theorem ind_set1 (S : List Int) (k : Nat) : (ind S).set k 1 = ind ((k : Int) :: S) := by
  apply List.ext_getElem
  · simp [ind]
  · intro i h1 h2
    simp only [ind, List.length_set, List.length_map, List.length_range] at h1
    rw [List.getElem_set]
    simp only [ind, List.getElem_map, List.getElem_range, List.mem_cons]
    by_cases h : k = i
    · subst h; simp
    · rw [if_neg h]
      have : ¬ ((i : Int) = (k : Int)) := by omega
      simp [this]
theorem ind_set0 (S : List Int) (k : Nat) (hk : (k : Int) ∉ S) : (ind ((k : Int) :: S)).set k 0 = ind S := by
  apply List.ext_getElem
  · simp [ind]
  · intro i h1 h2
    simp only [ind, List.length_set, List.length_map, List.length_range] at h1
    rw [List.getElem_set]
    simp only [ind, List.getElem_map, List.getElem_range, List.mem_cons]
    by_cases h : k = i
    · subst h; simp [hk]
    · rw [if_neg h]
      have : ¬ ((i : Int) = (k : Int)) := by omega
      simp [this]
theorem ind_nil : ind [] = List.replicate 1024 0 := by
  unfold ind
  simp only [List.not_mem_nil, if_false]
  rw [List.map_const', List.length_range]
theorem sum_set : ∀ (l : List Int) (k : Nat) (v : Int), k < l.length → (l.set k v).sum + nth l k = l.sum + v
  | [], k, _, h => by simp at h
  | x :: t, 0, v, _ => by rw [nth_eq (by simp)]; simp; omega
  | x :: t, k + 1, v, h => by
    have h' : k < t.length := by simpa using h
    have := sum_set t k v h'
    rw [nth_eq h'] at this
    rw [nth_eq (by simpa using h)]
    simp only [List.getElem_cons_succ, List.set_cons_succ, List.sum_cons]
    omega
theorem sum_rep0 : ∀ n, (List.replicate n (0 : Int)).sum = 0
  | 0 => rfl
  | n + 1 => by rw [List.replicate_succ, List.sum_cons, sum_rep0 n]; rfl
theorem ind_sum : ∀ (S : List Int), S.Nodup → (∀ x ∈ S, 0 ≤ x ∧ x < 1024) → (ind S).sum = S.length
  | [], _, _ => by rw [ind_nil, sum_rep0]; rfl
  | x :: S, hn, hr => by
    obtain ⟨h0, h1⟩ := hr x (by simp)
    rw [List.nodup_cons] at hn
    obtain ⟨k, rfl⟩ : ∃ k : Nat, x = (k : Int) := ⟨x.toNat, by omega⟩
    have ih := ind_sum S hn.2 (fun y hy => hr y (by simp [hy]))
    rw [← ind_set1]
    have := sum_set (ind S) k 1 (by rw [ind_len]; omega)
    rw [ind_get S (by omega), if_neg hn.1] at this
    simp only [List.length_cons]
    omega
theorem sum_take_succ {l : List Int} {k : Nat} (h : k < l.length) : (l.take (k + 1)).sum = (l.take k).sum + nth l k := by
  rw [take_nth h, List.sum_append]; simp
theorem ind_take_bd (S : List Int) : ∀ k, 0 ≤ ((ind S).take k).sum ∧ ((ind S).take k).sum ≤ k
  | 0 => by simp
  | k + 1 => by
    have := ind_take_bd S k
    by_cases h : k < 1024
    · rw [sum_take_succ (by rw [ind_len]; exact h), ind_get S h]
      split <;> omega
    · rw [List.take_of_length_le (by rw [ind_len]; omega)] at this ⊢
      omega
def flen (ll : List (List Int)) : Nat := ll.flatten.length
theorem flat_take_succ {ll : List (List Int)} {k : Nat} (h : k < ll.length) : (flen (ll.take (k + 1)) : Int) = flen (ll.take k) + (nth ll k).length := by
  unfold flen; rw [take_nth h]; simp
theorem flat_le {ll : List (List Int)} {cap : Int} (h : NOk ll cap) : ∀ k, ((flen (ll.take k) : Nat) : Int) ≤ k * 64
  | 0 => by simp [flen]
  | k + 1 => by
    have ih := flat_le h k
    by_cases hk : k < ll.length
    · rw [flat_take_succ hk]
      have := h.lens _ (nth_mem hk)
      have := h.cap1
      omega
    · rw [List.take_of_length_le (by omega)] at ih ⊢
      omega
theorem bring_id (w : World) (x n : Int) (h1 : 1 ≤ n) (h2 : n ≤ 4096) (h3 : 0 ≤ x) (h4 : x < n) :
    Calls Try.prog 39 #[.int .i64 x, .int .i64 n] w fun e w' => e = .returned (.int .i64 x) ∧ w = w' := by
  have := bring_spec w x n h1 h2
  rw [Int.emod_eq_of_lt h3 h4] at this
  exact this
end Go.Proofs.Ytjkknjohmekeiaa
