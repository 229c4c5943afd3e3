/- append, over this program's element types, in this seat's words. No condition. -/
import Derived.Test.YtjkknjohmekeiaaProg
import Derived.Test.YtjkknjohmekeiaaBase
import Derived.Maps.AppendAt
namespace Go.Proofs.Ytjkknjohmekeiaa
open Go.RowKit

/-- t is the type of slices of e, whose elements take so many cells and bytes. -/
structure SlTy (t e size bytes : Nat) : Prop where
  under : Try.prog.underlying t = some (.slice e)
  info : ∃ i z, Try.prog.info? e = some i ∧ i.zero = some z ∧ i.size = size ∧ i.bytes = bytes ∧ z.cells.size = size
  pos : 0 < size

theorem SlTy.mk' {t e size bytes : Nat} {z : Value} (h : (Try.prog.info? e).map (fun i => (i.zero, i.size, i.bytes)) = some (some z, size, bytes)) (hu : Try.prog.underlying t = some (.slice e)) (hz : z.cells.size = size) (hp : 0 < size) : SlTy t e size bytes := by
  obtain ⟨i, h1, h2, h3, h4⟩ := info_parts h
  exact ⟨hu, ⟨i, z, h1, h2, h3, h4, hz⟩, hp⟩

section
variable {t e size bytes base : Nat} {w : World} {v xv : Value} {n m : Nat} {xs news : List Value} {F : Nat → Prop}

theorem ownsRow_val (h : w.ownsRow base e size v n xs) : ∃ a cap, v = .slice a n cap ∧ n ≤ cap := by
  obtain ⟨_, ⟨rfl, rfl⟩ | ⟨g, cap, cur, rfl, _, _, hc, _⟩⟩ := h
  · exact ⟨none, 0, rfl, Nat.le_refl _⟩
  · exact ⟨_, cap, rfl, hc⟩

/-- append of what is read to what is owned: the run. -/
theorem app_run (T : SlTy t e size bytes) (ty : TypeId) (hown : w.ownsRow base e size v n xs) (hx : Rd F w xv m size news) (h1 : ∀ u ∈ news, u.oneCell' = true)
    (hbytes : (n + m) * bytes ≤ 140737488355328) (h63 : n + m ≤ maxLen) (hbase : base ≤ w.heap.size) :
    ∃ v' w', (Builtin.append_ #[t, t] ty #[v, xv]).run Try.prog w = .ok v' w' ∧ w'.ownsRow base e size v' (n + m) (xs ++ news) ∧ Ext (OwnOf v) w w' ∧ (v' = .slice none 0 0 ↔ v = .slice none 0 0 ∧ m = 0) ∧ (∀ x, OwnOf v' x → OwnOf v x ∨ w.heap.size ≤ x) := by
  obtain ⟨i, z, hi, hz, hs, hb, hzs⟩ := T.info
  have hlen := hx.len
  obtain ⟨a, cap, rfl, h3, h4, h5, h6⟩ := hx
  cases a with
  | none =>
    have hm : m = 0 := by
      rcases Nat.eq_zero_or_pos m with h | h
      · exact h
      · exfalso
        have hne : news ≠ [] := by intro e; rw [e] at hlen; simp only [List.length_nil] at hlen; have := Nat.mul_pos h T.pos; omega
        obtain ⟨b, off, h, _⟩ := h6 hne
        cases h
    subst hm
    have hn : news = [] := List.eq_nil_of_length_eq_zero (by simpa using hlen)
    subst hn
    obtain ⟨a', cap', rfl, hc⟩ := ownsRow_val hown
    refine ⟨.slice a' n cap', w, ?_, by simpa using hown, Ext.refl _ _, by simp, fun x hx => .inl hx⟩
    subst hs
    cases a' <;> simp [Builtin.append_, run_underlying T.under, sizeOf, typeInfo, hi, Builtin.lenOf, hc, Builtin.firstCells, storeCells]
  | some ad =>
    have hn' : ∀ j u, news[j]? = some u → w.cell? (ad.add j) = some u := by
      intro j u hu
      have hne : news ≠ [] := by rintro rfl; simp at hu
      obtain ⟨b, off, h, _, _, hc⟩ := h6 hne
      cases h
      have : (⟨b, off, none⟩ : Addr).add j = ⟨b, off + j, none⟩ := by unfold Addr.add; split <;> simp_all
      rw [this]; exact hc j u hu
    obtain ⟨v', w', h1', h2', h3', h4'⟩ := run_append_own (P := Try.prog) w base t ty e i z size bytes T.under hi hz hs hb hzs T.pos v n xs hown ad m cap news hlen hn' h1 h63 hbytes hbase
    refine ⟨v', w', h1', h2', Ext.of_grownBy h3', h4', ?_⟩
    subst hs hb
    obtain ⟨hxl, ⟨rfl, rfl⟩ | ⟨g, c, cur, rfl, hbg, hg, hnc, hcm, hcs, htake⟩⟩ := id hown
    · rcases Nat.eq_zero_or_pos m with rfl | hm
      · have hn0 : news = [] := List.eq_nil_of_length_eq_zero (by simpa using hlen)
        subst hn0
        have : v' = .slice none 0 0 := h4'.2 ⟨rfl, rfl⟩
        subst this
        exact fun x hx => .inl hx
      · have hr := run_append_nil (P := Try.prog) w t ty e i z T.under hi hz ad m cap news hlen hn' hm (by simp only [maxLen] at h63; omega) (by simp only [Nat.zero_add] at hbytes; omega)
        rw [hr] at h1'
        cases h1'
        exact fun x hx => .inr (by simp only [OwnOf, Value.ownBlock, Option.some.injEq] at hx; omega)
    · by_cases hroom : n + m ≤ c
      · have hfit : n * i.size + news.length ≤ cur.size := by rw [hlen, hcs, ← Nat.add_mul]; exact Nat.mul_le_mul_right _ hroom
        have hr := run_append_room (P := Try.prog) w t ty e i T.under hi g n c cur hg ad m cap news hlen hn' h1 hroom hfit
        rw [hr] at h1'
        cases h1'
        exact fun x hx => .inl hx
      · have holds : ∀ j u, xs[j]? = some u → w.cell? ((⟨g, 0, none⟩ : Addr).add j) = some u := hown.cells (g := g) rfl
        have hr := run_append_grow (P := Try.prog) w t ty e i z T.under hi hz ⟨g, 0, none⟩ n c xs hown.1 holds ad m cap news hlen hn' (by omega) (by simp only [maxLen] at h63; omega) (growslice_fits (by omega) hbytes)
        rw [hr] at h1'
        cases h1'
        exact fun x hx => .inr (by simp only [OwnOf, Value.ownBlock, Option.some.injEq] at hx; omega)

/-- append of what is read to what is owned: the walk's step. -/
theorem wpList_app (T : SlTy t e size bytes) {ops : Array Oper} {rest : List Oper} {o : Oper} {a : Act} {Q : Exit → Act → World → Prop} (hgd : o.guard = none) (s x : Operand)
    (ho : o.op = .call { callee := .builtin .append, args := #[s, x], argTypes := #[t, t] })
    (hs : a.eval s = v) (hown : w.ownsRow base e size v n xs) (hx : a.eval x = xv) (hrd : Rd F w xv m size news) (h1 : ∀ u ∈ news, u.oneCell' = true)
    (hbytes : (n + m) * bytes ≤ 140737488355328) (h63 : n + m ≤ maxLen) (hbase : base ≤ w.heap.size)
    (h : ∀ v' w', w'.ownsRow base e size v' (n + m) (xs ++ news) → Ext (OwnOf v) w w' → (v' = .slice none 0 0 ↔ v = .slice none 0 0 ∧ m = 0) → (∀ x, OwnOf v' x → OwnOf v x ∨ w.heap.size ≤ x) → wpList Try.prog ops Q rest (a.put o.dst v') w') :
    wpList Try.prog ops Q (o :: rest) a w :=
  wpList_plain hgd fun _ hK => by
    obtain ⟨v', w', hr, h2, h3, h4, h5⟩ := app_run T o.type hown hrd h1 hbytes h63 hbase
    unfold Oper.wp execOp
    simp only [ho, resolve, invoke, builtin, Sem.run_bind, Sem.run_pure, Result.andThen_ok, List.map_toArray, List.map_cons, List.map_nil, hs, hx, hr]
    exact hK _ _ (h v' w' h2 h3 h4 h5)

/-- The same as one step of a region that draws its order. -/
theorem held_app (T : SlTy t e size bytes) {ops : Array Oper} {o : Oper} {a : Act} {K : Act → World → Prop} {Q : Exit → Act → World → Prop} {E : Prop} (hgd : o.guard = none) (s x : Operand)
    (ho : o.op = .call { callee := .builtin .append, args := #[s, x], argTypes := #[t, t] })
    (hs : a.eval s = v) (hown : w.ownsRow base e size v n xs) (hx : a.eval x = xv) (hrd : Rd F w xv m size news) (h1 : ∀ u ∈ news, u.oneCell' = true)
    (hbytes : (n + m) * bytes ≤ 140737488355328) (h63 : n + m ≤ maxLen) (hbase : base ≤ w.heap.size)
    (h : ∀ v' w', w'.ownsRow base e size v' (n + m) (xs ++ news) → Ext (OwnOf v) w w' → (v' = .slice none 0 0 ↔ v = .slice none 0 0 ∧ m = 0) → (∀ x, OwnOf v' x → OwnOf v x ∨ w.heap.size ≤ x) → K (a.put o.dst v') w') :
    if Region.wanted o (yielded ops a.tmps) = true then Oper.wp Try.prog o a w K Q else E := by
  have hw : Region.wanted o (yielded ops a.tmps) = true := by simp [Region.wanted, hgd]
  rw [if_pos hw]
  obtain ⟨v', w', hr, h2, h3, h4, h5⟩ := app_run T o.type hown hrd h1 hbytes h63 hbase
  unfold Oper.wp execOp
  simp only [ho, resolve, invoke, builtin, Sem.run_bind, Sem.run_pure, Result.andThen_ok, List.map_toArray, List.map_cons, List.map_nil, hs, hx, hr]
  exact h v' w' h2 h3 h4 h5

/-- Owned rows over worlds that extend. -/
theorem ownsRow_ext {S : Nat → Prop} {w w' : World} {base e size n : Nat} {v : Value} {xs : List Value} (h : w.ownsRow base e size v n xs) (hx : Ext S w w') (hS : ∀ k, v.ownBlock = some k → ¬ S k) : w'.ownsRow base e size v n xs := by
  refine ⟨h.1, ?_⟩
  rcases h.2 with hn | ⟨g, cap, cur, rfl, hb, hgg, rest⟩
  · exact .inl hn
  · refine .inr ⟨g, cap, cur, rfl, hb, ?_, rest⟩
    rw [hx.block g (Array.getElem?_eq_some_iff.1 hgg).1 (hS g rfl)]
    exact hgg
end
/-- An owned row of one-cell elements: the cell at a place; what a store there leaves. -/
theorem own_at {w : World} {base e n k : Nat} {v : Value} {xs : List Value} (h : w.ownsRow base e 1 v n xs) (hk : k < n) :
    ∃ b cap, v = .slice (some ⟨b, 0, none⟩) n cap ∧ n ≤ cap ∧ cap ≤ 9223372036854775807 ∧ OwnOf v b ∧ b < w.heap.size ∧ w.cell? ⟨b, k, none⟩ = some (nth xs k) ∧ w.frozen? ⟨b, k, none⟩ = false ∧
      ∀ u, (w.setCell ⟨b, k, none⟩ u).ownsRow base e 1 v n (xs.set k u) := by
  obtain ⟨hl, ⟨rfl, rfl⟩ | ⟨g, cap, cur, rfl, hb, hg, hn, hm, hs, ht⟩⟩ := h
  · omega
  · simp only [Nat.mul_one] at hl hs ht
    refine ⟨g, cap, rfl, hn, by simpa [maxLen] using hm, rfl, (Array.getElem?_eq_some_iff.1 hg).1, ?_, by simp [World.frozen?, hg], fun u => ⟨by simp [hl], .inr ⟨g, cap, cur.setIfInBounds k u, rfl, hb, ?_, hn, hm, by simp [hs], ?_⟩⟩⟩
    · rw [cell_of_row w g k cur e (0, 0) hg]
      have h1 : xs[k]? = some (nth xs k) := nth_some (by omega)
      rw [← h1, ← ht, List.getElem?_take, if_pos hk]; simp
    · simp only [World.setCell, Array.getElem?_modify, hg]; simp
    · simp only [Nat.mul_one, Array.toList_setIfInBounds]
      rw [← ht, List.take_set]
/-- t is the type of slices of e, whose zero is size cells z0. -/
structure MkTy (t e size bytes : Nat) (z0 : Value) : Prop where
  under : Try.prog.underlying t = some (.slice e)
  info : ∃ i z, Try.prog.info? e = some i ∧ i.zero = some z ∧ i.size = size ∧ i.bytes = bytes ∧ z.cells = (List.replicate size z0).toArray
  pos : 0 < size
theorem MkTy.mk' {t e size bytes : Nat} {z z0 : Value} (h : (Try.prog.info? e).map (fun i => (i.zero, i.size, i.bytes)) = some (some z, size, bytes)) (hu : Try.prog.underlying t = some (.slice e)) (hz : z.cells = (List.replicate size z0).toArray) (hp : 0 < size) : MkTy t e size bytes z0 := by
  obtain ⟨i, h1, h2, h3, h4⟩ := info_parts h
  exact ⟨hu, ⟨i, z, h1, h2, h3, h4, hz⟩, hp⟩
theorem madeCells_rep (size : Nat) (hp : 0 < size) (z0 : Value) (n : Nat) : madeCells (List.replicate size z0).toArray n = (List.replicate n z0).toArray := by
  apply Array.ext
  · simp [madeCells]
  · intro i h1 h2
    simp only [madeCells, Array.getElem_map, Array.getElem_range, List.size_toArray, List.length_replicate]
    have : i % size < size := Nat.mod_lt _ hp
    simp [this]
/-- make of n elements: the run. -/
theorem mk_run {t e size bytes : Nat} {z0 : Value} (T : MkTy t e size bytes z0) (n : Nat) (hb : bytes * n ≤ 281474976710656) (h63 : n ≤ 9223372036854775807) (w : World) :
    (Instr.makeSlice t (.int .i64 (n : Int)) (.int .i64 (n : Int))).run Try.prog w = .ok (.slice (some ⟨w.heap.size, 0, none⟩) n n) (w.alloc (.cells (List.replicate (n * size) z0).toArray e)) := by
  obtain ⟨i, z, hi, hz, hs, hb', hzc⟩ := T.info
  have := run_make (P := Try.prog) w t e i z T.under hi hz .i64 .i64 (n : Int) (n : Int) (by omega) (by omega) (by rw [hb', ← Int.natCast_mul]; omega) (by omega)
  rw [this, hzc, hs, madeCells_rep size T.pos]
  simp
theorem mk_rows : MkTy 24 42 1 24 (.slice none 0 0) := .mk' (z := .slice none 0 0) (by kernel_rfl) Try.underlying24 rfl (by decide)
theorem ty_int : SlTy 25 3 1 8 := .mk' (z := .int .i64 0) (by kernel_rfl) Try.underlying25 rfl (by decide)
theorem ty_byte : SlTy 22 5 1 1 := .mk' (z := .int .u8 0) (by kernel_rfl) Try.underlying22 rfl (by decide)
theorem ty_call : SlTy 42 44 4 32 := .mk' (z := .agg #[.int .i64 0, .int .i64 0, .int .i64 0, .int .i64 0]) (by kernel_rfl) Try.underlying42 rfl (by decide)
theorem ty_rows : SlTy 24 42 1 24 := .mk' (z := .slice none 0 0) (by kernel_rfl) Try.underlying24 rfl (by decide)
end Go.Proofs.Ytjkknjohmekeiaa
