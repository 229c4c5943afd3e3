/- Near pages: Put that gives pages back. No condition but that a list is no longer than 1024. -/
import Derived.Test.YtjkknjohmekeiaaNearE
namespace Go.Proofs.Ytjkknjohmekeiaa
open Go.RowKit

theorem own_sub2 {w : World} {base e n cap k : Nat} {a : Option Addr} {xs : List Int} (h : w.ownsRow base e 1 (.slice a n cap) n (xs.map int)) (hn : 0 < n) (hk : k ≤ n) :
    ∃ b, a = some ⟨b, 0, none⟩ ∧ OwnOf (.slice a n cap) b ∧ n ≤ cap ∧ cap ≤ 9223372036854775807 ∧ RdI (One b) w (.slice (some ⟨b, k, none⟩) (n - k) (cap - k)) (xs.drop k) := by
  have hl : xs.length = n := by have := h.1; simpa using this
  rcases Nat.lt_or_ge k n with h1 | h1
  · obtain ⟨b, e1, e2, e3, e4⟩ := own_sub h h1
    obtain ⟨b', cap', ev, _, g2, _⟩ := own_at h hn
    cases ev
    exact ⟨b, e1, e2, e3, g2, e4⟩
  · obtain ⟨b, cap', ev, g1, g2, g3, _⟩ := own_at h hn
    cases ev
    have e0 : k = n := by omega
    subst e0
    refine ⟨b, rfl, g3, g1, g2, ?_⟩
    rw [List.drop_of_length_le (by omega), Nat.sub_self]
    exact ⟨_, _, rfl, by simp, by simp, by unfold maxLen; omega, fun hne => absurd rfl hne⟩

theorem own_blk {w : World} {base e n cap b off : Nat} {xs : List Value} (h : w.ownsRow base e 1 (.slice (some ⟨b, off, none⟩) n cap) n xs) :
    off = 0 ∧ ∃ cs, Blk w b cs e ∧ cs.take n = xs ∧ cs.length = cap ∧ base ≤ b := by
  obtain ⟨hl, ⟨e1, _⟩ | ⟨g, cap', cur, e1, hb, hg, hn, hm, hs, ht⟩⟩ := h
  · cases e1
  · cases e1
    refine ⟨rfl, cur.toList, ?_, by simpa using ht, by simpa using hs, hb⟩
    unfold Blk; rw [hg]

set_option maxRecDepth 100000 in
set_option maxHeartbeats 800000 in
theorem near_put_spill (w : World) (nb lb base : Nat) (vs : List Value) (ll : List (List Int)) (cap : Int) (h : NearR w nb lb base vs ll cap) (hb : base ≤ w.heap.size) (c : Nat) (hc : c < ll.length) (page : Int) (hp0 : 0 ≤ page) (hp1 : page < 1024) (hh : hasIn ll page = false)
    (hlen : (nth ll c).length ≤ 1024) (hcap : 0 ≤ cap) (hfit : cap < ((nth ll c).length : Int) + 1) (k : Nat) (hk : ((nth ll c).length + 2) / 2 = k) :
    Calls Try.prog 51 #[.pointer (some ⟨nb, 0, none⟩), .int .i64 c, .int .i64 page] w fun e w' => ∃ a cs, e = .returned (.tuple #[.slice (some ⟨a, 0, none⟩) k k, .int .i64 0]) ∧ Blk w' a cs 3 ∧ cs.take k = ((nth ll c ++ [page]).take k).map int ∧ (NearF nb lb vs a ∨ w.heap.size ≤ a) ∧
      (∃ v', NearR w' nb lb base (vs.set c v') (ll.set c ((nth ll c ++ [page]).drop k)) cap ∧ (∀ x, OwnOf v' x → w.heap.size ≤ x) ∧ ¬ NearF nb lb (vs.set c v') a) ∧ Ext (NearF nb lb vs) w w' := by
  have n0 := h.n.cell' (i := 0) rfl
  have hz : ((ll.length : Int) == 0) = false := by rw [beq_eq_false_iff_ne]; omega
  have hrow := h.rows c hc
  obtain ⟨av, cv, ev, hcv⟩ := ownsRow_val hrow
  have c0 := h.l.cell' (i := c) (v := nth vs c) (nth_some (by rw [h.len]; exact hc))
  rw [ev] at c0 hrow
  have hn := h.nums
  have hwb : ∀ x, OwnOf (.slice av (nth ll c).length cv) x → base ≤ x := fun x hx => (hrow.lt x hx).1
  go_enter Try.func51, Try.ntmps51
  go_wp2_with fail
  refine (near_list_at w nb lb base vs ll cap h c hc).mono ?_
  rintro e w1 ⟨rfl, rfl⟩
  go_wp2_with fail
  refine (near_has w nb lb base vs ll cap h hb page).mono ?_
  rintro e w2 ⟨rfl, hx2⟩
  rw [hh]
  have c2 := hx2.cell c0 id
  have hrow2 := ownsRow_ext hrow hx2 (fun _ _ => id)
  have hn2 := (h.n.extNo hx2).cell' (i := 1) rfl
  clear hz n0
  go_wp2_with (at_builtin; refine stop_here ?_)
  refine Stop.mk ?_
  have hxa : Ext No w2 (w2.alloc (.cells #[.int .i64 page] 3)) := (Ext.refl _ _).alloc _
  have hz2 := hx2.size
  refine wpList_app (v := .slice av (nth ll c).length cv) (m := 1) ty_int rfl _ _ rfl rfl (ownsRow_ext hrow2 hxa (fun _ _ => id)) rfl (Rd.of_blk (n := 1) (Blk.new' rfl) rfl (by decide)) (by simp [Value.oneCell']) (by omega) (by unfold maxLen; omega) (by simp only [World.size_alloc]; omega) ?_
  intro v' w3 hown3 hx3 hnil hfr3
  obtain ⟨aw, cw, rfl, hcw⟩ := ownsRow_val hown3
  have e7 : (nth ll c).map int ++ [.int .i64 page] = (nth ll c ++ [page]).map int := by simp [int]
  rw [e7] at hown3
  have hkn : k ≤ (nth ll c).length + 1 := by omega
  obtain ⟨ab, rfl, hob, hcw2, hcw3, hsub⟩ := own_sub2 (k := k) hown3 (by omega) hkn
  have hxA : Ext (OwnOf (.slice av (nth ll c).length cv)) w w3 := ((hx2.transNo hxa).of_no).transSame hx3
  have hnb : ¬ OwnOf (.slice av (nth ll c).length cv) nb := fun ho => by have := hwb _ ho; omega
  have hlbn : ¬ OwnOf (.slice av (nth ll c).length cv) lb := fun ho => by have := hwb _ ho; omega
  have n3 := (h.n.ext hxA hnb).cell' (i := 1) rfl
  have n30 := (h.n.ext hxA hnb).cell' (i := 0) rfl
  have hL3 := h.l.ext hxA hlbn
  obtain ⟨_, cs3, hB3, htk3, _, hbab⟩ := own_blk hown3
  have hB3' := Lib.hid hB3
  have hab3 := hB3.lt
  have htk3' : Hid (cs3.take k = ((nth ll c ++ [page]).take k).map int) := by
    show _ = _
    rw [List.map_take, ← htk3, List.take_take, Nat.min_eq_left (by omega)]
  have hfa := hfr3 ab hob
  have hold : Hid (NearF nb lb vs ab ∨ w.heap.size ≤ ab) := by
    show _ ∨ _
    rcases hfa with h1 | h1
    · exact .inl (.inr (.inr ⟨c, by rw [h.len]; exact hc, by rw [ev]; exact h1⟩))
    · exact .inr (by simp only [World.size_alloc] at h1; omega)
  have hnot : ∀ v', (∀ x, OwnOf v' x → w3.heap.size ≤ x) → ¬ NearF nb lb (vs.set c v') ab := by
    intro v' hv' hN
    rcases hN with e | e | ⟨i, hi, ho⟩
    · omega
    · omega
    · rw [List.length_set] at hi
      by_cases hic : i = c
      · subst hic
        rw [nth_eq (by simpa using hi)] at ho
        simp only [List.getElem_set_self] at ho
        have := hv' _ ho; omega
      · have hi2 : i < ll.length := by rw [← h.len]; exact hi
        rw [nth_eq (by simpa using hi), List.getElem_set_ne (fun e => hic e.symm), ← nth_eq hi] at ho
        rcases hfa with h1 | h1
        · exact hic (h.apart i c ab hi2 hc ho (by rw [ev]; exact h1))
        · have := ((h.rows i hi2).lt ab ho).2; simp only [World.size_alloc] at h1; omega
  clear hB3 htk3 hfa
  have hnot' := Lib.hid hnot; clear hnot
  clear e7 c0 c2 hn2
  by_cases hck : cw = k
  · have hdr : Hid ((nth ll c ++ [page]).drop k = []) := by show _ = _; apply List.drop_of_length_le; simp; omega
    have hck1 : cw - k = 0 := by omega
    have hsubE : RdI (One ab) w3 (.slice (some ⟨ab, 0, none⟩) ((nth ll c).length + 1 - k) 0) ((nth ll c ++ [page]).drop k) := by
      have e0 : ((nth ll c ++ [page]).drop k).length = (nth ll c).length + 1 - k := by simp
      unfold RdI
      rw [e0]
      refine ⟨_, _, rfl, by simp, by omega, by unfold maxLen; omega, fun hne => absurd (by rw [hdr.out]; rfl) hne⟩
    have hck' := Lib.hid hck; clear hck
    go_wp2_with fail
    refine (clone102_spec _ _ ((nth ll c ++ [page]).drop k) _ hsubE (by simp; omega)).mono ?_
    rintro e w4 ⟨r, rfl, ho4, hx4⟩
    obtain ⟨ar, cr, rfl, hcr⟩ := ownsRow_val ho4
    have f4 := (hL3.extNo hx4).frozen c
    have c4 := (hL3.extNo hx4).cell' (i := c) (v := nth vs c) (nth_some (by rw [h.len]; exact hc))
    rw [ev] at c4
    go_wp2_with fail
    go_ret2
    have hx04 : Ext (OwnOf (nth vs c)) w w4 := by rw [ev]; exact hxA.transNo hx4
    have hnew : ∀ x, OwnOf (.slice ar ((nth ll c ++ [page]).drop k).length cr) x → w.heap.size ≤ x := fun x hx => by have := (ho4.lt x hx).1; have := hxA.size; omega
    have hput := h.put2 c hc (.slice ar ((nth ll c ++ [page]).drop k).length cr) ((nth ll c ++ [page]).drop k) hx04 (ownsRow_base ho4 (by have := hxA.size; omega)) (fun j x hj _ ho ho2 => by have := hnew x ho; have := ((h.rows j hj).lt x ho2).2; omega)
    have e1 : ((nth ll c ++ [page]).drop k).length = (nth ll c).length + 1 - k := by simp
    have hset : Ext (One lb) w4 (w4.setCell ⟨lb, c, none⟩ (.slice ar ((nth ll c ++ [page]).drop k).length cr)) := Ext.set1 _ _ _ _
    have hnotv := hnot'.out (.slice ar ((nth ll c ++ [page]).drop k).length cr) (fun x hx => (ho4.lt x hx).1)
    have hBf := (hB3'.out.extNo hx4).ext hset (fun e : ab = lb => by omega)
    refine ⟨ab, cs3, by subst hk; rfl, ?_, htk3'.out, hold.out, ⟨.slice ar ((nth ll c ++ [page]).drop k).length cr, ?_, hnew, hnotv⟩, ?_⟩
    · rw [e1] at hBf; exact hBf
    · rw [e1] at hput ⊢; exact hput
    · exact (hx04.mono (fun x _ ho => .inr (.inr ⟨c, by rw [h.len]; exact hc, ho⟩))).trans (Ext.set1 _ _ _ _) (fun x _ (e : x = lb) => .inr (.inl e))
  have hck2 : 0 < cw - k := by omega
  go_wp2_with fail
  refine (clone102_spec _ _ ((nth ll c ++ [page]).drop k) _ hsub (by simp; omega)).mono ?_
  rintro e w4 ⟨r, rfl, ho4, hx4⟩
  obtain ⟨ar, cr, rfl, hcr⟩ := ownsRow_val ho4
  have f4 := (hL3.extNo hx4).frozen c
  have c4 := (hL3.extNo hx4).cell' (i := c) (v := nth vs c) (nth_some (by rw [h.len]; exact hc))
  rw [ev] at c4
  go_wp2_with fail
  go_ret2
  have hx04 : Ext (OwnOf (nth vs c)) w w4 := by rw [ev]; exact hxA.transNo hx4
  have hnew : ∀ x, OwnOf (.slice ar ((nth ll c ++ [page]).drop k).length cr) x → w.heap.size ≤ x := fun x hx => by have := (ho4.lt x hx).1; have := hxA.size; omega
  have hput := h.put2 c hc (.slice ar ((nth ll c ++ [page]).drop k).length cr) ((nth ll c ++ [page]).drop k) hx04 (ownsRow_base ho4 (by have := hxA.size; omega)) (fun j x hj _ ho ho2 => by have := hnew x ho; have := ((h.rows j hj).lt x ho2).2; omega)
  have e1 : ((nth ll c ++ [page]).drop k).length = (nth ll c).length + 1 - k := by simp
  have hset : Ext (One lb) w4 (w4.setCell ⟨lb, c, none⟩ (.slice ar ((nth ll c ++ [page]).drop k).length cr)) := Ext.set1 _ _ _ _
  have hnotv := hnot'.out (.slice ar ((nth ll c ++ [page]).drop k).length cr) (fun x hx => (ho4.lt x hx).1)
  have hBf := (hB3'.out.extNo hx4).ext hset (fun e : ab = lb => by omega)
  refine ⟨ab, cs3, by subst hk; rfl, ?_, htk3'.out, hold.out, ⟨.slice ar ((nth ll c ++ [page]).drop k).length cr, ?_, hnew, hnotv⟩, ?_⟩
  · rw [e1] at hBf; exact hBf
  · rw [e1] at hput ⊢; exact hput
  · exact (hx04.mono (fun x _ ho => .inr (.inr ⟨c, by rw [h.len]; exact hc, ho⟩))).trans (Ext.set1 _ _ _ _) (fun x _ (e : x = lb) => .inr (.inl e))
end Go.Proofs.Ytjkknjohmekeiaa
