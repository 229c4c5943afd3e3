/- Near pages: Put that is taken. No condition but that a list is no longer than 1024. -/
import Derived.Test.YtjkknjohmekeiaaNearD
namespace Go.Proofs.Ytjkknjohmekeiaa
open Go.RowKit

set_option maxRecDepth 100000 in
set_option maxHeartbeats 800000 in
theorem near_put_fit (w : World) (nb lb base : Nat) (vs : List Value) (ll : List (List Int)) (cap : Int) (h : NearR w nb lb base vs ll cap) (hb : base ≤ w.heap.size) (c : Nat) (hc : c < ll.length) (page : Int) (hp0 : 0 ≤ page) (hp1 : page < 1024) (hh : hasIn ll page = false)
    (hlen : (nth ll c).length ≤ 1024) (hfit : ((nth ll c).length : Int) + 1 ≤ cap) :
    Calls Try.prog 51 #[.pointer (some ⟨nb, 0, none⟩), .int .i64 c, .int .i64 page] w fun e w' => ∃ a, e = .returned (.tuple #[.slice a 0 0, .int .i64 0]) ∧
      (∃ v', NearR w' nb lb base (vs.set c v') (ll.set c (nth ll c ++ [page])) cap ∧ ∀ x, OwnOf v' x → w.heap.size ≤ x) ∧ Ext (NearF nb lb vs) w w' := by
  have n0 := h.n.cell' (i := 0) rfl
  have hz : ((ll.length : Int) == 0) = false := by rw [beq_eq_false_iff_ne]; omega
  have hrow := h.rows c hc
  obtain ⟨av, cv, ev, hcv⟩ := ownsRow_val hrow
  have c0 := h.l.cell' (i := c) (v := nth vs c) (nth_some (by rw [h.len]; exact hc))
  rw [ev] at c0 hrow
  have hn := h.nums
  have hwb : ∀ x, OwnOf (.slice av (nth ll c).length cv) x → base ≤ x := fun x hx => (hrow.lt x hx).1
  go_enter Try.func51, Try.ntmps51
  go_wp2_with fail
  refine (near_list_at w nb lb base vs ll cap h c hc).mono ?_
  rintro e w1 ⟨rfl, rfl⟩
  go_wp2_with fail
  refine (near_has w nb lb base vs ll cap h hb page).mono ?_
  rintro e w2 ⟨rfl, hx2⟩
  rw [hh]
  have c2 := hx2.cell c0 id
  have hrow2 := ownsRow_ext hrow hx2 (fun _ _ => id)
  have hn2 := (h.n.extNo hx2).cell' (i := 1) rfl
  clear hz n0
  go_wp2_with (at_builtin; refine stop_here ?_)
  refine Stop.mk ?_
  have hxa : Ext No w2 (w2.alloc (.cells #[.int .i64 page] 3)) := (Ext.refl _ _).alloc _
  have hz2 := hx2.size
  refine wpList_app (v := .slice av (nth ll c).length cv) (m := 1) ty_int rfl _ _ rfl rfl (ownsRow_ext hrow2 hxa (fun _ _ => id)) rfl (Rd.of_blk (n := 1) (Blk.new' rfl) rfl (by decide)) (by simp [Value.oneCell']) (by omega) (by unfold maxLen; omega) (by simp only [World.size_alloc]; omega) ?_
  intro v' w3 hown3 hx3 hnil hfr3
  obtain ⟨aw, cw, rfl, hcw⟩ := ownsRow_val hown3
  have e7 : (nth ll c).map int ++ [.int .i64 page] = (nth ll c ++ [page]).map int := by simp [int]
  rw [e7] at hown3
  obtain ⟨ab, rfl, hob, hcw2, hsub⟩ := own_sub (k := 0) hown3 (by omega)
  simp only [Nat.sub_zero, List.drop_zero] at hsub
  have hxA : Ext (OwnOf (.slice av (nth ll c).length cv)) w w3 := ((hx2.transNo hxa).of_no).transSame hx3
  have hnb : ¬ OwnOf (.slice av (nth ll c).length cv) nb := fun ho => by have := hwb _ ho; omega
  have hlbn : ¬ OwnOf (.slice av (nth ll c).length cv) lb := fun ho => by have := hwb _ ho; omega
  have n3 := (h.n.ext hxA hnb).cell' (i := 1) rfl
  have n30 := (h.n.ext hxA hnb).cell' (i := 0) rfl
  have hL3 := h.l.ext hxA hlbn
  clear e7 c0 c2 hn2
  go_wp2_with fail
  refine (clone102_spec _ _ (nth ll c ++ [page]) _ hsub (by simp; omega)).mono ?_
  rintro e w4 ⟨r, rfl, ho4, hx4⟩
  obtain ⟨ar, cr, rfl, hcr⟩ := ownsRow_val ho4
  have f4 := (hL3.extNo hx4).frozen c
  have c4 := (hL3.extNo hx4).cell' (i := c) (v := nth vs c) (nth_some (by rw [h.len]; exact hc))
  rw [ev] at c4
  go_wp2_with fail
  go_ret2
  have hx04 : Ext (OwnOf (nth vs c)) w w4 := by rw [ev]; exact hxA.transNo hx4
  have hnew : ∀ x, OwnOf (.slice ar (nth ll c ++ [page]).length cr) x → w.heap.size ≤ x := fun x hx => by have := (ho4.lt x hx).1; have := hxA.size; omega
  have hput := h.put2 c hc (.slice ar (nth ll c ++ [page]).length cr) (nth ll c ++ [page]) hx04 (ownsRow_base ho4 (by have := hxA.size; omega)) (fun j x hj _ ho ho2 => by have := hnew x ho; have := ((h.rows j hj).lt x ho2).2; omega)
  have e1 : (nth ll c ++ [page]).length = (nth ll c).length + 1 := by simp
  refine ⟨some ⟨ab, 0, none⟩, rfl, ⟨.slice ar (nth ll c ++ [page]).length cr, ?_, hnew⟩, ?_⟩
  · rw [e1] at hput ⊢; exact hput
  · exact (hx04.mono (fun x _ ho => .inr (.inr ⟨c, by rw [h.len]; exact hc, ho⟩))).trans (Ext.set1 _ _ _ _) (fun x _ (e : x = lb) => .inr (.inl e))
end Go.Proofs.Ytjkknjohmekeiaa
