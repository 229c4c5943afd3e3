/- Buddies in memory: free, lay. Orders lie between 0 and 10. -/
import Derived.Test.YtjkknjohmekeiaaBuddyA
namespace Go.Proofs.Ytjkknjohmekeiaa
open Go.RowKit

/-- Buddies at block bb, their pages in the row v. -/
structure BR (w : World) (bb base : Nat) (v : Value) (l : List T3) (T : TypeId := 126) : Prop where
  b : Blk w bb [v] T
  p : w.ownsRow base 98 3 v l.length (t3sCells l)
  ne : ¬ OwnOf v bb
  n : l.length ≤ 1024
section
variable {S : Nat → Prop} {w w' : World} {bb base : Nat} {v : Value} {l : List T3} {T : TypeId}
theorem BR.ext (h : BR w bb base v l T) (hx : Ext S w w') (h1 : ¬ S bb) (h2 : ∀ x, OwnOf v x → ¬ S x) : BR w' bb base v l T :=
  ⟨h.b.ext hx h1, ownsRow_ext h.p hx (fun k hk => h2 k hk), h.ne, h.n⟩
theorem BR.extNo (h : BR w bb base v l T) (hx : Ext No w w') : BR w' bb base v l T := h.ext hx id (fun _ _ => id)
theorem BR.rd (h : BR w bb base v l T) : RdT (OwnOf v) w v l := own_rdT h.p
theorem BR.val (h : BR w bb base v l T) : ∃ a cap, v = .slice a l.length cap ∧ l.length ≤ cap ∧ cap ≤ 9223372036854775807 := h.rd.val
end

def freeB (l : List T3) (i o : Nat) : Bool := decide (i < l.length) && decide (nth l i = ⟨0, o, 0⟩)

set_option maxRecDepth 100000 in
set_option maxHeartbeats 1600000 in
theorem free115_spec (w : World) (bb base : Nat) (v : Value) (l : List T3) (h : BR w bb base v l) (i o : Nat) (hi : i < 4611686018427387904) :
    Calls Try.prog 115 #[.pointer (some ⟨bb, 0, none⟩), .agg #[.int .i64 i, .int .i64 o]] w fun e w' => e = .returned (.bool (freeB l i o)) ∧ Ext No w w' := by
  obtain ⟨a, cap, rfl, hlc, hcap⟩ := h.val
  have hx : Ext No w (w.alloc (.cells #[.int .i64 i, .int .i64 o] 162)) := (Ext.refl _ _).alloc _
  have h0 := h.b.cell' (i := 0) rfl
  have hlt := h.b.lt
  by_cases hi2 : i < l.length
  · obtain ⟨b, off, rfl, hbl, _, x0, x1, x2⟩ := h.rd.at hi2
    have hd : decide ((i : Int) < l.length) = true := decide_eq_true (by omega)
    by_cases he : nth l i = ⟨0, o, 0⟩
    · have hr : Hid (freeB l i o = true) := by show _ = _; unfold freeB; rw [decide_eq_true hi2, decide_eq_true he]; rfl
      have e1 : ((nth l i).a == 0) = true := by rw [he]; rfl
      have e2 : ((nth l i).b == (o : Int)) = true := by rw [he]; simp
      have e3 : ((nth l i).c == 0) = true := by rw [he]; rfl
      clear he
      go_enter Try.func115, Try.ntmps115
      go_wp2
      go_quiet (fail)
      go_wp2
      go_ret
      exact ⟨by rw [hr.out]; rfl, hx.drewN _⟩
    · have hr : Hid (freeB l i o = false) := by show _ = _; unfold freeB; rw [decide_eq_false he, Bool.and_false]
      rcases T3.ne_cases he with e1 | ⟨e1, e2⟩ | ⟨e1, e2, e3⟩
      all_goals
        clear he
        go_enter Try.func115, Try.ntmps115
        go_wp2
        go_quiet (fail)
        go_wp2
        go_ret
        exact ⟨by rw [hr.out]; rfl, hx.drewN _⟩
  · have hr : Hid (freeB l i o = false) := by show _ = _; unfold freeB; rw [decide_eq_false hi2]; rfl
    have hd : decide ((i : Int) < l.length) = false := decide_eq_false (by omega)
    go_enter Try.func115, Try.ntmps115
    go_wp2
    go_quiet (fail)
    go_wp2
    go_ret
    exact ⟨by rw [hr.out]; rfl, hx.drewN _⟩
end Go.Proofs.Ytjkknjohmekeiaa
