/- The readers of both tapes: a byte, two bytes. No condition. -/
import Derived.Test.YtjkknjohmekeiaaProg
import Derived.Test.YtjkknjohmekeiaaBase
namespace Go.Proofs.Ytjkknjohmekeiaa
open Go.RowKit

set_option maxHeartbeats 400000 in
theorem one_spec (w : World) (r : Nat) (F : Nat → Prop) (v : Value) (l : List Nat) (hr : Blk w r [v] 136) (hb : RdB F w v l) (hd : ¬ F r) :
    Calls Try.prog 82 #[.pointer (some ⟨r, 0, none⟩)] w fun e w' => e = .returned (.int .i64 (hd0 l)) ∧ ∃ v', Blk w' r [v'] 136 ∧ RdB F w' v' l.tail ∧ Ext (One r) w w' := by
  have hc := hr.cell' (i := 0) rfl
  have hf := hr.frozen 0
  cases l with
  | nil =>
    obtain ⟨a, cap, rfl, _, _⟩ := hb.1.val
    simp only [List.length_nil] at hc hr hb
    go_enter Try.func82, Try.ntmps82
    go_wp2
    go_ret
    exact ⟨rfl, _, hr, hb, Ext.refl _ _⟩
  | cons x l =>
    obtain ⟨b, off, cap, rfl, h2, h3, h4, h6, h7⟩ := hb.cell
    have hl0 : (((l.length + 1 : Nat) : Int) == 0) = false := by simp; omega
    have ht := Lib.hid hb.tail
    have hne : r ≠ b := fun e => hd (e ▸ h4)
    go_enter Try.func82, Try.ntmps82
    go_wp2
    all_goals
      go_ret
      have ht' := ht.out
      simp only [*, if_true, if_false] at ht'
      exact ⟨rfl, _, hr.set 0 _, ht'.extOne (Ext.set1 _ _ _ _) hd, Ext.set1 _ _ _ _⟩

set_option maxHeartbeats 400000 in
theorem two_spec (w : World) (r : Nat) (F : Nat → Prop) (v : Value) (l : List Nat) (hr : Blk w r [v] 136) (hb : RdB F w v l) (hd : ¬ F r) :
    Calls Try.prog 83 #[.pointer (some ⟨r, 0, none⟩)] w fun e w' => e = .returned (.int .i64 (hd0 l * 256 + hd0 l.tail : Nat)) ∧ ∃ v', Blk w' r [v'] 136 ∧ RdB F w' v' l.tail.tail ∧ Ext (One r) w w' := by
  go_enter Try.func83, Try.ntmps83
  go_wp2_with fail
  refine (one_spec w r F v l hr hb hd).mono ?_
  rintro e w1 ⟨rfl, v1, hr1, hb1, hx1⟩
  have h0 := hd0_lt hb.2
  have h0' := hd0_lt hb1.2
  go_wp2_with fail
  refine (one_spec w1 r F v1 l.tail hr1 hb1 hd).mono ?_
  rintro e w2 ⟨rfl, v2, hr2, hb2, hx2⟩
  have ho := or_byte (hd0 l) (hd0 l.tail) h0 h0'
  go_wp2_with fail
  go_ret
  exact ⟨rfl, v2, hr2, hb2, hx1.transSame hx2⟩

/-! ### The reader of the document's answer -/
set_option maxHeartbeats 400000 in
theorem next_spec (w : World) (r k : Nat) (F : Nat → Prop) (v : Value) (l : List Nat) (hr : Blk w r [v, .int .i64 k] 139) (hb : RdB F w v l) (hd : ¬ F r) (hk : k ≤ l.length) :
    Calls Try.prog 84 #[.pointer (some ⟨r, 0, none⟩)] w fun e w' => e = .returned (.int .i64 (hd0 (l.drop k))) ∧ ∃ k' : Nat, Blk w' r [v, .int .i64 k'] 139 ∧ k' ≤ l.length ∧ l.drop k' = (l.drop k).tail ∧ RdB F w' v l ∧ Ext (One r) w w' := by
  have hc0 := hr.cell' (i := 0) rfl
  have hc1 := hr.cell' (i := 1) rfl
  have hf := hr.frozen 1
  obtain ⟨a, cap, rfl, hcap1, hcap2⟩ := hb.1.val
  by_cases hlt : k < l.length
  · obtain ⟨b, off, cap', h1, h2, h3, h4, h6, h7⟩ := hb.cellAt hlt
    cases h1
    have hge : decide (((l.length : Nat) : Int) ≤ (k : Int)) = false := by simp; omega
    have hdr := Lib.hid (drop_nth hlt)
    have hne : r ≠ b := fun e => hd (e ▸ h4)
    go_enter Try.func84, Try.ntmps84
    go_wp2
    go_quiet (fail)
    go_wp2
    go_quiet (fail)
    go_wp2
    go_ret
    refine ⟨?_, k + 1, ((hr.drewN _).set 1 _).drewN _, by omega, ?_, hb.extOne ?_ hd, ?_⟩
    · rw [hdr.out]; rfl
    · rw [hdr.out]; rfl
    · exact (((Ext.refl (One r) _).drewN _).transSame (Ext.set1 _ _ _ _)).drewN _
    · exact (((Ext.refl (One r) _).drewN _).transSame (Ext.set1 _ _ _ _)).drewN _
  · have hge : decide (((l.length : Nat) : Int) ≤ (k : Int)) = true := by simp; omega
    have hdr := Lib.hid (List.drop_eq_nil_of_le (show l.length ≤ k by omega))
    go_enter Try.func84, Try.ntmps84
    go_wp2
    go_quiet (fail)
    go_wp2
    go_ret
    exact ⟨by rw [hdr.out]; rfl, k, hr.drewN _, hk, by rw [hdr.out]; rfl, hb.extOne ((Ext.refl _ _).drewN _) hd, (Ext.refl _ _).drewN _⟩

/-- The answer's reader in block r, over the bytes l that lie in blocks from lo on and below hi: 'rest' is still to be read. -/
def Rdr (w : World) (r : Nat) (F : Nat → Prop) (v : Value) (l rest : List Nat) : Prop := ∃ k : Nat, Blk w r [v, .int .i64 k] 139 ∧ k ≤ l.length ∧ l.drop k = rest ∧ RdB F w v l

theorem Rdr.lt {w : World} {r : Nat} {F : Nat → Prop} {v : Value} {l rest : List Nat} (h : Rdr w r F v l rest) : ∀ x ∈ rest, x < 256 := by
  obtain ⟨k, _, _, rfl, hb⟩ := h
  exact fun x hx => hb.2 x (List.mem_of_mem_drop hx)

theorem next_rdr (w : World) (r : Nat) (F : Nat → Prop) (v : Value) (l rest : List Nat) (h : Rdr w r F v l rest) (hd : ¬ F r) :
    Calls Try.prog 84 #[.pointer (some ⟨r, 0, none⟩)] w fun e w' => e = .returned (.int .i64 (hd0 rest)) ∧ Rdr w' r F v l rest.tail ∧ Ext (One r) w w' := by
  obtain ⟨k, hr, hk, rfl, hb⟩ := h
  exact (next_spec w r k F v l hr hb hd hk).mono fun e w' ⟨he, k', h1, h2, h3, h4, h5⟩ => ⟨he, ⟨k', h1, h2, h3, h4⟩, h5⟩

set_option maxHeartbeats 400000 in
theorem two2_rdr (w : World) (r : Nat) (F : Nat → Prop) (v : Value) (l rest : List Nat) (h : Rdr w r F v l rest) (hd : ¬ F r) :
    Calls Try.prog 85 #[.pointer (some ⟨r, 0, none⟩)] w fun e w' => e = .returned (.int .i64 (hd0 rest * 256 + hd0 rest.tail : Nat)) ∧ Rdr w' r F v l rest.tail.tail ∧ Ext (One r) w w' := by
  have h0 := hd0_lt h.lt
  go_enter Try.func85, Try.ntmps85
  go_wp2_with fail
  refine (next_rdr w r F v l rest h hd).mono ?_
  rintro e w1 ⟨rfl, h1, hx1⟩
  have h0' := hd0_lt h1.lt
  go_wp2_with fail
  refine (next_rdr w1 r F v l _ h1 hd).mono ?_
  rintro e w2 ⟨rfl, h2, hx2⟩
  go_wp2_with fail
  go_ret
  exact ⟨rfl, h2, hx1.transSame hx2⟩

/-- The program's reader in block r: 'rest' is still to be read. -/
def Rdp (w : World) (r : Nat) (F : Nat → Prop) (rest : List Nat) : Prop := ∃ v, Blk w r [v] 136 ∧ RdB F w v rest
theorem Rdp.lt {w : World} {r : Nat} {F : Nat → Prop} {rest : List Nat} (h : Rdp w r F rest) : ∀ x ∈ rest, x < 256 := by
  obtain ⟨v, _, hb⟩ := h
  exact hb.2
theorem one_rdp (w : World) (r : Nat) (F : Nat → Prop) (rest : List Nat) (h : Rdp w r F rest) (hd : ¬ F r) :
    Calls Try.prog 82 #[.pointer (some ⟨r, 0, none⟩)] w fun e w' => e = .returned (.int .i64 (hd0 rest)) ∧ Rdp w' r F rest.tail ∧ Ext (One r) w w' := by
  obtain ⟨v, hr, hb⟩ := h
  exact (one_spec w r F v rest hr hb hd).mono fun e w' ⟨he, v', h1, h2, h3⟩ => ⟨he, ⟨v', h1, h2⟩, h3⟩
theorem two_rdp (w : World) (r : Nat) (F : Nat → Prop) (rest : List Nat) (h : Rdp w r F rest) (hd : ¬ F r) :
    Calls Try.prog 83 #[.pointer (some ⟨r, 0, none⟩)] w fun e w' => e = .returned (.int .i64 (hd0 rest * 256 + hd0 rest.tail : Nat)) ∧ Rdp w' r F rest.tail.tail ∧ Ext (One r) w w' := by
  obtain ⟨v, hr, hb⟩ := h
  exact (two_spec w r F v rest hr hb hd).mono fun e w' ⟨he, v', h1, h2, h3⟩ => ⟨he, ⟨v', h1, h2⟩, h3⟩
theorem Rdr.ext {S : Nat → Prop} {w w' : World} {r : Nat} {F : Nat → Prop} {v : Value} {l rest : List Nat} (h : Rdr w r F v l rest) (hx : Ext S w w') (hr : ¬ S r) (hS : ∀ x, F x → ¬ S x) : Rdr w' r F v l rest := by
  obtain ⟨k, h1, h2, h3, h4⟩ := h
  exact ⟨k, h1.ext hx hr, h2, h3, h4.ext hx hS⟩
theorem Rdp.ext {S : Nat → Prop} {w w' : World} {r : Nat} {F : Nat → Prop} {rest : List Nat} (h : Rdp w r F rest) (hx : Ext S w w') (hr : ¬ S r) (hS : ∀ x, F x → ¬ S x) : Rdp w' r F rest := by
  obtain ⟨v, h1, h4⟩ := h
  exact ⟨v, h1.ext hx hr, h4.ext hx hS⟩
end Go.Proofs.Ytjkknjohmekeiaa
