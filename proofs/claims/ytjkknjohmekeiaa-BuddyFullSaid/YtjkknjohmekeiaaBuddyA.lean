/- Buddies in memory: size, other, free, lay. Orders lie between 0 and 10. -/
import Derived.Test.YtjkknjohmekeiaaFrameI
namespace Go.Proofs.Ytjkknjohmekeiaa
open Go.RowKit

def pw (o : Nat) : Nat := 2 ^ o
theorem pw_pos (o : Nat) : 1 ≤ pw o := Nat.one_le_two_pow
theorem pw_le {o : Nat} (h : o ≤ 10) : pw o ≤ 1024 := by
  unfold pw
  calc 2 ^ o ≤ 2 ^ 10 := Nat.pow_le_pow_right (by omega) h
    _ = 1024 := rfl
theorem pw_succ (o : Nat) : pw (o + 1) = 2 * pw o := by unfold pw; rw [Nat.pow_succ]; omega
theorem shl_pw {o : Nat} (h : o ≤ 10) : ∀ w, (Op.shift .shl .i64 1 .i64 (o : Int)).run Try.prog w = .ok (.int .i64 (pw o : Nat)) w := by
  intro w
  have z := pw_le h
  rw [shift_shl_i64 (yk := .i64) (x := 1) (y := (o : Int)) (by omega) (by omega)]
  have e : (1 * 2 ^ o : Int) = ((2 ^ o : Nat) : Int) := by rw [Int.one_mul]; norm_cast
  have e2 : IntKind.i64.wrap (1 * 2 ^ ((o : Int)).toNat) = (pw o : Nat) := by
    rw [Int.toNat_natCast, e, IntKind.wrap_i64]
    unfold pw at z ⊢
    obtain ⟨y, hy⟩ : ∃ y : Nat, 2 ^ o = y := ⟨_, rfl⟩
    rw [hy] at z ⊢
    omega
  rw [e2]; rfl
theorem wrap_pw {o : Nat} (h : o ≤ 10) : wrap64 (2 ^ o) = ((pw o : Nat) : Int) := by
  have z := pw_le h
  have e : (2 ^ o : Int) = ((pw o : Nat) : Int) := by unfold pw; norm_cast
  rw [e]
  unfold wrap64
  omega
/-- A block's buddy. -/
def oth (i o : Nat) : Nat := i ^^^ pw o

theorem size141_spec (w : World) (i o : Nat) (h : o ≤ 10) :
    Calls Try.prog 141 #[.agg #[.int .i64 i, .int .i64 o]] w fun e w' => e = .returned (.int .i64 (pw o : Nat)) ∧ Ext No w w' := by
  have hsh := shl_pw h
  go_enter Try.func141, Try.ntmps141
  go_wp2_with fail
  go_ret
  exact ⟨ret_eq (by rw [← wrap_pw h]; rfl), (Ext.refl _ _).alloc _⟩

set_option maxRecDepth 100000 in
set_option maxHeartbeats 1600000 in
theorem other116_spec (w : World) (i o : Nat) (h : o ≤ 10) (hi : i < 4611686018427387904) (hx : oth i o < 4611686018427387904) :
    Calls Try.prog 116 #[.agg #[.int .i64 i, .int .i64 o]] w fun e w' => e = .returned (.agg #[.int .i64 (oth i o : Nat), .int .i64 o]) ∧ Ext No w w' := by
  have hxor : Go.bits .xor .i64 (i : Int) (pw o : Nat) = (oth i o : Nat) := bits_xor_i64 i (pw o) hi (by have := pw_le h; omega) hx
  go_enter Try.func116, Try.ntmps116
  go_wp2_with fail
  obtain ⟨A, hA⟩ : ∃ A, w.heap.size = A := ⟨_, rfl⟩
  obtain ⟨W, hW⟩ : ∃ W, (w.alloc (.cells #[.int .i64 i, .int .i64 o] 162)).alloc (.cells #[.int .i64 0, .int .i64 0] 162) = W := ⟨_, rfl⟩
  have hX : Ext No w W := by rw [← hW]; exact ((Ext.refl _ _).alloc _).alloc _
  have hB0 : Blk W A [.int .i64 i, .int .i64 o] 162 := by rw [← hW]; exact (Blk.new' hA.symm).alloc _
  have hB1 : Blk W (A + 1) [.int .i64 0, .int .i64 0] 162 := by rw [← hW]; exact Blk.new' (by simp [hA])
  rw [hW, hA]
  clear hW
  have hxd : Ext No W W.drew := (Ext.refl No W).drew
  refine anyZ_begin 8 (fun w' => w'.cell? ⟨A, 0, none⟩ = some (.int .i64 i) ∧ w'.cell? ⟨A, 1, none⟩ = some (.int .i64 o)) (by kernel_rfl) ?_
  have hC : (fun w' : World => w'.cell? ⟨A, 0, none⟩ = some (.int .i64 i) ∧ w'.cell? ⟨A, 1, none⟩ = some (.int .i64 o)) W.drew := ⟨hB0.cell' (i := 0) rfl, hB0.cell' (i := 1) rfl⟩
  refine anyZ_take 0 (v := ?_) rfl (by kernel_rfl) (by kernel_rfl) (by kernel_rfl) (by kernel_rfl) (fun _ _ _ h => h) hC (Or.inl ⟨by rfl, ?_⟩) ?_
  rotate_left
  · (intro wq hq; (try dsimp only at hq); go_simp; with_reducible rfl)
  simp only [Act.put, List.setIfInBounds_toArray, List.set_cons_zero, List.set_cons_succ]
  refine anyZ_take 1 (v := ?_) rfl (by kernel_rfl) (by kernel_rfl) (by kernel_rfl) (by kernel_rfl) (fun _ _ _ h => h) hC (Or.inl ⟨by rfl, ?_⟩) ?_
  rotate_left
  · (intro wq hq; (try dsimp only at hq); go_simp; with_reducible rfl)
  simp only [Act.put, List.setIfInBounds_toArray, List.set_cons_zero, List.set_cons_succ]
  refine anyZ_take 2 (v := ?_) rfl (by kernel_rfl) (by kernel_rfl) (by kernel_rfl) (by kernel_rfl) (fun _ _ _ h => h) hC (Or.inl ⟨by rfl, ?_⟩) ?_
  rotate_left
  · (intro wq hq; (try dsimp only at hq); go_simp; with_reducible rfl)
  simp only [Act.put, List.setIfInBounds_toArray, List.set_cons_zero, List.set_cons_succ]
  refine anyZ_take 5 (v := ?_) rfl (by kernel_rfl) (by kernel_rfl) (by kernel_rfl) (by kernel_rfl) (fun _ _ _ h => h) hC (Or.inl ⟨by rfl, ?_⟩) ?_
  rotate_left
  · (intro wq hq; (try dsimp only at hq); go_simp; with_reducible rfl)
  simp only [Act.put, List.setIfInBounds_toArray, List.set_cons_zero, List.set_cons_succ]
  refine anyZ_take 6 (v := ?_) rfl (by kernel_rfl) (by kernel_rfl) (by kernel_rfl) (by kernel_rfl) (fun _ _ _ h => h) hC (Or.inl ⟨by rfl, ?_⟩) ?_
  rotate_left
  · (intro wq hq; (try dsimp only at hq); go_simp; with_reducible rfl)
  simp only [Act.put, List.setIfInBounds_toArray, List.set_cons_zero, List.set_cons_succ]
  refine anyZ_step 3 rfl (by kernel_rfl) (fun K hK => ?_)
  go_simp
  refine (size141_spec _ i o h).mono ?_
  rintro e w1 ⟨rfl, hx1⟩
  have hX1 := hxd.transNo hx1
  have hC1 : (fun w' : World => w'.cell? ⟨A, 0, none⟩ = some (.int .i64 i) ∧ w'.cell? ⟨A, 1, none⟩ = some (.int .i64 o)) w1 := ⟨hX1.cell (hB0.cell' (i := 0) rfl) id, hX1.cell (hB0.cell' (i := 1) rfl) id⟩
  have hB2 := hB1.extNo hX1
  refine hK _ _ hC1 ?_
  clear hK K
  try simp only [Act.put, List.setIfInBounds_toArray, List.set_cons_zero, List.set_cons_succ]
  refine anyZ_take 4 (v := ?_) rfl (by kernel_rfl) (by kernel_rfl) (by kernel_rfl) (by kernel_rfl) (fun _ _ _ h => h) hC1 (Or.inl ⟨by rfl, ?_⟩) ?_
  rotate_left
  · (intro wq hq; (try dsimp only at hq); go_simp; with_reducible rfl)
  simp only [Act.put, List.setIfInBounds_toArray, List.set_cons_zero, List.set_cons_succ]
  refine anyZ_take 7 (v := ?_) rfl (by kernel_rfl) (by kernel_rfl) (by kernel_rfl) (by kernel_rfl) (fun _ _ _ h => h) hC1 (Or.inl ⟨by rfl, ?_⟩) ?_
  rotate_left
  · (intro wq hq; (try dsimp only at hq); go_simp; with_reducible rfl)
  simp only [Act.put, List.setIfInBounds_toArray, List.set_cons_zero, List.set_cons_succ]
  clear hC hC1
  have b0 := hB2.cell' (i := 0) rfl
  have b1 := hB2.cell' (i := 1) rfl
  have f0 := hB2.frozen 0
  have f1 := hB2.frozen 1
  refine anyZ_last rfl (by kernel_rfl) (fun K hK => ?_)
  go_simp
  refine hK _ _ ?_
  clear hK K
  try simp only [Act.put, List.setIfInBounds_toArray, List.set_cons_zero, List.set_cons_succ]
  refine anyZ_done (by kernel_rfl) ?_ _
  have hB3 : Blk ((w1.setCell ⟨A + 1, 0, none⟩ (.int .i64 (oth i o : Nat))).setCell ⟨A + 1, 1, none⟩ (.int .i64 o)) (A + 1) [.int .i64 (oth i o : Nat), .int .i64 o] 162 := (hB2.set 0 _).set 1 _
  have hX3 : Ext No w ((w1.setCell ⟨A + 1, 0, none⟩ (.int .i64 (oth i o : Nat))).setCell ⟨A + 1, 1, none⟩ (.int .i64 o)) := ((hX.transNo hX1).setCell _ _ (.inl (by rw [hA]; exact Nat.le_succ _))).setCell _ _ (.inl (by rw [hA]; exact Nat.le_succ _))
  have r0 := hB3.cell' (i := 0) rfl
  have r1 := hB3.cell' (i := 1) rfl
  clear b0 b1 f0 f1
  go_wp2_with fail
  refine bodyPost_ret (v := .agg #[.int .i64 (oth i o : Nat), .int .i64 o]) ?_ rfl ⟨rfl, hX3⟩
  simp [results, Try.results116, go_sem, r0, r1]
end Go.Proofs.Ytjkknjohmekeiaa
