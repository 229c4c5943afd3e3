/- Bring. The modulus lies between 1 and 4096. -/
import Derived.Test.YtjkknjohmekeiaaTapeG
import Derived.Test.YtjkknjohmekeiaaApp
namespace Go.Proofs.Ytjkknjohmekeiaa
open Go.RowKit

theorem bring_spec (w : World) (x n : Int) (h1 : 1 ≤ n) (h2 : n ≤ 4096) :
    Calls Try.prog 39 #[.int .i64 x, .int .i64 n] w fun e w' => e = .returned (.int .i64 (x % n)) ∧ w = w' := by
  have hn0 : (n == 0) = false := by rw [beq_eq_false_iff_ne]; omega
  have b1 : x.tmod n < n := Int.tmod_lt_of_pos x (by omega)
  have b2 : -n < x.tmod n := by
    have := Int.tmod_lt_of_pos (-x) (show 0 < n by omega)
    rw [Int.neg_tmod] at this; omega
  have e1 : x.tmod n = if x.tmod n < 0 then x % n - n else x % n := by
    have h := Int.tmod_add_mul_tdiv x n
    have h' := Int.emod_add_mul_ediv x n
    have c1 := Int.emod_nonneg x (show n ≠ 0 by omega)
    have c2 := Int.emod_lt_of_pos x (show 0 < n by omega)
    rw [Int.emod_eq_tmod]
    split
    · rename_i hneg
      have hx : ¬ (0 ≤ x ∨ n ∣ x) := by
        rintro (h0 | h0)
        · have := Int.tmod_nonneg n h0; omega
        · rw [Int.tmod_eq_zero_of_dvd h0] at hneg; omega
      rw [if_neg hx]; omega
    · rename_i hneg
      by_cases hx : 0 ≤ x ∨ n ∣ x
      · rw [if_pos hx]; omega
      · exfalso
        apply hx
        by_cases h0 : 0 ≤ x
        · exact .inl h0
        · right
          have h3 : x.tmod n ≤ 0 := by
            have := Int.tmod_nonneg n (show 0 ≤ -x by omega)
            rw [Int.neg_tmod] at this; omega
          exact Int.dvd_of_tmod_eq_zero (by omega)
  obtain ⟨r, hr⟩ : ∃ r, x.tmod n = r := ⟨_, rfl⟩
  have hw : IntKind.i64.wrap (x.tmod n) = x.tmod n := by rw [IntKind.wrap_i64]; omega
  by_cases hneg : r < 0
  · have e2 : Hid (r + n = x % n) := by show _ = _; rw [hr, if_pos hneg] at e1; omega
    rw [hr] at b1 b2 
    clear e1
    go_enter Try.func39, Try.ntmps39
    go_wp2_with fail
    go_ret
    exact ⟨ret_eq (by rw [e2.out]; rfl), rfl⟩
  · have e2 : Hid (r = x % n) := by show _ = _; rw [hr, if_neg hneg] at e1; omega
    rw [hr] at b1 b2
    clear e1
    go_enter Try.func39, Try.ntmps39
    go_wp2_with fail
    go_ret
    exact ⟨ret_eq (by rw [e2.out]; rfl), rfl⟩
end Go.Proofs.Ytjkknjohmekeiaa
