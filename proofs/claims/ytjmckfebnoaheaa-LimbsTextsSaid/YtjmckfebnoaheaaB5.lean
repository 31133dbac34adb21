/- The product of two numbers, as the program makes it. -/
import Derived.Test.YtjmckfebnoaheaaB4
import Derived.Laws.ResultCell
set_option linter.unusedVariables false
namespace Go.Proofs.Ytjmckfebnoaheaa
open Go.RowKit Go.KK Go.Lm

theorem pow_lit : B64 ^ 4 = R256 := rfl
/-- A digit above a number's size. -/
theorem d64_over {n : Int} {j k : Nat} (h0 : 0 ≤ n) (h1 : n < B64 ^ j) (hk : j ≤ k) : d64 n k = 0 := by
  obtain ⟨e, rfl⟩ : ∃ e, k = j + e := ⟨k - j, by omega⟩
  have h2 : n < B64 ^ (j + e) := by
    rw [Int.pow_add]
    have := pw_pos B64_pos e
    have hj := pw_pos B64_pos j
    have h3 : B64 ^ j * 1 ≤ B64 ^ j * B64 ^ e := Int.mul_le_mul_of_nonneg_left (by omega) (by omega)
    omega
  show n / B64 ^ (j + e) % B64 = 0
  rw [Int.ediv_eq_zero_of_lt h0 h2]
  rfl
theorem d64_shift (n : Int) (j k : Nat) : d64 n (j + k) = d64 (n / B64 ^ j) k := by
  show n / B64 ^ (j + k) % B64 = n / B64 ^ j / B64 ^ k % B64
  rw [Int.pow_add, Int.ediv_ediv_of_nonneg (Int.le_of_lt (pw_pos B64_pos j))]
theorem po_bd {x y : Int} (i : Nat) (hy0 : 0 ≤ y) (hy1 : y < R256) : 0 ≤ po B64 x y i ∧ po B64 x y i < B64 ^ (i + 4) := by
  have hp := pw_pos B64_pos i
  have h1 := Int.emod_nonneg x (show B64 ^ i ≠ 0 by omega)
  have h2 := Int.emod_lt_of_pos x hp
  refine ⟨Int.mul_nonneg h1 hy0, ?_⟩
  have h3 : po B64 x y i ≤ (B64 ^ i - 1) * (R256 - 1) := Int.mul_le_mul (by omega) (by omega) hy0 (by omega)
  have h4 : (B64 ^ i - 1) * (R256 - 1) = B64 ^ i * R256 - B64 ^ i - R256 + 1 := by grind
  have h5 : B64 ^ (i + 4) = B64 ^ i * R256 := by rw [Int.pow_add]; rfl
  have h6 : 0 < R256 := pw_pos B64_pos 4
  omega
/-- The eight words under way. -/
def tz (x y : Int) (i j k : Nat) : Int := if k < i + j then d64 (pz B64 x y i j) k else d64 (po B64 x y i) k
theorem tz_zero (x y : Int) (i : Nat) : nums .u64 8 (tz x y i 0) = nums .u64 8 (d64 (po B64 x y i)) := nums_congr _ fun k _ => by
  unfold tz
  rw [pz_zero]
  split <;> rfl
theorem tz_at (x y : Int) (i j : Nat) : tz x y i j (i + j) = d64 (po B64 x y i) (i + j) := by unfold tz; rw [if_neg (by omega)]
theorem tz_step (x y : Int) (i j : Nat) : (nums .u64 8 (tz x y i j)).setIfInBounds (i + j) (.int .u64 (d64 (pz B64 x y i (j + 1)) (i + j))) = nums .u64 8 (tz x y i (j + 1)) := by
  rw [nums_set]
  refine nums_congr _ fun k _ => ?_
  unfold tz
  by_cases h1 : k = i + j
  · subst h1; rw [if_pos rfl, if_pos (by omega)]
  · rw [if_neg h1]
    by_cases h2 : k < i + j
    · rw [if_pos h2, if_pos (by omega)]
      exact (pz_low B64_pos x y i j h2).symm
    · rw [if_neg h2, if_neg (by omega)]
theorem tz_row {x y : Int} (i : Nat) (hy0 : 0 ≤ y) (hy1 : y < R256) : (nums .u64 8 (tz x y i 4)).setIfInBounds (i + 4) (.int .u64 (pc B64 x y i 4)) = nums .u64 8 (d64 (po B64 x y (i + 1))) := by
  rw [nums_set]
  refine nums_congr _ fun k _ => ?_
  by_cases h1 : k = i + 4
  · subst h1; rw [if_pos rfl]; exact (pc_top B64_pos x y i 4 hy0 hy1).symm
  · rw [if_neg h1]
    unfold tz
    by_cases h2 : k < i + 4
    · rw [if_pos h2, pz_top B64_pos x y i 4 hy0 hy1]
    · rw [if_neg h2]
      have b1 := po_bd (x := x) i hy0 hy1
      have b2 := po_bd (x := x) (i + 1) hy0 hy1
      rw [d64_over b1.1 b1.2 (by omega), d64_over b2.1 b2.2 (by omega)]
/-- The two calls of math/bits, their answers by a name. -/
theorem mul64_ex (x y : Int) (hx0 : 0 ≤ x) (hx1 : x ≤ 18446744073709551615) (hy0 : 0 ≤ y) (hy1 : y ≤ 18446744073709551615) : ∃ hi lo : Int, (0 ≤ hi ∧ hi ≤ 18446744073709551614) ∧ (0 ≤ lo ∧ lo ≤ 18446744073709551615) ∧ hi * 18446744073709551616 + lo = x * y ∧
    ∀ w, Calls Try.prog 44 #[.int .u64 x, .int .u64 y] w fun e w' => e = .returned (.tuple #[.int .u64 hi, .int .u64 lo]) ∧ w = w' := by
  obtain ⟨X, rfl⟩ := Int.eq_ofNat_of_zero_le hx0
  obtain ⟨Y, rfl⟩ := Int.eq_ofNat_of_zero_le hy0
  have h1 : (X : Int) * Y ≤ 18446744073709551615 * 18446744073709551615 := Int.mul_le_mul hx1 hy1 hy0 (by omega)
  have h2 : X * Y ≤ 340282366920938463426481119284349108225 := by omega
  refine ⟨((X * Y / 18446744073709551616 : Nat) : Int), ((X * Y % 18446744073709551616 : Nat) : Int), ?_, ?_, ?_, fun w => ?_⟩
  · generalize X * Y = p at *; omega
  · generalize X * Y = p at *; omega
  · rw [← Int.natCast_mul]; generalize X * Y = p at *; omega
  · exact (Try.bits_Mul64 X Y (by omega) (by omega) w).mono fun _ _ ⟨h1, h2⟩ => ⟨h1, h2.symm⟩
theorem add64_ex (x y : Int) (hx0 : 0 ≤ x) (hx1 : x ≤ 18446744073709551615) (hy0 : 0 ≤ y) (hy1 : y ≤ 18446744073709551615) : ∃ l c : Int, (0 ≤ l ∧ l ≤ 18446744073709551615) ∧ (0 ≤ c ∧ c ≤ 1) ∧ l + 18446744073709551616 * c = x + y ∧
    ∀ w, (callFunc 40 #[.int .u64 x, .int .u64 y, .int .u64 0]).run Try.prog w = .ok (.value (.tuple #[.int .u64 l, .int .u64 c])) w :=
  ⟨(x + y + 0) % 18446744073709551616, (x + y + 0) / 18446744073709551616, by omega, by omega, by omega, fun w => add64_call x y 0 hx0 hy0 (by omega) (by omega) w⟩
end Go.Proofs.Ytjmckfebnoaheaa
