/- Plain laws on a rest by doubling. No program, no premise. -/
import Derived.Test.YtjmckfebnoaheaaB10
set_option linter.unusedVariables false
namespace Go.Proofs.Ytjmckfebnoaheaa
open Go.RowKit Go.KK Go.Lm

/-- The bit e. -/
theorem bit_digit (x : Int) (e : Nat) : d64 x (e / 64) / 2 ^ (e % 64) % 2 = x / 2 ^ e % 2 := by
  have hr : e % 64 ≤ 63 := by omega
  have hp : (0 : Int) < 2 ^ (e % 64) := Int.pow_pos (by omega)
  have hq := pw_pos B64_pos (e / 64)
  have e1 : x / 2 ^ e = x / B64 ^ (e / 64) / 2 ^ (e % 64) := by
    rw [Int.ediv_ediv_of_nonneg (Int.le_of_lt hq), ← two_pow_B64, ← Int.pow_add, show 64 * (e / 64) + e % 64 = e by omega]
  rw [e1]
  show x / B64 ^ (e / 64) % B64 / 2 ^ (e % 64) % 2 = _
  generalize x / B64 ^ (e / 64) = y
  generalize e % 64 = r at *
  have h2 := Int.mul_ediv_add_emod y B64
  have h3 : y = y % B64 + (y / B64 * 2 ^ (64 - r)) * 2 ^ r := by
    have h4 : y / B64 * B64 = (y / B64 * 2 ^ (64 - r)) * 2 ^ r := by rw [two_B64 hr]; grind
    rw [← h4, Int.mul_comm (y / B64)]; omega
  have h5 : (2 : Int) ^ (64 - r) = 2 * 2 ^ (63 - r) := by rw [show 64 - r = 63 - r + 1 by omega, Int.pow_succ]; omega
  have h6 : y / 2 ^ r = y % B64 / 2 ^ r + y / B64 * 2 ^ (64 - r) := by
    generalize hz : y % B64 = z at *
    rw [h3, Int.add_mul_ediv_right _ _ (by omega), ← h3]
  rw [h6, h5, show y / B64 * (2 * 2 ^ (63 - r)) = 2 * (y / B64 * 2 ^ (63 - r)) by grind]
  omega
theorem top_word {o : Int} (h0 : 0 ≤ o) (h1 : o < R256) : d64 o 3 / 9223372036854775808 = if 57896044618658097711785492504343953926634992332820282019728792003956564819968 ≤ o then 1 else 0 := by
  unfold d64 dg R256 at *
  unfold B64 at *
  split <;> omega
theorem c64_even (n b : Int) (hb : b = 0 ∨ b = 1) : ∀ k, c64 (n * 2) b k = 0
  | 0 => c64_zero _ _
  | k + 1 => by
    rw [c64_succ, c64_even n b hb k]
    have h0 := d64_lo (n * 2) k
    have h1 := d64_hi (n * 2) k
    cases k with
    | zero =>
      have h2 : d64 (n * 2) 0 % 2 = 0 := by unfold d64 dg B64; simp only [Int.pow_zero, Int.ediv_one]; omega
      have h3 : d64 b 0 = b := by unfold d64 dg B64; simp only [Int.pow_zero, Int.ediv_one]; omega
      omega
    | succ k =>
      have h3 : d64 b (k + 1) = 0 := d64_over (j := 1) (by omega) (by unfold B64; omega) (by omega)
      omega
theorem d64_bit_add (n b : Int) (hb : b = 0 ∨ b = 1) (k : Nat) : d64 (n * 2 + b) k = if k = 0 then d64 (n * 2) 0 + b else d64 (n * 2) k := by
  rw [d64_add, c64_even n b hb]
  have h0 := d64_lo (n * 2) k
  have h1 := d64_hi (n * 2) k
  split
  · rename_i hk
    subst hk
    have h2 : d64 (n * 2) 0 % 2 = 0 := by unfold d64 dg B64; simp only [Int.pow_zero, Int.ediv_one]; omega
    have h3 : d64 b 0 = b := by unfold d64 dg B64; simp only [Int.pow_zero, Int.ediv_one]; omega
    omega
  · have h3 : d64 b k = 0 := d64_over (j := 1) (by omega) (by unfold B64; omega) (by omega)
    omega
theorem bit_or (n b : Int) (hb : b = 0 ∨ b = 1) : bits .or .u64 (d64 (n * 2) 0) b = d64 (n * 2) 0 + b := by
  have h2 : d64 (n * 2) 0 % 2 = 0 := by unfold d64 dg B64; simp only [Int.pow_zero, Int.ediv_one]; omega
  exact u64_or 1 (d64_lo _ _) (d64_hi _ _) (by simpa using h2) (by omega) (by omega) (by omega)
theorem bit_set (n b : Int) (hb : b = 0 ∨ b = 1) : (W (n * 2)).setIfInBounds 0 (.int .u64 (d64 (n * 2) 0 + b)) = W (n * 2 + b) := by
  unfold W
  rw [nums_set]
  exact nums_congr _ fun k _ => (d64_bit_add n b hb k).symm
/-- A number's first bits behind others. -/
def acc (p x : Int) (j : Nat) : Int := p * 2 ^ j + x / 2 ^ (256 - j)
theorem acc_zero {x : Int} (p : Int) (h0 : 0 ≤ x) (h1 : x < R256) : acc p x 0 = p := by
  unfold acc
  rw [show 256 - 0 = 256 from rfl, Int.ediv_eq_zero_of_lt h0 (by unfold R256 B64 at h1; omega)]
  simp
theorem acc_top (p x : Int) : acc p x 256 = p * R256 + x := by
  unfold acc R256 B64; simp
theorem acc_succ (p x : Int) {j : Nat} (h : j < 256) : acc p x (j + 1) = acc p x j * 2 + x / 2 ^ (255 - j) % 2 := by
  unfold acc
  have hp : (0 : Int) < 2 ^ (255 - j) := Int.pow_pos (by omega)
  rw [show 256 - j = 255 - j + 1 by omega, show 256 - (j + 1) = 255 - j by omega, Int.pow_succ, Int.pow_succ, ← Int.ediv_ediv_of_nonneg (Int.le_of_lt hp)]
  generalize x / 2 ^ (255 - j) = z
  rw [Int.add_mul, Int.mul_assoc]
  omega
/-- One doubling of a rest. -/
theorem rest_step {a m b : Int} (hm : 0 < m) : (a * 2 + b) % m = ((a % m) * 2 + b) % m := by
  have h := Int.mul_ediv_add_emod a m
  have h2 : a * 2 + b = (a % m * 2 + b) + (a / m * 2) * m := by
    have h3 : a * 2 = (m * (a / m) + a % m) * 2 := by rw [h]
    rw [h3]; grind
  rw [h2, Int.add_mul_emod_self_right]
theorem rest_once {o m b : Int} (ho0 : 0 ≤ o) (ho : o < m) (hb : b = 0 ∨ b = 1) : (o * 2 + b) % m = if m ≤ o * 2 + b then o * 2 + b - m else o * 2 + b := by
  split
  · rw [show o * 2 + b = (o * 2 + b - m) + m * 1 by omega, Int.add_mul_emod_self_left, Int.emod_eq_of_lt (by omega) (by omega)]
    omega
  · exact Int.emod_eq_of_lt (by omega) (by omega)
end Go.Proofs.Ytjmckfebnoaheaa
