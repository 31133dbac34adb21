/- Halves of words, as digits. No program, no premise. -/
import Derived.Test.YtjmckfebnoaheaaB15
set_option linter.unusedVariables false
namespace Go.Proofs.Ytjmckfebnoaheaa
open Go.RowKit Go.KK Go.Lm

def B32 : Int := 4294967296
theorem B32_pos : 0 < B32 := by unfold B32; omega
theorem B64_B32 : B64 = B32 ^ 2 := by unfold B64 B32; decide
/-- The digit k at 2^32. -/
def d32 (n : Int) (k : Nat) : Int := dg B32 n k
theorem d32_lo (n : Int) (k : Nat) : 0 ≤ d32 n k := dg_lo B32_pos n k
theorem d32_hi (n : Int) (k : Nat) : d32 n k ≤ 4294967295 := by
  have := dg_hi B32_pos n k; unfold d32; unfold B32 at *; omega
/-- A number's eight halves. -/
def H8 (n : Int) : Array Value := nums .u64 8 (d32 n)
theorem H8_one (n : Int) : (H8 n).all (·.oneCell') = true := nums_one _ _ _
def Z8 : Array Value := nums .u64 8 fun _ => 0
theorem even_pow (k : Nat) : B32 ^ (2 * k) = B64 ^ k := by rw [B64_B32, ← Int.pow_mul]
theorem d32_even (n : Int) (k : Nat) : d32 n (2 * k) = d64 n k % 4294967296 := by
  show n / B32 ^ (2 * k) % B32 = n / B64 ^ k % B64 % 4294967296
  rw [even_pow]
  unfold B32 B64
  omega
theorem d32_odd (n : Int) (k : Nat) : d32 n (2 * k + 1) = d64 n k / 4294967296 := by
  show n / B32 ^ (2 * k + 1) % B32 = n / B64 ^ k % B64 / 4294967296
  rw [div_succ B32_pos, even_pow]
  unfold B32 B64
  omega
theorem d64_halves (n : Int) (k : Nat) : d64 n k = d32 n (2 * k + 1) * 4294967296 + d32 n (2 * k) := by
  rw [d32_even, d32_odd]; omega
/-- A number's halves, so far. -/
def part32 (n : Int) (k : Nat) : Nat → Int := fun i => if i < k then d32 n i else 0
theorem part32_zero (n : Int) (m : Nat) : nums .u64 m (part32 n 0) = nums .u64 m fun _ => 0 := nums_congr _ fun i _ => by simp [part32]
theorem part32_top (n : Int) (m : Nat) : nums .u64 m (part32 n m) = nums .u64 m (d32 n) := nums_congr _ fun i hi => by simp [part32, hi]
theorem part32_step (n : Int) (m k : Nat) : (nums .u64 m (part32 n k)).setIfInBounds k (.int .u64 (d32 n k)) = nums .u64 m (part32 n (k + 1)) := by
  rw [nums_set]
  refine nums_congr _ fun i hi => ?_
  unfold part32
  by_cases h1 : i = k
  · subst h1; simp
  · by_cases h2 : i < k
    · simp [h1, h2, Nat.lt_succ_of_lt h2]
    · simp [h1, h2]; omega
/-- Carries and borrows, by halves. -/
def c32 (x y : Int) (k : Nat) : Int := ca B32 x y k
theorem c32_zero (x y : Int) : c32 x y 0 = 0 := ca_zero _ _ _
theorem c32_succ (x y : Int) (k : Nat) : c32 x y (k + 1) = (d32 x k + d32 y k + c32 x y k) / 4294967296 := ca_succ B32_pos x y k
theorem d32_add (x y : Int) (k : Nat) : d32 (x + y) k = (d32 x k + d32 y k + c32 x y k) % 4294967296 := dg_add B32_pos x y k
theorem c32_bit (x y : Int) : ∀ k, 0 ≤ c32 x y k ∧ c32 x y k ≤ 1
  | 0 => by rw [c32_zero]; omega
  | k + 1 => by
    rw [c32_succ]
    have := c32_bit x y k
    have := d32_lo x k
    have := d32_lo y k
    have := d32_hi x k
    have := d32_hi y k
    omega
theorem c32_top (x y : Int) : c32 x y 8 = c64 x y 4 := by
  show (x % B32 ^ (2 * 4) + y % B32 ^ (2 * 4)) / B32 ^ (2 * 4) = _
  rw [even_pow]; rfl
def b32 (x y : Int) (k : Nat) : Int := -((x % B32 ^ k - y % B32 ^ k) / B32 ^ k)
theorem b32_zero (x y : Int) : b32 x y 0 = 0 := by simp [b32, Int.emod_one]
theorem sub_div32 (x y : Int) (k : Nat) : (x - y) / B32 ^ k = x / B32 ^ k - y / B32 ^ k - b32 x y k := by
  have hp := pw_pos B32_pos k
  have e : x - y = (x % B32 ^ k - y % B32 ^ k) + (x / B32 ^ k - y / B32 ^ k) * B32 ^ k := by
    rw [Int.emod_def x, Int.emod_def y]; grind
  unfold b32
  rw [e, Int.add_mul_ediv_right _ _ (by omega)]
  omega
theorem d32_sub (x y : Int) (k : Nat) : d32 (x - y) k = (d32 x k - d32 y k - b32 x y k) % 4294967296 := by
  show (x - y) / B32 ^ k % B32 = (x / B32 ^ k % B32 - y / B32 ^ k % B32 - b32 x y k) % B32
  rw [sub_div32]
  unfold B32
  omega
theorem b32_succ (x y : Int) (k : Nat) : b32 x y (k + 1) = -((d32 x k - d32 y k - b32 x y k) / 4294967296) := by
  have hp := pw_pos B32_pos k
  have e : (x % B32 ^ (k + 1) - y % B32 ^ (k + 1)) / B32 ^ (k + 1) = (x % B32 ^ (k + 1) - y % B32 ^ (k + 1)) / B32 ^ k / B32 := by
    rw [pw_succ, ← Int.ediv_ediv_of_nonneg (Int.le_of_lt hp)]
  have e2 : x % B32 ^ (k + 1) - y % B32 ^ (k + 1) = (x % B32 ^ k - y % B32 ^ k) + (d32 x k - d32 y k) * B32 ^ k := by
    rw [mod_succ B32_pos x, mod_succ B32_pos y]; unfold d32; grind
  have e3 : (x % B32 ^ (k + 1) - y % B32 ^ (k + 1)) / B32 ^ k = d32 x k - d32 y k - b32 x y k := by
    rw [e2, Int.add_mul_ediv_right _ _ (by omega)]; unfold b32; omega
  show -((x % B32 ^ (k + 1) - y % B32 ^ (k + 1)) / B32 ^ (k + 1)) = _
  rw [e, e3]
  rfl
theorem b32_bit (x y : Int) : ∀ k, 0 ≤ b32 x y k ∧ b32 x y k ≤ 1
  | 0 => by rw [b32_zero]; omega
  | k + 1 => by
    rw [b32_succ]
    have := b32_bit x y k
    have := d32_lo x k
    have := d32_lo y k
    have := d32_hi x k
    have := d32_hi y k
    omega
theorem b32_top (x y : Int) : b32 x y 8 = b64 x y 4 := by
  show -((x % B32 ^ (2 * 4) - y % B32 ^ (2 * 4)) / B32 ^ (2 * 4)) = _
  rw [even_pow]; rfl
end Go.Proofs.Ytjmckfebnoaheaa
