/- Plain laws on a number's bytes. No program, no premise. -/
import Derived.Test.YtjmckfebnoaheaaB0
set_option linter.unusedVariables false
namespace Go.Proofs.Ytjmckfebnoaheaa
open Go.RowKit Go.KK Go.Lm
/-- The byte k, the highest first. -/
def byI (x : Int) (k : Nat) : Int := x / 2 ^ (8 * (31 - k)) % 256
theorem byI_bd (x : Int) (k : Nat) : 0 ≤ byI x k ∧ byI x k ≤ 255 := by unfold byI; omega
theorem p64 : (2 : Int) ^ 64 = B64 := rfl
/-- A word's byte is the number's. -/
theorem word_byte (x : Int) {m s k : Nat} (hs : s ≤ 56) (h : 8 * (31 - k) = 64 * m + s) : d64 x m / 2 ^ s % 256 = byI x k := by
  unfold byI
  rw [h]
  have hp : (0 : Int) < 2 ^ (64 * m) := Int.pow_pos (by omega)
  have hq : (0 : Int) < 2 ^ s := Int.pow_pos (by omega)
  rw [Int.pow_add, ← Int.ediv_ediv_of_nonneg (by omega)]
  have e1 : d64 x m = x / 2 ^ (64 * m) % B64 := by
    show x / B64 ^ m % B64 = _
    rw [Int.pow_mul]; rfl
  rw [e1]
  generalize x / 2 ^ (64 * m) = y
  have h1 := Int.mul_ediv_add_emod y B64
  have h2 : B64 = 2 ^ s * (256 * 2 ^ (56 - s)) := by
    rw [show (256 : Int) = 2 ^ 8 by rfl, ← Int.pow_add, ← Int.pow_add, show s + (8 + (56 - s)) = 64 by omega]; rfl
  have h3 : y = y % B64 + (256 * (2 ^ (56 - s) * (y / B64))) * 2 ^ s := by
    have : B64 * (y / B64) = (256 * (2 ^ (56 - s) * (y / B64))) * 2 ^ s := by rw (config := {occs := .pos [1]}) [h2]; grind
    omega
  have h4 : y / 2 ^ s = y % B64 / 2 ^ s + 256 * (2 ^ (56 - s) * (y / B64)) := by
    rw (config := {occs := .pos [1]}) [h3]
    rw [Int.add_mul_ediv_right _ _ (by omega)]
  omega
/-- The first n bytes, as rows of one cell. -/
def byR (x : Int) (n : Nat) : List (List Value) := (List.range n).map fun k => [Value.int .u8 (byI x k)]
theorem byR_succ (x : Int) (n : Nat) : byR x n ++ [[Value.int .u8 (byI x n)]] = byR x (n + 1) := by simp [byR, List.range_succ]
theorem byR_length (x : Int) (n : Nat) : (byR x n).length = n := by simp [byR]
theorem byR_get (x : Int) {n k : Nat} (h : k < n) : (byR x n)[k]? = some [Value.int .u8 (byI x k)] := by simp [byR, h]
theorem byR_flat (x : Int) (n : Nat) : (byR x n).flatten = (List.range n).map fun k => Value.int .u8 (byI x k) := by
  induction n with
  | zero => rfl
  | succ n ih => rw [← byR_succ, List.flatten_append, ih]; simp [List.range_succ]
theorem byR_flat_get (x : Int) {n k : Nat} (h : k < n) : (byR x n).flatten[k]? = some (Value.int .u8 (byI x k)) := by rw [byR_flat]; simp [h]
end Go.Proofs.Ytjmckfebnoaheaa
