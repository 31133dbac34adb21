/- What LimbsRing asks of the contracts, at its own numbers. No premise. -/
import Derived.Test.YtjmckfebnoaheaaC6
set_option linter.unusedVariables false
namespace Go.Proofs.Ytjmckfebnoaheaa
open Go.RowKit Go.KK Go.Lm

theorem W_congr {n m : Int} (h : n % R256 = m % R256) : W n = W m := by rw [← W_mod n, ← W_mod m, h]
theorem R_mod (n : Int) : 0 ≤ n % R256 ∧ n % R256 < R256 := ⟨Int.emod_nonneg _ (by have := R256_pos; omega), Int.emod_lt_of_pos _ R256_pos⟩
theorem ring_over {a b : Int} (ha0 : 0 ≤ a) (ha1 : a < R256) (hb0 : 0 ≤ b) (hb1 : b < R256) : b64 (a + b) b 4 = c64 a b 4 := by
  show -(((a + b) % R256 - b % R256) / R256) = (a % R256 + b % R256) / R256
  rw [Int.emod_eq_of_lt ha0 ha1, Int.emod_eq_of_lt hb0 hb1]
  have hR := R256_lit
  generalize R256 = R at *
  subst hR
  omega
theorem mulS {a b c : Int} (hc0 : 0 ≤ c) (hc1 : c < R256) (w : World) :
    Calls Try.prog 13 #[.agg (W (a + b)), .agg (W c)] w fun e w' => e = .returned (.tuple #[.agg (W ((a + b) % R256 * c / R256)), .agg (W (a * c + b * c))]) ∧ Below w.heap.size w w' := by
  have h := R_mod (a + b)
  have hm := mul_p h.1 h.2 hc0 hc1 w
  rw [W_mod] at hm
  have e : W ((a + b) % R256 * c) = W (a * c + b * c) := W_congr (by rw [Int.mul_emod ((a + b) % R256), Int.emod_emod, ← Int.mul_emod, Int.add_mul])
  rwa [e] at hm
theorem prod_bd {x y : Int} (hx0 : 0 ≤ x) (hx1 : x < R256) (hy0 : 0 ≤ y) (hy1 : y < R256) : 0 ≤ x * y ∧ 0 ≤ x * y / R256 ∧ x * y / R256 < R256 := by
  have h0 : 0 ≤ x * y := Int.mul_nonneg hx0 hy0
  have h1 : x * y ≤ (R256 - 1) * (R256 - 1) := Int.mul_le_mul (by omega) (by omega) hy0 (by omega)
  have h2 : (R256 - 1) * (R256 - 1) = R256 * R256 - 2 * R256 + 1 := by grind
  have hR := R256_pos
  exact ⟨h0, Int.ediv_nonneg h0 (by omega), Int.ediv_lt_of_lt_mul hR (by omega)⟩
/-- The rest of a product out of its two halves. -/
theorem modP {x y c : Int} (hx0 : 0 ≤ x) (hx1 : x < R256) (hy0 : 0 ≤ y) (hy1 : y < R256) (hc0 : 0 < c) (hc1 : c < R256) (w : World) :
    Calls Try.prog 20 #[.agg (W (x * y / R256)), .agg (W (x * y)), .agg (W c)] w fun e w' => e = .returned (.tuple #[.agg (W (x * y % c)), .int .i64 0]) ∧ Below w.heap.size w w' := by
  have h := R_mod (x * y)
  have hp := prod_bd hx0 hx1 hy0 hy1
  have hm := mod_p hp.2.1 hp.2.2 h.1 h.2 hc0 hc1 w
  rw [W_mod] at hm
  rwa [show x * y / R256 * R256 + x * y % R256 = x * y by rw [Int.mul_comm]; exact Int.mul_ediv_add_emod _ _] at hm
theorem mod0 {a c : Int} (ha0 : 0 ≤ a) (ha1 : a < R256) (hc0 : 0 < c) (hc1 : c < R256) (w : World) :
    Calls Try.prog 20 #[.agg (W 0), .agg (W a), .agg (W c)] w fun e w' => e = .returned (.tuple #[.agg (W (a % c)), .int .i64 0]) ∧ Below w.heap.size w w' := by
  have hm := mod_p (h := 0) (by omega) R256_pos ha0 ha1 hc0 hc1 w
  rwa [show 0 * R256 + a = a by omega] at hm
theorem neqW_self (x : Int) (w : World) : (binOp .neq 24 (.agg (W x)) (.agg (W x))).run Try.prog w = .ok (.bool false) w := by
  rw [run_neq_struct, eqW_bool]; simp
end Go.Proofs.Ytjmckfebnoaheaa
