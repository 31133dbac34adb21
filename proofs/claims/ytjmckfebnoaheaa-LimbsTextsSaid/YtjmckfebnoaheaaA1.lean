/- Plain laws on a quotient by hand, a half word at a time. No program, no premise. -/
import Derived.Test.YtjmckfebnoaheaaA0
import Derived.Lib.ItoaNum
set_option linter.unusedVariables false
namespace Go.Lm

/-- What holds at the head of the loop that mends a guess: v the divisor, of halves v1 and v0; u the rest so far, b the next half. -/
structure Kn (v v1 v0 u b q r : Int) : Prop where
  hv : v = v1 * 4294967296 + v0
  v00 : 0 ≤ v0
  v01 : v0 ≤ 4294967295
  v10 : 2147483648 ≤ v1
  v11 : v1 ≤ 4294967295
  b0 : 0 ≤ b
  b1 : b ≤ 4294967295
  u0 : 0 ≤ u
  uv : u < v
  ge : (u * 4294967296 + b) / v ≤ q
  le : q ≤ 4294967297
  rq : u = q * v1 + r
  r0 : 0 ≤ r
  r1 : r ≤ 4294967295
section
variable {v v1 v0 u b q r : Int}
theorem Kn.vp (h : Kn v v1 v0 u b q r) : 0 < v := by have := h.hv; have := h.v10; have := h.v00; omega
theorem Kn.qs (h : Kn v v1 v0 u b q r) : 0 ≤ (u * 4294967296 + b) / v ∧ (u * 4294967296 + b) / v ≤ 4294967295 := by
  have hv := h.vp
  have h1 := h.u0; have h2 := h.uv; have h3 := h.b0; have h4 := h.b1
  refine ⟨Int.ediv_nonneg (by omega) (by omega), ?_⟩
  have : (u * 4294967296 + b) / v < 4294967296 := Int.ediv_lt_of_lt_mul hv (by omega)
  omega
theorem Kn.start (hv : v = v1 * 4294967296 + v0) (v00 : 0 ≤ v0) (v01 : v0 ≤ 4294967295) (v10 : 2147483648 ≤ v1) (v11 : v1 ≤ 4294967295) (b0 : 0 ≤ b) (b1 : b ≤ 4294967295) (u0 : 0 ≤ u) (uv : u < v) :
    Kn v v1 v0 u b (u / v1) (u - u / v1 * v1) := by
  have hp : 0 < v := by omega
  have h1 := Int.mul_ediv_add_emod u v1
  have h2 := Int.emod_nonneg u (show v1 ≠ 0 by omega)
  have h3 := Int.emod_lt_of_pos u (show 0 < v1 by omega)
  have e1 : u / v1 * v1 = v1 * (u / v1) := Int.mul_comm _ _
  have hq0 : 0 ≤ u / v1 := Int.ediv_nonneg u0 (by omega)
  refine ⟨hv, v00, v01, v10, v11, b0, b1, u0, uv, ?_, ?_, by omega, by omega, by omega⟩
  · have hlt : u * 4294967296 + b < (u / v1 + 1) * v := by
      have h4 : u + 1 ≤ v1 * (u / v1 + 1) := by rw [Int.mul_add]; omega
      have h5 : (u / v1 + 1) * v = (v1 * (u / v1 + 1)) * 4294967296 + (u / v1 + 1) * v0 := by rw [hv]; grind
      have h6 : 0 ≤ (u / v1 + 1) * v0 := Int.mul_nonneg (by omega) v00
      omega
    have := Int.ediv_lt_of_lt_mul hp hlt
    omega
  · have hlt : u < 4294967298 * v1 := by omega
    have := Int.ediv_lt_of_lt_mul (show 0 < v1 by omega) hlt
    omega
theorem Kn.over (h : Kn v v1 v0 u b q r) (ht : 4294967296 ≤ q ∨ 4294967296 * r + b < q * v0) : (u * 4294967296 + b) / v < q := by
  have hp := h.vp
  have hv := h.hv
  have hr := h.rq
  have hb := h.b0
  rcases ht with ht | ht
  · have := h.qs; omega
  · refine Int.ediv_lt_of_lt_mul hp ?_
    have e : q * v = (q * v1) * 4294967296 + q * v0 := by rw [hv]; grind
    omega
theorem Kn.next (h : Kn v v1 v0 u b q r) (ht : 4294967296 ≤ q ∨ 4294967296 * r + b < q * v0) (hr : r + v1 ≤ 4294967295) : Kn v v1 v0 u b (q - 1) (r + v1) := by
  have h1 := h.over ht
  have h2 := h.le
  have h3 := h.rq
  have h4 := h.r0
  have h5 := h.v10
  exact ⟨h.hv, h.v00, h.v01, h.v10, h.v11, h.b0, h.b1, h.u0, h.uv, by omega, by omega, by rw [Int.sub_mul]; omega, by omega, hr⟩
theorem Kn.quit (h : Kn v v1 v0 u b q r) (ht : 4294967296 ≤ q ∨ 4294967296 * r + b < q * v0) (hr : 4294967296 ≤ r + v1) : q - 1 = (u * 4294967296 + b) / v := by
  have h1 := h.over ht
  have h2 := h.le
  have h3 := h.rq
  have h5 := h.v00
  have h6 := h.v01
  have h7 := h.b0
  have hq := h.qs
  have hv := h.hv
  have e : (q - 1) * v = ((q * v1) - v1) * 4294967296 + (q - 1) * v0 := by rw [hv]; grind
  have h8 : (q - 1) * v0 ≤ 4294967296 * 4294967295 := Int.mul_le_mul (by omega) h6 h5 (by omega)
  have h9 : (q - 1) * v ≤ u * 4294967296 + b := by omega
  have := (Int.le_ediv_iff_mul_le h.vp).2 h9
  omega
theorem Kn.done (h : Kn v v1 v0 u b q r) (ht : q ≤ 4294967295) (ht2 : q * v0 ≤ 4294967296 * r + b) : q = (u * 4294967296 + b) / v := by
  have hv := h.hv
  have hr := h.rq
  have e : q * v = (q * v1) * 4294967296 + q * v0 := by rw [hv]; grind
  have := (Int.le_ediv_iff_mul_le h.vp).2 (show q * v ≤ u * 4294967296 + b by omega)
  have := h.ge
  omega
theorem Kn.prod (h : Kn v v1 v0 u b q r) (hq : q ≤ 4294967295) : 0 ≤ q * v0 ∧ q * v0 ≤ 18446744073709551615 := by
  have h1 := h.qs
  have h2 := h.ge
  have h3 := h.v00
  have h4 := h.v01
  refine ⟨Int.mul_nonneg (by omega) h3, ?_⟩
  have : q * v0 ≤ 4294967295 * 4294967295 := Int.mul_le_mul hq h4 h3 (by omega)
  omega
end
/-- The whole: two halves of the quotient, and the rest. -/
theorem two_halves {v n b0 : Int} (hv : 0 < v) (b1 u : Int) (hn : n = u * 4294967296 + b1) : (n * 4294967296 + b0) / v = n / v * 4294967296 + ((n % v) * 4294967296 + b0) / v ∧ (n * 4294967296 + b0) % v = ((n % v) * 4294967296 + b0) % v := by
  have h1 := Int.mul_ediv_add_emod n v
  have e : n * 4294967296 + b0 = ((n % v) * 4294967296 + b0) + (n / v * 4294967296) * v := by
    have : n * 4294967296 = (v * (n / v) + n % v) * 4294967296 := by rw [h1]
    grind
  constructor
  · rw [e, Int.add_mul_ediv_right _ _ (by omega)]; omega
  · rw [e, Int.add_mul_emod_self_right]
/-- Both sides shifted. -/
theorem shifted {n y p : Int} (hp : 0 < p) : (n * p) / (y * p) = n / y ∧ (n * p) % (y * p) = (n % y) * p :=
  ⟨Int.mul_ediv_mul_of_pos_left n y hp, by rw [Int.mul_comm n p, Int.mul_comm y p, Int.mul_emod_mul_of_pos _ _ hp, Int.mul_comm]⟩
/-- How far a number is shifted till its top bit stands. -/
theorem norm_shift {y : Nat} (h0 : y ≠ 0) (h1 : y < 18446744073709551616) : Lib.bitLen y ≤ 64 ∧ 1 ≤ Lib.bitLen y ∧ 9223372036854775808 ≤ y * 2 ^ (64 - Lib.bitLen y) ∧ y * 2 ^ (64 - Lib.bitLen y) < 18446744073709551616 := by
  obtain ⟨h2, h3, h4⟩ := Lib.bitLenAux_bounds 64 y h1 h0
  have h5 : Lib.bitLen y ≤ 64 := Lib.bitLen_le y 64 (by omega) h1
  show _ ∧ _ ∧ _
  unfold Lib.bitLen at *
  generalize Lib.bitLenAux 64 y = l at *
  refine ⟨h5, h2, ?_, ?_⟩
  · have e : 2 ^ (l - 1) * 2 ^ (64 - l) = 9223372036854775808 := by
      rw [← Nat.pow_add, show l - 1 + (64 - l) = 63 by omega]
    rw [← e]
    exact Nat.mul_le_mul_right _ h3
  · have e : 2 ^ l * 2 ^ (64 - l) = 18446744073709551616 := by
      rw [← Nat.pow_add, show l + (64 - l) = 64 by omega]
    rw [← e]
    exact Nat.mul_lt_mul_of_pos_right h4 (Nat.two_pow_pos _)
end Go.Lm
