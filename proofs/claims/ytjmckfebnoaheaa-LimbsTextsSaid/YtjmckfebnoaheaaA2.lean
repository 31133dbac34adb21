/- Plain laws on shifts, by digits. No program, no premise. -/
import Derived.Test.YtjmckfebnoaheaaA0
set_option linter.unusedVariables false
namespace Go.Lm
theorem dg_mul_pow_lo {b : Int} (hb : 0 < b) (z : Int) {q i : Nat} (h : i < q) : dg b (z * b ^ q) i = 0 := by
  have := dg_low (b := b) hb 0 z h
  rw [Int.zero_add] at this
  rw [this]; exact dg_zero i
theorem dg_mul_pow_hi {b : Int} (hb : 0 < b) (z : Int) (q i : Nat) : dg b (z * b ^ q) (q + i) = dg b z i := by
  unfold dg
  have hq := pw_pos hb q
  have hi := pw_pos hb i
  rw [Int.pow_add, Int.mul_comm (b ^ q), Int.mul_ediv_mul_of_pos_left _ _ hq]
/-- A little below the next multiple. -/
theorem mul_add_div {X p e c : Int} (hp : 0 < p) (he0 : 0 ≤ e) (he : e < p) : (X * p + e) / (p * c) = X / c := by
  rw [← Int.ediv_ediv_of_nonneg (by omega)]
  congr 1
  rw [Int.add_comm, Int.add_mul_ediv_right _ _ (by omega), Int.ediv_eq_zero_of_lt he0 he, Int.zero_add]
theorem div_small_mul {x p P c : Int} (hp : 0 < p) (hP : 0 < P) (hc : 0 < c) : x * p / (P * (p * c)) = x / P / c := by
  have e : x * p = (x % P * p) + (x / P * p) * P := by
    have := Int.mul_ediv_add_emod x P
    have h2 : x * p = (P * (x / P) + x % P) * p := by rw [this]
    rw [h2]; grind
  rw [← Int.ediv_ediv_of_nonneg (Int.le_of_lt hP), e, Int.add_mul_ediv_right _ _ (by omega)]
  rw [Int.add_comm]
  refine mul_add_div hp ?_ ?_
  · exact Int.ediv_nonneg (Int.mul_nonneg (Int.emod_nonneg _ (by omega)) (by omega)) (by omega)
  · refine Int.ediv_lt_of_lt_mul hP ?_
    have h1 := Int.emod_lt_of_pos x hP
    have h2 : (x % P + 1) * p ≤ P * p := Int.mul_le_mul_of_nonneg_right (by omega) (by omega)
    rw [Int.add_mul] at h2
    rw [Int.mul_comm p P]
    omega
/-- The digit of a number times p, where p * c is the base. -/
theorem dg_mul {b p c : Int} (hp : 0 < p) (hc : 0 < c) (hbc : b = p * c) (x : Int) (j : Nat) : dg b (x * p) (j + 1) = dg b x (j + 1) * p % b + dg b x j / c := by
  have hb : 0 < b := by rw [hbc]; exact Int.mul_pos hp hc
  have hj := pw_pos hb j
  have e1 : x * p / b ^ (j + 1) = x / b ^ j / c := by
    rw [pw_succ, ← div_small_mul hp hj hc, ← hbc]
  have e2 : x / b ^ j = b * (x / b ^ (j + 1)) + dg b x j := by
    rw [div_succ hb]
    have := Int.mul_ediv_add_emod (x / b ^ j) b
    unfold dg; omega
  have h0 := dg_lo hb x j
  have h1 := dg_hi hb x j
  have e3 : x / b ^ j / c = (x / b ^ (j + 1)) * p + dg b x j / c := by
    rw [e2, show b * (x / b ^ (j + 1)) + dg b x j = dg b x j + (x / b ^ (j + 1) * p) * c by rw [hbc]; grind, Int.add_mul_ediv_right _ _ (by omega)]
    omega
  have h2 : 0 ≤ dg b x j / c := Int.ediv_nonneg h0 (by omega)
  have h3 : dg b x j / c < p := Int.ediv_lt_of_lt_mul hc (by omega)
  show x * p / b ^ (j + 1) % b = _
  rw [e1, e3]
  have e4 : x / b ^ (j + 1) * p = dg b x (j + 1) * p + (x / b ^ (j + 1) / b * p) * b := by
    have := Int.mul_ediv_add_emod (x / b ^ (j + 1)) b
    have h5 : x / b ^ (j + 1) * p = (b * (x / b ^ (j + 1) / b) + x / b ^ (j + 1) % b) * p := by rw [this]
    rw [h5]; unfold dg; grind
  rw [e4, show dg b x (j + 1) * p + x / b ^ (j + 1) / b * p * b + dg b x j / c = (dg b x (j + 1) * p + dg b x j / c) + (x / b ^ (j + 1) / b * p) * b by omega, Int.add_mul_emod_self_right]
  -- a multiple of p, and less than p more
  have e5 : dg b x (j + 1) * p % b = (dg b x (j + 1) % c) * p := by rw [hbc, Int.mul_comm p c, Int.mul_comm _ p, Int.mul_comm c p, Int.mul_emod_mul_of_pos _ _ hp, Int.mul_comm]
  have h6 := Int.emod_nonneg (dg b x (j + 1)) (show c ≠ 0 by omega)
  have h7 := Int.emod_lt_of_pos (dg b x (j + 1)) hc
  have h8 : (dg b x (j + 1) % c + 1) * p ≤ c * p := Int.mul_le_mul_of_nonneg_right (by omega) (by omega)
  rw [Int.add_mul] at h8
  rw [Int.add_emod, e5, Int.emod_eq_of_lt h2 (show dg b x j / c < b by
    have : p * 1 ≤ p * c := Int.mul_le_mul_of_nonneg_left (by omega) (by omega)
    omega)]
  refine Int.emod_eq_of_lt ?_ ?_
  · have := Int.mul_nonneg h6 (Int.le_of_lt hp); omega
  · have hb2 : c * p = b := by rw [hbc, Int.mul_comm]
    omega
theorem dg_mul_zero {b p : Int} (x : Int) : dg b (x * p) 0 = dg b x 0 * p % b := by
  unfold dg
  simp only [Int.pow_zero, Int.ediv_one]
  rw [Int.mul_emod x p, Int.mul_emod (x % b) p, Int.emod_emod]
/-- .. of a quotient. -/
theorem dg_div_pow {b : Int} (hb : 0 < b) (x : Int) (q i : Nat) : dg b (x / b ^ q) i = dg b x (i + q) := by
  unfold dg
  rw [Int.ediv_ediv_of_nonneg (Int.le_of_lt (pw_pos hb q)), ← Int.pow_add, Nat.add_comm]
theorem dg_div {b p c : Int} (hp : 0 < p) (hc : 0 < c) (hbc : b = p * c) (x : Int) (j : Nat) : dg b (x / p) j = dg b x j / p + dg b x (j + 1) * c % b := by
  have hb : 0 < b := by rw [hbc]; exact Int.mul_pos hp hc
  have hj := pw_pos hb j
  have e1 : x / p / b ^ j = x / b ^ j / p := by
    rw [Int.ediv_ediv_of_nonneg (by omega), Int.ediv_ediv_of_nonneg (by omega), Int.mul_comm]
  have e2 : x / b ^ j = b * (x / b ^ (j + 1)) + dg b x j := by
    rw [div_succ hb]
    have := Int.mul_ediv_add_emod (x / b ^ j) b
    unfold dg; omega
  have h0 := dg_lo hb x j
  have h1 := dg_hi hb x j
  have e3 : x / b ^ j / p = (x / b ^ (j + 1)) * c + dg b x j / p := by
    rw [e2, show b * (x / b ^ (j + 1)) + dg b x j = dg b x j + (x / b ^ (j + 1) * c) * p by rw [hbc]; grind, Int.add_mul_ediv_right _ _ (by omega)]
    omega
  have h2 : 0 ≤ dg b x j / p := Int.ediv_nonneg h0 (by omega)
  have h3 : dg b x j / p < c := Int.ediv_lt_of_lt_mul hp (by rw [Int.mul_comm c p]; omega)
  show x / p / b ^ j % b = _
  rw [e1, e3]
  have e4 : x / b ^ (j + 1) * c = dg b x (j + 1) * c + (x / b ^ (j + 1) / b * c) * b := by
    have := Int.mul_ediv_add_emod (x / b ^ (j + 1)) b
    have h5 : x / b ^ (j + 1) * c = (b * (x / b ^ (j + 1) / b) + x / b ^ (j + 1) % b) * c := by rw [this]
    rw [h5]; unfold dg; grind
  rw [e4, show dg b x (j + 1) * c + x / b ^ (j + 1) / b * c * b + dg b x j / p = (dg b x (j + 1) * c + dg b x j / p) + (x / b ^ (j + 1) / b * c) * b by omega, Int.add_mul_emod_self_right]
  have e5 : dg b x (j + 1) * c % b = (dg b x (j + 1) % p) * c := by rw [hbc, Int.mul_comm _ c, Int.mul_comm p c, Int.mul_emod_mul_of_pos _ _ hc, Int.mul_comm]
  have h6 := Int.emod_nonneg (dg b x (j + 1)) (show p ≠ 0 by omega)
  have h7 := Int.emod_lt_of_pos (dg b x (j + 1)) hp
  have h8 : (dg b x (j + 1) % p + 1) * c ≤ p * c := Int.mul_le_mul_of_nonneg_right (by omega) (by omega)
  rw [Int.add_mul] at h8
  rw [Int.add_emod, e5, Int.emod_eq_of_lt h2 (show dg b x j / p < b by
    have : 1 * c ≤ p * c := Int.mul_le_mul_of_nonneg_right (by omega) (by omega)
    omega)]
  rw [Int.emod_eq_of_lt]
  · omega
  · have := Int.mul_nonneg h6 (Int.le_of_lt hc); omega
  · have hb2 : p * c = b := hbc.symm
    omega
end Go.Lm
