/- Plain laws on words read from bytes. No program. -/
import Derived.Test.YtjmckfebnoaheaaA5
import Derived.Test.YtjmckfebnoaheaaC7
import Derived.Test.YtjmckfebnoaheaaB7
set_option linter.unusedVariables false
namespace Go.Proofs.Ytjmckfebnoaheaa
open Go.RowKit Go.KK Go.Lm
/-- The words behind k bytes. -/
def rdw (f : Nat → Int) : Nat → Nat → Int
  | 0 => fun _ => 0
  | k + 1 => fun m => if m = 3 - k / 8 then rdw f k m * 256 % 18446744073709551616 + f k else rdw f k m
theorem rdw_bd {f : Nat → Int} (hf : ∀ k, k < 32 → 0 ≤ f k ∧ f k ≤ 255) : ∀ k, k ≤ 32 → ∀ m, 0 ≤ rdw f k m ∧ rdw f k m ≤ 18446744073709551615
  | 0, _, m => by simp [rdw]
  | k + 1, h, m => by
    have h1 := rdw_bd hf k (by omega) m
    have h2 := hf k (by omega)
    simp only [rdw]
    split <;> omega
theorem rdw_set (f : Nat → Int) (k : Nat) {m : Nat} (hm : m = 3 - k / 8) : (nums .u64 4 (rdw f k)).setIfInBounds m (.int .u64 (rdw f k m * 256 % 18446744073709551616 + f k)) = nums .u64 4 (rdw f (k + 1)) := by
  rw [nums_set]
  refine nums_congr _ fun j _ => ?_
  simp only [rdw]
  by_cases h : j = m
  · subst h; rw [if_pos rfl, if_pos hm]
  · rw [if_neg h, if_neg (by omega)]
theorem rdw_word {f : Nat → Int} (hf : ∀ k, k < 32 → 0 ≤ f k ∧ f k ≤ 255) : ∃ n, nums .u64 4 (rdw f 32) = W n ∧ 0 ≤ n ∧ n < R256 := by
  have hb := rdw_bd hf 32 (by omega)
  generalize rdw f 32 = g at *
  obtain ⟨n, h0, h1, hn⟩ := word_of (g 0) (g 1) (g 2) (g 3) (hb 0) (hb 1) (hb 2) (hb 3)
  exact ⟨n, (show nums .u64 4 g = #[.int .u64 (g 0), .int .u64 (g 1), .int .u64 (g 2), .int .u64 (g 3)] from rfl).trans hn, h0, h1⟩
theorem or_byte {a b : Int} (h0 : 0 ≤ a) (h1 : a ≤ 18446744073709551615) (hb0 : 0 ≤ b) (hb1 : b ≤ 255) : bits .or .u64 (a * 256 % 18446744073709551616) b = a * 256 % 18446744073709551616 + b := by
  exact u64_or 8 (by omega) (by omega) (by simp) hb0 (by omega) (by omega)
/-- A number's bytes, read, are its words. -/
theorem rdw_bytes (x : Int) : ∀ k, k ≤ 32 → ∀ m, m < 4 → rdw (byI x) k m = if 8 * (4 - m) ≤ k then d64 x m else if k ≤ 8 * (3 - m) then 0 else d64 x m / 2 ^ (8 * (8 * (4 - m) - k))
  | 0, _, m, hm => by rw [if_neg (by omega), if_pos (by omega)]; rfl
  | k + 1, h, m, hm => by
    have ih := rdw_bytes x k (by omega) m hm
    simp only [rdw]
    by_cases hk : m = 3 - k / 8
    · rw [if_pos hk, ih, if_neg (by omega)]
      obtain ⟨t, ht⟩ : ∃ t, k = 8 * (3 - m) + t := ⟨k - 8 * (3 - m), by omega⟩
      have ht7 : t ≤ 7 := by omega
      have e1 : 8 * (4 - m) - k = 8 - t := by omega
      have e2 : 8 * (4 - m) - (k + 1) = 7 - t := by omega
      have hby := word_byte x (m := m) (s := 8 * (7 - t)) (k := k) (by omega) (by omega)
      have hd0 := d64_lo x m
      have hd1 := d64_hi x m
      rw [← hby]
      have hstep : d64 x m / 2 ^ (8 * (8 - t)) = d64 x m / 2 ^ (8 * (7 - t)) / 256 := by
        rw [show 8 * (8 - t) = 8 * (7 - t) + 8 by omega, Int.pow_add, Int.ediv_ediv_of_nonneg (Int.le_of_lt (Int.pow_pos (by omega)))]
        rfl
      have hz : d64 x m / 2 ^ (8 * (8 - 0)) = 0 := by
        refine Int.ediv_eq_zero_of_lt hd0 ?_
        rw [show (2 : Int) ^ (8 * (8 - 0)) = 18446744073709551616 by decide]; omega
      have hv : (if k ≤ 8 * (3 - m) then (0 : Int) else d64 x m / 2 ^ (8 * (8 * (4 - m) - k))) = d64 x m / 2 ^ (8 * (8 - t)) := by
        split
        · rw [show t = 0 by omega, hz]
        · rw [e1]
      rw [hv, hstep]
      have hr : (if 8 * (4 - m) ≤ k + 1 then d64 x m else if k + 1 ≤ 8 * (3 - m) then (0 : Int) else d64 x m / 2 ^ (8 * (8 * (4 - m) - (k + 1)))) = d64 x m / 2 ^ (8 * (7 - t)) := by
        split
        · rw [show 7 - t = 0 by omega]; simp
        · rw [if_neg (by omega), e2]
      rw [hr]
      have hq0 := Int.ediv_nonneg hd0 (show (0 : Int) ≤ 2 ^ (8 * (7 - t)) from Int.le_of_lt (Int.pow_pos (by omega)))
      have hq1 := Int.ediv_le_self (2 ^ (8 * (7 - t))) hd0
      omega
    · rw [if_neg hk, ih]
      by_cases h1 : 8 * (4 - m) ≤ k
      · rw [if_pos h1, if_pos (by omega)]
      · rw [if_neg h1, if_pos (by omega), if_neg (by omega), if_pos (by omega)]
theorem rdw_back (x : Int) : nums .u64 4 (rdw (byI x) 32) = W x := nums_congr _ fun m hm => by
  rw [rdw_bytes x 32 (by omega) m hm, if_pos (by omega)]
end Go.Proofs.Ytjmckfebnoaheaa
