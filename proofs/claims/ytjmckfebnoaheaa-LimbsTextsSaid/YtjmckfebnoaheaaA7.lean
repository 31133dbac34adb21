/- Plain laws on a text of digits. No program. -/
import Derived.Test.YtjmckfebnoaheaaA4
import Derived.Test.YtjmckfebnoaheaaB12
set_option linter.unusedVariables false
namespace Go.Proofs.Ytjmckfebnoaheaa
open Go.RowKit Go.KK Go.Lm
/-- The byte k of a text. -/
def bI (s : ByteArray) (k : Nat) : Int := ((s.data.toList.getD k 0).toNat : Int)
theorem bI_bd (s : ByteArray) (k : Nat) : 0 ≤ bI s k ∧ bI s k ≤ 255 := by
  have := (s.data.toList.getD k 0).toNat_lt
  unfold bI; omega
def DigAt (s : ByteArray) (k : Nat) : Prop := 48 ≤ bI s k ∧ bI s k ≤ 57
/-- The number of the first k digits. -/
def vI (s : ByteArray) : Nat → Int
  | 0 => 0
  | k + 1 => vI s k * 10 + (bI s k - 48)
theorem vI_lo {s : ByteArray} : ∀ k, (∀ i, i < k → DigAt s i) → 0 ≤ vI s k
  | 0, _ => Int.le_refl 0
  | k + 1, h => by
    have h1 := vI_lo k (fun i hi => h i (by omega))
    have h2 := h k (by omega)
    unfold DigAt at h2
    simp only [vI]; omega
theorem vI_up {s : ByteArray} (j : Nat) : ∀ k, j ≤ k → (∀ i, i < k → DigAt s i) → vI s j ≤ vI s k
  | 0, hj, _ => by rw [show j = 0 by omega]; exact Int.le_refl _
  | k + 1, hj, h => by
    by_cases hk : j = k + 1
    · rw [hk]; exact Int.le_refl _
    · have h1 := vI_up j k (by omega) (fun i hi => h i (by omega))
      have h0 := vI_lo k (fun i hi => h i (by omega))
      have h2 := h k (by omega)
      unfold DigAt at h2
      simp only [vI]; omega
theorem vI_big {s : ByteArray} (h0 : bI s 0 ≠ 48) : ∀ k, (∀ i, i < k + 1 → DigAt s i) → (10 : Int) ^ k ≤ vI s (k + 1)
  | 0, h => by
    have h2 := h 0 (by omega)
    unfold DigAt at h2
    simp only [vI]; omega
  | k + 1, h => by
    have h1 := vI_big h0 k (fun i hi => h i (by omega))
    have h2 := h (k + 1) (by omega)
    unfold DigAt at h2
    rw [Int.pow_succ]
    simp only [vI] at h1 ⊢; omega
/-- One digit more, in words of 256 bits. -/
theorem dig_step {v d : Int} (hv : 0 ≤ v) (hd0 : 0 ≤ d) (hd1 : d ≤ 9) :
    (v % R256 * 10 + d) % R256 = (v * 10 + d) % R256 ∧
    (v < R256 → (R256 ≤ v * 10 + d ↔ (0 < (v % R256 * 10 % R256 + d % R256) / R256 ∨ v % R256 * 10 / R256 ≠ 0))) := by
  have hR := R256_lit
  have h1 := Int.mul_ediv_add_emod v R256
  constructor
  · rw [show v * 10 + d = v % R256 * 10 + d + R256 * (v / R256 * 10) by rw (config := {occs := .pos [1]}) [← h1]; grind]
    rw [Int.add_mul_emod_self_left]
  · intro hlt
    rw [Int.emod_eq_of_lt hv hlt]
    have h2 := Int.mul_ediv_add_emod (v * 10) R256
    rw [Int.emod_eq_of_lt hd0 (by omega)]
    rw [hR] at *
    omega
/-- A number's own digits. -/
theorem lowd_bI (x : Int) {j k : Nat} (h : k < j) : bI ⟨(lowd x j).toArray⟩ k = 48 + dec x (j - 1 - k) := by
  unfold bI
  have hg := lowd_get x j k h
  have hb := dec_bd x (j - 1 - k)
  show (((lowd x j).toArray.toList.getD k 0).toNat : Int) = _
  rw [List.getD_eq_getElem?_getD, show (lowd x j).toArray.toList = lowd x j by simp, hg]
  exact chB_toNat hb.1 hb.2
theorem lowd_dig (x : Int) {j k : Nat} (h : k < j) : DigAt ⟨(lowd x j).toArray⟩ k := by
  have hb := dec_bd x (j - 1 - k)
  unfold DigAt; rw [lowd_bI x h]; omega
theorem lowd_vI (x : Int) (j : Nat) (hj : x / 10 ^ j = 0) : ∀ k, k ≤ j → vI ⟨(lowd x j).toArray⟩ k = x / 10 ^ (j - k)
  | 0, _ => by simp only [vI]; exact hj.symm
  | k + 1, h => by
    simp only [vI]
    rw [lowd_vI x j hj k (by omega), lowd_bI x (by omega)]
    obtain ⟨i, hi⟩ : ∃ i, j - (k + 1) = i := ⟨_, rfl⟩
    rw [hi, show j - k = i + 1 by omega, show j - 1 - k = i by omega, div10_succ]
    unfold dec; omega
theorem lowd_size (x : Int) (j : Nat) : ByteArray.size ⟨(lowd x j).toArray⟩ = j := by
  show (lowd x j).toArray.size = j
  simp [lowd_length]
end Go.Proofs.Ytjmckfebnoaheaa
