/- Plain laws on decimal digits. No program, no premise. -/
set_option linter.unusedVariables false
namespace Go.Lm
/-- The sign of a digit. -/
def chI (d : Int) : Int := 48 + d
def chB (d : Int) : UInt8 := UInt8.ofNat (48 + d.toNat)
theorem chB_toNat {d : Int} (h0 : 0 ≤ d) (h1 : d < 10) : ((chB d).toNat : Int) = chI d := by
  unfold chB chI
  rw [UInt8.toNat_ofNat_of_lt' (by show 48 + d.toNat < 256; omega)]
  omega
/-- The digit i. -/
def dec (x : Int) (i : Nat) : Int := x / 10 ^ i % 10
theorem dec_bd (x : Int) (i : Nat) : 0 ≤ dec x i ∧ dec x i < 10 := ⟨Int.emod_nonneg _ (by omega), Int.emod_lt_of_pos _ (by omega)⟩
/-- The last j digits, the highest first. -/
def lowd (x : Int) : Nat → List UInt8
  | 0 => []
  | j + 1 => chB (dec x j) :: lowd x j
theorem lowd_length (x : Int) : ∀ j, (lowd x j).length = j
  | 0 => rfl
  | j + 1 => by rw [lowd, List.length_cons, lowd_length x j]
theorem lowd_get (x : Int) : ∀ (j i : Nat), i < j → (lowd x j)[i]? = some (chB (dec x (j - 1 - i)))
  | 0, _, h => by omega
  | j + 1, 0, _ => by simp [lowd]
  | j + 1, i + 1, h => by
    rw [lowd, List.getElem?_cons_succ, lowd_get x j i (by omega)]
    rw [show j + 1 - 1 - (i + 1) = j - 1 - i by omega]
theorem div10_succ (x : Int) (j : Nat) : x / 10 ^ (j + 1) = x / 10 ^ j / 10 := by
  rw [Int.pow_succ, Int.ediv_ediv_of_nonneg (Int.le_of_lt (Int.pow_pos (by omega)))]
/-- How many digits: the first place, from 1 on, above which nothing stands. -/
def IsLen (x : Int) (j : Nat) : Prop := 1 ≤ j ∧ x / 10 ^ j = 0 ∧ (j = 1 ∨ x / 10 ^ (j - 1) ≠ 0)
theorem div10_zero_up {x : Int} (h0 : 0 ≤ x) {i j : Nat} (h : x / 10 ^ i = 0) (hij : i ≤ j) : x / 10 ^ j = 0 := by
  obtain ⟨d, rfl⟩ : ∃ d, j = i + d := ⟨j - i, by omega⟩
  rw [Int.pow_add, ← Int.ediv_ediv_of_nonneg (Int.le_of_lt (Int.pow_pos (by omega))), h, Int.zero_ediv]
theorem IsLen.unique {x : Int} (h0 : 0 ≤ x) {i j : Nat} (hi : IsLen x i) (hj : IsLen x j) : i = j := by
  have key : ∀ i j, IsLen x i → IsLen x j → ¬ i < j := fun i j hi hj h => by
    rcases hj.2.2 with h1 | h1
    · have := hi.1; omega
    · exact h1 (div10_zero_up h0 hi.2.1 (by omega))
  have h1 := key i j hi hj
  have h2 := key j i hj hi
  omega
end Go.Lm
