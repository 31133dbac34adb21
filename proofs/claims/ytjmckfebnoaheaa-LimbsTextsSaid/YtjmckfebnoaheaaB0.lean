/- Numbers of four words: their cells, their types, the calls of math/bits. No premise. -/
import Derived.Test.YtjmckfebnoaheaaProg
import Derived.Test.YtjmckfebnoaheaaSh
import Derived.Test.YtjmckfebnoaheaaK8
import Derived.Test.YtjmckfebnoaheaaA0
import Derived.IntWalk
import Derived.Shelf.Spec.BitsCarry
import Derived.WalkSpells
import Derived.WalkLawsBesides
import Derived.Lib.Hide
import Derived.Outline
set_option linter.unusedVariables false
namespace Go.Proofs.Ytjmckfebnoaheaa
open Go.RowKit Go.KK Go.Lm

def B64 : Int := 18446744073709551616
theorem B64_pos : 0 < B64 := by unfold B64; omega
/-- The digit k at 2^64. -/
def d64 (n : Int) (k : Nat) : Int := dg B64 n k
theorem d64_lo (n : Int) (k : Nat) : 0 ≤ d64 n k := dg_lo B64_pos n k
theorem d64_hi (n : Int) (k : Nat) : d64 n k ≤ 18446744073709551615 := by
  have := dg_hi B64_pos n k; unfold d64; unfold B64 at *; omega
/-- A number's four words. -/
def W (n : Int) : Array Value := nums .u64 4 (d64 n)
theorem W_size (n : Int) : (W n).size = 4 := rfl
theorem W_one (n : Int) : (W n).all (·.oneCell') = true := nums_one _ _ _
def R256 : Int := B64 ^ 4
theorem W_get (n : Int) {k : Nat} (h : k < 4) : (W n)[k]? = some (.int .u64 (d64 n k)) := nums_get _ _ h
theorem W_mod (n : Int) : W (n % R256) = W n := nums_congr _ fun i hi => dg_mod B64_pos n hi
theorem W_zero : W 0 = nums .u64 4 fun _ => 0 := nums_congr _ fun i _ => dg_zero i
def Z4 : Array Value := nums .u64 4 fun _ => 0
/-- Every four words are a number's. -/
theorem word_of (a b c d : Int) (ha : 0 ≤ a ∧ a ≤ 18446744073709551615) (hb : 0 ≤ b ∧ b ≤ 18446744073709551615) (hc : 0 ≤ c ∧ c ≤ 18446744073709551615) (hd : 0 ≤ d ∧ d ≤ 18446744073709551615) :
    ∃ n, 0 ≤ n ∧ n < R256 ∧ #[.int .u64 a, .int .u64 b, .int .u64 c, .int .u64 d] = W n := by
  refine ⟨a + b * B64 + c * B64 ^ 2 + d * B64 ^ 3, ?_, ?_, ?_⟩
  · unfold B64; omega
  · unfold R256 B64; omega
  · have e : ∀ f : Nat → Int, f 0 = a → f 1 = b → f 2 = c → f 3 = d → #[Value.int .u64 a, .int .u64 b, .int .u64 c, .int .u64 d] = nums .u64 4 f := by
      rintro f rfl rfl rfl rfl; rfl
    refine e _ ?_ ?_ ?_ ?_ <;> unfold d64 dg B64 <;> simp only [Int.reducePow, Int.pow_zero] <;> omega

theorem tu22 : Try.prog.underlying 22 = some (.int .u64) := by kernel_rfl
theorem tu24 : Try.prog.underlying 24 = some (.array 4 22) := by kernel_rfl
theorem ts24 : (Try.prog.info? 24).map (·.size) = some 4 := by kernel_rfl
theorem ts22 : (Try.prog.info? 22).map (·.size) = some 1 := by kernel_rfl
theorem tu59 : Try.prog.underlying 59 = some (.array 8 22) := by kernel_rfl
theorem ts59 : (Try.prog.info? 59).map (·.size) = some 8 := by kernel_rfl

theorem add64_call (x y c : Int) (hx : 0 ≤ x) (hy : 0 ≤ y) (hc0 : 0 ≤ c) (hc : c ≤ 1) (w : World) :
    (callFunc 40 #[.int .u64 x, .int .u64 y, .int .u64 c]).run Try.prog w = .ok (.value (.tuple #[.int .u64 ((x + y + c) % 18446744073709551616), .int .u64 ((x + y + c) / 18446744073709551616)])) w := by
  rw [run_callFunc_extern (fn := Try.f40) (e := add64Entry) (by kernel_rfl) (by kernel_rfl) (by kernel_rfl) (by kernel_rfl) (by kernel_rfl), run_add64 x y c hx hy hc0 hc]
  rfl
theorem sub64_call (x y c : Int) (hx : 0 ≤ x) (hx1 : x ≤ 18446744073709551615) (hy : 0 ≤ y) (hy1 : y ≤ 18446744073709551615) (hc0 : 0 ≤ c) (hc : c ≤ 1) (w : World) :
    (callFunc 43 #[.int .u64 x, .int .u64 y, .int .u64 c]).run Try.prog w = .ok (.value (.tuple #[.int .u64 ((x - y - c) % 18446744073709551616), .int .u64 (-((x - y - c) / 18446744073709551616))])) w := by
  obtain ⟨X, rfl⟩ := Int.eq_ofNat_of_zero_le hx
  obtain ⟨Y, rfl⟩ := Int.eq_ofNat_of_zero_le hy
  obtain ⟨C, rfl⟩ := Int.eq_ofNat_of_zero_le hc0
  rw [run_callFunc_extern (fn := Try.f43) (e := sub64Entry) (by kernel_rfl) (by kernel_rfl) (by kernel_rfl) (by kernel_rfl) (by kernel_rfl), run_sub64 X Y C (by omega)]
  simp only [Result.andThen]
  have e1 : (((X + 18446744073709551616 - Y - C) % 18446744073709551616 : Nat) : Int) = ((X : Int) - Y - C) % 18446744073709551616 := by omega
  have e2 : ((if X < Y + C then 1 else 0 : Nat) : Int) = -(((X : Int) - Y - C) / 18446744073709551616) := by
    by_cases h : X < Y + C
    · rw [if_pos h]; omega
    · rw [if_neg h]; omega
  rw [e1, e2]
end Go.Proofs.Ytjmckfebnoaheaa
