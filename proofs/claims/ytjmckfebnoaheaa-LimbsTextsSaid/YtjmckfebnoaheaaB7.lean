/- Go's own quotient of two words by one, walked. -/
import Derived.Test.YtjmckfebnoaheaaB6
import Derived.Test.YtjmckfebnoaheaaA1
import Derived.Deep.CutBlock
import Derived.Deep.CutRange
set_option linter.unusedVariables false
namespace Go.Proofs.Ytjmckfebnoaheaa
open Go.RowKit Go.KK Go.Lm

theorem u64_and32 {x : Int} (h₀ : 0 ≤ x) (h₁ : x ≤ 18446744073709551615) : bits .and .u64 x 4294967295 = x % 4294967296 :=
  bits_mask .u64 64 (by decide) (fun n h₀ h₁ => by rw [IntKind.wrap_u64]; omega) 32 (by decide) x h₀ (by omega)
theorem u64_or {x y : Int} (s : Nat) (hx₀ : 0 ≤ x) (hx₁ : x ≤ 18446744073709551615) (hx : x % 2 ^ s = 0) (hy₀ : 0 ≤ y) (hy : y < 2 ^ s) (hy₁ : y ≤ 18446744073709551615) : bits .or .u64 x y = x + y :=
  bits_join .u64 64 (by decide) (fun n h₀ h₁ => by rw [IntKind.wrap_u64]; omega) s x y hx₀ hx (by omega) hy₀ hy (by omega)
theorem ret_t2 {a b c d : Int} (h : a = c) (k : b = d) : Ending.returned (.tuple #[.int .u64 a, .int .u64 b]) = .returned (.tuple #[.int .u64 c, .int .u64 d]) := by rw [h, k]
set_option maxHeartbeats 1000000 in
theorem div64_small (lo y : Int) (hl0 : 0 ≤ lo) (hl1 : lo ≤ 18446744073709551615) (hy0 : 0 < y) (hy1 : y ≤ 18446744073709551615) (w : World) :
    Calls Try.prog 45 #[.int .u64 0, .int .u64 lo, .int .u64 y] w fun e w' => e = .returned (.tuple #[.int .u64 (lo / y), .int .u64 (lo % y)]) ∧ Below w.heap.size w w' := by
  have hne : (y == 0) = false := by simp; omega
  have hle : ¬ y ≤ 0 := by omega
  have hz : ¬ y = 0 := by omega
  have d1 : lo.tdiv y = lo / y := Int.tdiv_eq_ediv_of_nonneg hl0
  have m1 : lo.tmod y = lo % y := Int.tmod_eq_emod_of_nonneg hl0
  have d2 : IntKind.u64.wrap (lo / y) = lo / y := IntWalk.u64_in _ (by
    have h1 := Int.ediv_nonneg hl0 (show 0 ≤ y by omega)
    have h2 := Int.ediv_le_self y hl0
    omega)
  have m2 : IntKind.u64.wrap (lo % y) = lo % y := IntWalk.u64_in _ (by
    have h1 := Int.emod_nonneg lo hz
    have h2 := Int.emod_lt_of_pos lo hy0
    omega)
  go_enter Try.func45, Try.ntmps45
  go_wp2_with fail
  refine wp_region_ext (by kernel_rfl) (by kernel_rfl) ?_
  iterate 8 (quiet_step (fail))
  refine wpQuiet_nil ?_
  rintro _ ⟨e, rfl⟩
  go_wp2_with fail
  go_ret2
  exact ⟨rfl, e.below⟩

/-- The numbers that the walk comes by. -/
structure DF (hi lo y : Int) (s t : Nat) (v v1 v0 h1 l1 u u10 b1 b0 : Int) : Prop where
  hs : s ≤ 63
  ht : s + t = 64
  ev : IntKind.u64.wrap (y * 2 ^ s) = v
  ev1 : v / 4294967296 = v1
  ev0 : bits .and .u64 v 4294967295 = v0
  eh : IntKind.u64.wrap (hi * 2 ^ s) = h1
  el : lo / 2 ^ t = l1
  eu : bits .or .u64 h1 l1 = u
  eu10 : IntKind.u64.wrap (lo * 2 ^ s) = u10
  eb1 : u10 / 4294967296 = b1
  eb0 : bits .and .u64 u10 4294967295 = b0
  v00 : 0 ≤ v0
  v01 : v0 ≤ 4294967295
  v10 : 2147483648 ≤ v1
  v11 : v1 ≤ 4294967295
  b10 : 0 ≤ b1
  b11 : b1 ≤ 4294967295
  b00 : 0 ≤ b0
  b01 : b0 ≤ 4294967295
  u0 : 0 ≤ u
  uv : u < v
  vv : v = v1 * 4294967296 + v0
  vy : v = y * 2 ^ s
  nn : (hi * 18446744073709551616 + lo) * 2 ^ s = (u * 4294967296 + b1) * 4294967296 + b0
theorem div64_facts {hi lo y : Int} (hh0 : 0 ≤ hi) (hhy : hi < y) (hl0 : 0 ≤ lo) (hl1 : lo ≤ 18446744073709551615) (hy1 : y ≤ 18446744073709551615) :
    ∃ (s t : Nat) (v v1 v0 h1 l1 u u10 b1 b0 : Int), 64 - (Lib.bitLen y.toNat : Int) = (s : Int) ∧ (64 : Int) - (s : Int) = (t : Int) ∧ DF hi lo y s t v v1 v0 h1 l1 u u10 b1 b0 := by
  obtain ⟨Y, rfl⟩ := Int.eq_ofNat_of_zero_le (show 0 ≤ y by omega)
  obtain ⟨h1, h2, h3, h4⟩ := norm_shift (y := Y) (by omega) (by omega)
  rw [Int.toNat_natCast]
  generalize Lib.bitLen Y = l at *
  obtain ⟨s, hs⟩ : ∃ s, s = 64 - l := ⟨_, rfl⟩
  rw [← hs] at h3 h4
  have hp : 0 < (2 : Int) ^ s := Int.pow_pos (by omega)
  have hpl : (0 : Int) < 2 ^ l := Int.pow_pos (by omega)
  have hpp : (2 : Int) ^ s * 2 ^ l = 18446744073709551616 := by rw [← Int.pow_add, show s + l = 64 by omega]; rfl
  have ec : ((Y * 2 ^ s : Nat) : Int) = (Y : Int) * 2 ^ s := by rw [Int.natCast_mul, Int.natCast_pow]; rfl
  have h3' : 9223372036854775808 ≤ (Y : Int) * 2 ^ s := by rw [← ec]; omega
  have h4' : (Y : Int) * 2 ^ s < 18446744073709551616 := by rw [← ec]; omega
  have e1 : lo * 2 ^ s / 18446744073709551616 = lo / 2 ^ l := by
    rw [← hpp, Int.mul_comm lo, Int.mul_ediv_mul_of_pos _ _ hp]
  have hll : 0 ≤ lo / 2 ^ l ∧ lo / 2 ^ l < 2 ^ s := ⟨Int.ediv_nonneg hl0 (by omega), Int.ediv_lt_of_lt_mul hpl (by omega)⟩
  have hh : hi * 2 ^ s + 2 ^ s ≤ (Y : Int) * 2 ^ s := by
    have : (hi + 1) * 2 ^ s ≤ (Y : Int) * 2 ^ s := Int.mul_le_mul_of_nonneg_right (by omega) (by omega)
    rw [Int.add_mul] at this; omega
  have hh2 : 0 ≤ hi * 2 ^ s := Int.mul_nonneg hh0 (by omega)
  have hm : (hi * 2 ^ s) % 2 ^ s = 0 := Int.mul_emod_left _ _
  have hlo : 0 ≤ lo * 2 ^ s := Int.mul_nonneg hl0 (by omega)
  have ew : IntKind.u64.wrap (lo * 2 ^ s) = lo * 2 ^ s % 18446744073709551616 := by rw [IntKind.wrap_u64]
  have hw := Int.emod_nonneg (lo * 2 ^ s) (show (18446744073709551616 : Int) ≠ 0 by omega)
  have hw2 := Int.emod_lt_of_pos (lo * 2 ^ s) (show (0 : Int) < 18446744073709551616 by omega)
  have hor := u64_or s hh2 (by omega) hm hll.1 hll.2 (by omega)
  have hn : (hi * 18446744073709551616 + lo) * 2 ^ s = (hi * 2 ^ s) * 18446744073709551616 + lo * 2 ^ s := by grind
  have ev : IntKind.u64.wrap ((Y : Int) * 2 ^ s) = (Y : Int) * 2 ^ s := IntWalk.u64_in _ (by omega)
  have eh : IntKind.u64.wrap (hi * 2 ^ s) = hi * 2 ^ s := IntWalk.u64_in _ (by omega)
  refine ⟨s, l, (Y : Int) * 2 ^ s, (Y : Int) * 2 ^ s / 4294967296, (Y : Int) * 2 ^ s % 4294967296, hi * 2 ^ s, lo / 2 ^ l, hi * 2 ^ s + lo / 2 ^ l, lo * 2 ^ s % 18446744073709551616, lo * 2 ^ s % 18446744073709551616 / 4294967296, lo * 2 ^ s % 18446744073709551616 % 4294967296, by omega, by omega, ?_⟩
  have ea := u64_and32 (x := (Y : Int) * 2 ^ s) (by omega) (by omega)
  have eb := u64_and32 (x := lo * 2 ^ s % 18446744073709551616) hw (by omega)
  refine ⟨by omega, by omega, ev, rfl, ea, eh, rfl, hor, ew, rfl, eb, ?_, ?_, ?_, ?_, ?_, ?_, ?_, ?_, ?_, ?_, ?_, rfl, ?_⟩
  all_goals first | (rw [hn]; omega) | omega
end Go.Proofs.Ytjmckfebnoaheaa
