/- The page's Bit and put, walked. -/
import Derived.Test.YtjmckfebnoaheaaD0
set_option linter.unusedVariables false
namespace Go.Proofs.Ytjmckfebnoaheaa
open Go.RowKit Go.KK Go.Lm

set_option maxHeartbeats 1000000 in
theorem rbit_no (x n : Int) (hn : n < 0 ∨ 255 < n) (w : World) :
    Calls Try.prog 26 #[.agg (W x), .int .i64 n] w fun e w' => e = .returned (.int .i64 (bitI x n)) ∧ Below w.heap.size w w' := by
  have hb : bitI x n = 0 := by unfold bitI; rw [if_pos hn]
  rw [hb]
  have H0 := Lib.hid ((Blks.nil w).alloc (W x) 24 rfl)
  by_cases h : n < 0
  · have h' : decide (n < 0) = true := by simpa using h
    clear hn hb
    go_enter Try.func26, Try.ntmps26
    go_wp2_with fail
    go_ret
    exact ⟨rfl, H0.out.below⟩
  · have h' : decide (n < 0) = false := by simpa using h
    have h2 : 255 < n := by omega
    have h2' : decide (255 < n) = true := by simpa using h2
    clear hn hb
    go_enter Try.func26, Try.ntmps26
    go_wp2_with fail
    go_ret
    exact ⟨rfl, H0.out.below⟩
/-- The word and the place of a bit. -/
theorem bit_place (e : Nat) : ((e : Int) / 64 = ((e / 64 : Nat) : Int)) ∧ ((e : Int) % 64 = ((e % 64 : Nat) : Int)) ∧ (e : Int).tdiv 64 = ((e / 64 : Nat) : Int) ∧ (e : Int).tmod 64 = ((e % 64 : Nat) : Int) := by
  refine ⟨by omega, by omega, ?_, ?_⟩
  · rw [Int.tdiv_eq_ediv_of_nonneg (by omega)]; omega
  · rw [Int.tmod_eq_emod_of_nonneg (by omega)]; omega
set_option maxHeartbeats 1000000 in
theorem rbit_yes (x n : Int) (h0 : 0 ≤ n) (h1 : n ≤ 255) (w : World) :
    Calls Try.prog 26 #[.agg (W x), .int .i64 n] w fun e w' => e = .returned (.int .i64 (bitI x n)) ∧ Below w.heap.size w w' := by
  obtain ⟨e, rfl⟩ := Int.eq_ofNat_of_zero_le h0
  have hbt := bit_digit x e
  have hb : bitI x e = d64 x (e / 64) / 2 ^ (e % 64) % 2 := by unfold bitI; rw [if_neg (by omega), hbt, Int.toNat_natCast]
  have H0 := Lib.hid ((Blks.nil w).alloc (W x) 24 rfl)
  have hd0 := d64_lo x (e / 64)
  have hd1 := d64_hi x (e / 64)
  have hz0 : 0 ≤ d64 x (e / 64) / 2 ^ (e % 64) := Int.ediv_nonneg hd0 (Int.le_of_lt (Int.pow_pos (by omega)))
  have hz1 := Int.ediv_le_self (2 ^ (e % 64)) hd0
  have h6 := u64_and1 hz0 (by omega)
  obtain ⟨e2, e3, e4, e5⟩ := bit_place e
  have hq4 : e / 64 < 4 := by omega
  have hr63 : e % 64 ≤ 63 := by omega
  generalize e / 64 = q at *
  generalize e % 64 = r at *
  have hqI : (q : Int) < 4 := by omega
  have hr64 : r ≤ 64 := by omega
  have hrI : (r : Int) ≤ 63 := by omega
  have hca : (w.alloc (.cells (W x) 24)).cell? ⟨w.heap.size, q, none⟩ = some (.int .u64 (d64 x q)) := H0.out.num 0 rfl hq4
  generalize hz : d64 x q / 2 ^ r = z at *
  have hzz : z ≤ 18446744073709551615 := by omega
  have hm0 : 0 ≤ z % 2 := by omega
  have hm1 : z % 2 ≤ 1 := by omega
  have hn0 : decide ((e : Int) < 0) = false := by simp
  have hn1 : decide (255 < (e : Int)) = false := by simp; omega
  have HB := Lib.hid hb
  clear hbt hb
  generalize z % 2 = b at *
  go_enter Try.func26, Try.ntmps26
  go_wp2_with fail
  go_ret
  exact ⟨ret_i HB.out.symm, H0.out.below⟩
theorem rbit_p (x n : Int) (w : World) : Calls Try.prog 26 #[.agg (W x), .int .i64 n] w fun e w' => e = .returned (.int .i64 (bitI x n)) ∧ Below w.heap.size w w' := by
  by_cases h : n < 0 ∨ 255 < n
  · exact rbit_no x n h w
  · exact rbit_yes x n (by omega) (by omega) w
end Go.Proofs.Ytjmckfebnoaheaa
