/- The quotient of a number by a word, as the program makes it. -/
import Derived.Test.YtjmckfebnoaheaaB8
set_option linter.unusedVariables false
namespace Go.Proofs.Ytjmckfebnoaheaa
open Go.RowKit Go.KK Go.Lm

/-- The words of n from k on. -/
def high64 (n : Int) (k : Nat) : Nat → Int := fun i => if k ≤ i then d64 n i else 0
theorem high64_top (n : Int) : nums .u64 4 (high64 n 4) = nums .u64 4 fun _ => 0 := nums_congr _ fun i hi => by simp [high64]; omega
theorem high64_zero (n : Int) : nums .u64 4 (high64 n 0) = W n := nums_congr _ fun i hi => by simp [high64]
theorem high64_step (n : Int) (k : Nat) : (nums .u64 4 (high64 n (k + 1))).setIfInBounds k (.int .u64 (d64 n k)) = nums .u64 4 (high64 n k) := by
  rw [nums_set]
  refine nums_congr _ fun i hi => ?_
  unfold high64
  by_cases h1 : i = k
  · subst h1; simp
  · by_cases h2 : k ≤ i
    · simp [h1, h2]; omega
    · simp [h1, h2]; omega
theorem div_div (x by_ : Int) (hb : 0 < by_) (k : Nat) : x / by_ / B64 ^ k = x / B64 ^ k / by_ := by
  rw [Int.ediv_ediv_of_nonneg (by omega), Int.ediv_ediv_of_nonneg (Int.le_of_lt (pw_pos B64_pos k)), Int.mul_comm]
/-- One word of the quotient. -/
theorem div_digit (x by_ : Int) (hb : 0 < by_) (k : Nat) : (x / B64 ^ (k + 1) % by_ * 18446744073709551616 + d64 x k) / by_ = d64 (x / by_) k ∧ (x / B64 ^ (k + 1) % by_ * 18446744073709551616 + d64 x k) % by_ = x / B64 ^ k % by_ := by
  have e := div_word x k
  have h1 := Int.mul_ediv_add_emod (x / B64 ^ (k + 1)) by_
  have h2 := Int.emod_nonneg (x / B64 ^ (k + 1)) (show by_ ≠ 0 by omega)
  have h3 := Int.emod_lt_of_pos (x / B64 ^ (k + 1)) hb
  have h4 := d64_lo x k
  have h5 := d64_hi x k
  have e2 : x / B64 ^ k = (x / B64 ^ (k + 1) % by_ * 18446744073709551616 + d64 x k) + (B64 * (x / B64 ^ (k + 1) / by_)) * by_ := by
    rw [e]
    have : B64 * (x / B64 ^ (k + 1)) = B64 * (by_ * (x / B64 ^ (k + 1) / by_) + x / B64 ^ (k + 1) % by_) := by rw [h1]
    rw [this]
    unfold B64
    grind
  constructor
  · show _ = x / by_ / B64 ^ k % B64
    rw [div_div x by_ hb, e2, Int.add_mul_ediv_right _ _ (by omega), Int.add_mul_emod_self_left]
    refine (Int.emod_eq_of_lt (Int.ediv_nonneg (by omega) (by omega)) ?_).symm
    refine Int.ediv_lt_of_lt_mul hb ?_
    have h6 : (x / B64 ^ (k + 1) % by_ + 1) * B64 ≤ by_ * B64 := Int.mul_le_mul_of_nonneg_right (by omega) (by unfold B64; omega)
    rw [Int.mul_comm B64 by_]
    rw [Int.add_mul] at h6
    generalize x / B64 ^ (k + 1) % by_ = z at *
    generalize by_ * B64 = q at *
    unfold B64 at h6
    omega
  · rw [e2, Int.add_mul_emod_self_right]
set_option maxHeartbeats 2000000 in
theorem div_p {x by_ : Int} (hx0 : 0 ≤ x) (hx1 : x < R256) (hb0 : 0 < by_) (hb1 : by_ ≤ 18446744073709551615) (w : World) :
    Calls Try.prog 18 #[.agg (W x), .int .u64 by_] w fun e w' => e = .returned (.tuple #[.agg (W (x / by_)), .int .u64 (x % by_), .int .i64 0]) ∧ Below w.heap.size w w' := by
  have HT : Hid (x / B64 ^ 4 = 0) := Lib.hid (top_zero hx0 hx1)
  have hbz : (by_ == 0) = false := by simp; omega
  clear hx0 hx1
  go_enter Try.func18, Try.ntmps18
  go_wp2_with fail
  go_loopw [8, 9, 10, 14] (fun r _ _ h wr => ∃ j : Nat, j ≤ 4 ∧ h = .int .i64 j ∧ r = .int .u64 (x / B64 ^ (4 - j) % by_) ∧ Blks w [(w.heap.size, W x, 24), (w.heap.size + 1, Z4, 24), (w.heap.size + 1 + 1, nums .u64 4 (high64 (x / by_) (4 - j)), 24)] wr) (fun _ _ _ h _ => 4 - (intOf h).toNat)
  case atStart =>
    refine ⟨0, by omega, rfl, ?_, ?_⟩
    · rw [show 4 - 0 = 4 from rfl, HT.out, Int.zero_emod]
    · rw [show 4 - 0 = 4 from rfl, high64_top]
      exact (((Blks.nil w).alloc (W x) 24 rfl).alloc Z4 24 (by simp)).alloc Z4 24 (by simp)
  case round =>
    obtain ⟨j, hj, rfl, rfl, HW⟩ := hrel
    by_cases hlt : j < 4
    · obtain ⟨k, hk⟩ : ∃ k : Nat, 3 = j + k := ⟨3 - j, by omega⟩
      rw [show 4 - j = k + 1 by omega] at HW
      have hr0 := Int.emod_nonneg (x / B64 ^ (4 - j)) (show by_ ≠ 0 by omega)
      have hr1 := Int.emod_lt_of_pos (x / B64 ^ (4 - j)) hb0
      have hdg := div_digit x by_ hb0 k
      rw [show 4 - j = k + 1 by omega] at hr0 hr1 ⊢
      have HD := div64_p (x / B64 ^ (k + 1) % by_) (d64 x k) by_ hr0 hr1 (d64_lo _ _) (d64_hi _ _) hb1
      rw [hdg.1, hdg.2] at HD
      generalize x / B64 ^ (k + 1) % by_ = rr at *
      have hca : wr.cell? ⟨w.heap.size, k, none⟩ = some (.int .u64 (d64 x k)) := HW.num 0 rfl (by omega)
      have HWH := Lib.hid HW
      have hkI : (k : Int) < 4 := by omega
      have e1 : (3 : Int) - (j : Int) = (k : Int) := by omega
      have hj3 : (j : Int) ≤ 3 := by omega
      have HK := Lib.hid hk
      have HDH := Lib.hid HD
      clear HW hk hdg HD
      go_wp2_with fail
      refine (HDH.out _).mono ?_
      rintro e V ⟨rfl, hV⟩
      have HV := HWH.out.ext hV
      have hcs : V.cell? ⟨w.heap.size + 1 + 1, k, none⟩ = some (.int .u64 0) := by
        have hkl := HK.out
        rw [HV.num 2 rfl (by omega)]; unfold high64; rw [if_neg (by omega)]
      have hfz := HV.frozen 2 rfl k
      have HS := Lib.hid (HV.set 2 rfl k (.int .u64 (d64 (x / by_) k)) (c' := nums .u64 4 (high64 (x / by_) k)) (high64_step _ _))
      clear HV hV hca
      go_wp2_with fail
      go_roundw
      case rel => exact ⟨j + 1, by omega, by go_num, by rw [show 4 - (j + 1) = k by have := HK.out; omega], by rw [show 4 - (j + 1) = k by have := HK.out; omega]; exact HS.out⟩
      case measure => simp [intOf]; omega
    · obtain rfl : j = 4 := by omega
      rw [show 4 - 4 = 0 from rfl, high64_zero] at HW
      have HWH := Lib.hid HW
      have e0 : x / B64 ^ (4 - 4) % by_ = x % by_ := by simp
      clear HW
      rw [e0]
      clear e0
      go_wp2_with (first
        | ((with_reducible refine g_load 24 ?_); refine wpList_blks_load HWH.out 2 _ _ 24 rfl rfl _ rfl rfl tu24 rfl ts24 ?_)
        | ((with_reducible refine g_store 24 ?_); refine wpList_blks_store HWH.out 1 _ _ 24 rfl rfl _ _ rfl rfl (W (x / by_)) rfl rfl ts24 (W_one _) ?_; intro w1 H1))
      exact bodyPost_ret (results_cell_tmp2_row rfl _ _ (w.heap.size + 1) 24 (W (x / by_)) (0, 0) _ (.int .u64 (x % by_)) (.int .i64 0) rfl rfl rfl (H1.get 1 rfl) tu24 rfl ts24) rfl ⟨rfl, H1.below⟩
theorem build24z (w : World) : (Instr.build 24 #[]).run Try.prog w = .ok (.agg (W 0)) w := by
  rw [W_zero]; simp [go_sem]; rfl
set_option maxHeartbeats 1000000 in
theorem div_z (x : Int) (w : World) :
    Calls Try.prog 18 #[.agg (W x), .int .u64 0] w fun e w' => e = .returned (.tuple #[.agg (W 0), .int .u64 0, .int .i64 22]) ∧ Below w.heap.size w w' := by
  have H0 := Lib.hid (((Blks.nil w).alloc (W x) 24 rfl).alloc Z4 24 (b := w.heap.size + 1) (by simp))
  go_enter Try.func18, Try.ntmps18
  go_wp2_with (first
    | ((with_reducible refine g_build 24 ?_); refine wpList_build0 rfl 24 rfl _ (build24z _) ?_)
    | ((with_reducible refine g_store 24 ?_); refine wpList_blks_store H0.out 1 _ _ 24 rfl rfl _ _ rfl rfl (W 0) rfl rfl ts24 (W_one _) ?_; intro w1 H1))
  exact bodyPost_ret (results_cell_tmp2_row rfl _ _ (w.heap.size + 1) 24 (W 0) (0, 0) _ (.int .u64 0) (.int .i64 22) rfl rfl rfl (H1.get 1 rfl) tu24 rfl ts24) rfl ⟨rfl, H1.below⟩
end Go.Proofs.Ytjmckfebnoaheaa
