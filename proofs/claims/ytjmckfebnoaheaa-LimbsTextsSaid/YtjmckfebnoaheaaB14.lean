/- A number's digits, as the program prints them. -/
import Derived.Test.YtjmckfebnoaheaaB13
import Derived.Test.YtjmckfebnoaheaaA4
import Derived.Test.YtjmckfebnoaheaaK9
import Derived.Laws.IdiomStrings
set_option linter.unusedVariables false
namespace Go.Proofs.Ytjmckfebnoaheaa
open Go.RowKit Go.KK Go.Lm

theorem tu68 : Try.prog.underlying 68 = some (.array 80 5) := by kernel_rfl
theorem tu5 : Try.prog.underlying 5 = some (.int .u8) := by kernel_rfl
theorem tu9 : Try.prog.underlying 9 = some .string := by kernel_rfl
theorem tu48 : Try.prog.underlying 48 = some (.slice 5) := by kernel_rfl
/-- The eighty bytes under way. -/
def dgs (x : Int) (j : Nat) : Nat → Int := fun p => if 80 - j ≤ p then chI (dec x (79 - p)) else 0
theorem dgs_step (x : Int) {j p : Nat} (hp : p + j = 79) : (nums .u8 80 (dgs x j)).setIfInBounds p (.int .u8 (chI (dec x j))) = nums .u8 80 (dgs x (j + 1)) := by
  rw [nums_set]
  refine nums_congr _ fun i hi => ?_
  unfold dgs
  by_cases h : i = p
  · subst h
    rw [if_pos rfl, if_pos (by omega), show 79 - i = j by omega]
  · rw [if_neg h]
    by_cases h2 : 80 - j ≤ i
    · rw [if_pos h2, if_pos (by omega)]
    · rw [if_neg h2, if_neg (by omega)]
theorem zero68 (w : World) : (zeroValue 68).run Try.prog w = .ok (.agg (nums .u8 80 fun _ => 0)) w := by kernel_rfl
theorem pow78 : R256 < 10 ^ 78 := by rw [R256_lit]; decide
set_option maxRecDepth 100000 in
set_option maxHeartbeats 2000000 in
theorem print_p {x : Int} (hx0 : 0 ≤ x) (hx1 : x < R256) (w : World) :
    Calls Try.prog 38 #[.agg (W x)] w fun e w' => (∃ j, IsLen x j ∧ e = .returned (.string ⟨(lowd x j).toArray⟩)) ∧ Below w.heap.size w w' := by
  have H0 := ((Blks.nil w).alloc (W x) 24 rfl).alloc (nums .u8 80 fun _ => 0) 68 (b := w.heap.size + 1) (by simp)
  have HH := Lib.hid H0
  have HX : Hid (0 ≤ x ∧ x < R256) := Lib.hid ⟨hx0, hx1⟩
  clear H0 hx0 hx1
  go_enter Try.func38, Try.ntmps38
  go_wp2_with ((with_reducible refine g_alloc 68 ?_); refine wpList_alloc_zero rfl 68 rfl _ zero68 ?_)
  go_loopw [4, 5, 6, 7] (fun a _ _ _ wr => ∃ j p : Nat, p + j = 80 ∧ a = .int .i64 p ∧ (j = 0 ∨ x / 10 ^ j ≠ 0) ∧ Blks w [(w.heap.size, W (x / 10 ^ j), 24), (w.heap.size + 1, nums .u8 80 (dgs x j), 68)] wr) (fun a _ _ _ _ => (intOf a).toNat)
  case atStart =>
    refine ⟨0, 80, rfl, rfl, .inl rfl, ?_⟩
    rw [Int.pow_zero, Int.ediv_one, show nums .u8 80 (dgs x 0) = nums .u8 80 fun _ => 0 from nums_congr _ fun i hi => by unfold dgs; rw [if_neg (by omega)]]
    exact HH.out
  case round =>
    obtain ⟨j, p, hpj, rfl, hj, HW⟩ := hrel
    clear HH
    have hp10 : (0 : Int) < 10 ^ j := Int.pow_pos (by omega)
    have hy0 : 0 ≤ x / 10 ^ j := Int.ediv_nonneg HX.out.1 (by omega)
    have hy1 : x / 10 ^ j < R256 := by have := Int.ediv_le_self (10 ^ j) HX.out.1; have := HX.out.2; omega
    have hj77 : j ≤ 77 := by
      rcases hj with h | h
      · omega
      · rcases Nat.lt_or_ge j 78 with h2 | h2
        · omega
        · refine absurd (div10_zero_up HX.out.1 (i := 78) ?_ h2) h
          exact Int.ediv_eq_zero_of_lt HX.out.1 (by have := pow78; have := HX.out.2; omega)
    have hD := div_p hy0 hy1 (show (0 : Int) < 10 by omega) (by omega)
    rw [← div10_succ] at hD
    have hz0 : 0 ≤ x / 10 ^ (j + 1) := Int.ediv_nonneg HX.out.1 (Int.le_of_lt (Int.pow_pos (by omega)))
    have hz1 : x / 10 ^ (j + 1) < R256 := by have := Int.ediv_le_self (10 ^ (j + 1)) HX.out.1; have := HX.out.2; omega
    have heq := eqlW hz0 hz1 (show (0 : Int) ≤ 0 by omega) R256_pos
    have hdb := dec_bd x j
    change ∀ w : World, Calls Try.prog 18 #[.agg (W (x / 10 ^ j)), .int .u64 10] w fun e w' => e = .returned (.tuple #[.agg (W (x / 10 ^ (j + 1))), .int .u64 (dec x j), .int .i64 0]) ∧ Below w.heap.size w w' at hD
    obtain ⟨hd0, hd1⟩ := hdb
    obtain ⟨p', hp'⟩ : ∃ p' : Nat, p = p' + 1 := ⟨p - 1, by omega⟩
    subst hp'
    have e1 : ((p' + 1 : Nat) : Int) - 1 = (p' : Int) := by omega
    have hpI : (p' : Int) < 80 := by omega
    have hp79 : p' + j = 79 := by omega
    have HD := Lib.hid hD
    have HWH := Lib.hid HW
    have HP := Lib.hid hp79
    have HJ := Lib.hid hj
    generalize hd : dec x j = d at *
    have HDD := Lib.hid hd
    clear hD HW hp79 hj hp10 hy0 hy1 hpj hd
    by_cases hz : x / 10 ^ (j + 1) = 0
    · have hzb : decide (x / 10 ^ (j + 1) = 0) = true := by simpa using hz
      rw [hzb] at heq
      have HZ := Lib.hid hz
      clear hz hzb
      go_upto_region 5 with (first
        | ((with_reducible refine g_load 24 ?_); refine wpList_blks_load HWH.out 0 _ _ 24 rfl rfl (.tmp 1) rfl rfl tu24 rfl ts24 ?_)
        | (go_at_call 18; refine (HD.out _).mono ?_; rintro _ V ⟨rfl, hV⟩)
        | ((with_reducible refine g_store 24 ?_); refine wpList_blks_store ((HWH.out.ext hV).alloc Z4 24 rfl) 2 _ _ 24 rfl rfl _ _ rfl rfl (W (x / 10 ^ (j + 1))) rfl rfl ts24 (W_one _) ?_; intro w1 HW1))
      have hcs : w1.cell? ⟨w.heap.size + 1, p', none⟩ = some (.int .u8 0) := by
        have := HP.out
        rw [HW1.num 1 rfl (by omega)]; unfold dgs; rw [if_neg (by omega)]
      have hfz := HW1.frozen 1 rfl p'
      have HS := Lib.hid (HW1.set 1 rfl p' (.int .u8 (48 + d)) (c' := nums .u8 80 (dgs x (j + 1))) (by have h := dgs_step x HP.out; rw [HDD.out] at h; exact h))
      clear HW1 hV
      go_upto_region 6 with (fail)
      have HS1 := HS.out
      generalize w1.setCell ⟨w.heap.size + 1, p', none⟩ (.int .u8 (48 + d)) = w2 at *
      clear hcs hfz HS
      go_upto_region 8 with (first
        | ((with_reducible refine g_load 24 ?_); refine wpList_blks_load HS1 2 _ _ 24 rfl rfl (.tmp 5) rfl rfl tu24 rfl ts24 ?_)
        | ((with_reducible refine g_store 24 ?_); refine wpList_blks_store HS1 0 _ _ 24 rfl rfl _ _ rfl rfl (W (x / 10 ^ (j + 1))) rfl rfl ts24 (W_one _) ?_; intro w3 HW3)
        | ((with_reducible refine g_load 24 ?_); refine wpList_blks_load HW3 0 _ _ 24 rfl rfl (.tmp 1) rfl rfl tu24 rfl ts24 ?_)
        | ((with_reducible refine g_build 24 ?_); refine wpList_build0 rfl 24 rfl _ (build24z _) ?_))
      have HR : ∀ i (hi : i < (lowd x (j + 1)).length), w3.cell? ((⟨w.heap.size + 1, p', none⟩ : Addr).add i) = some (.int .u8 ((lowd x (j + 1))[i].toNat : Int)) := fun i hi => by
        have hl := lowd_length x (j + 1)
        have hp := HP.out
        have hg := lowd_get x (j + 1) i (by omega)
        rw [List.getElem?_eq_getElem hi] at hg
        have hg2 : (lowd x (j + 1))[i] = chB (dec x (j + 1 - 1 - i)) := Option.some.inj hg
        rw [Addr.add_mid, HW3.num 1 rfl (by omega), hg2, chB_toNat (dec_bd _ _).1 (dec_bd _ _).2]
        unfold dgs
        rw [if_pos (by omega), show 79 - (p' + i) = j + 1 - 1 - i by omega]
      have hconv := run_convert_bytes_back (P := Try.prog) w3 48 9 5 ⟨w.heap.size + 1, p', none⟩ (80 - p') (lowd x (j + 1)) tu48 tu5 tu9 HR
      rw [lowd_length] at hconv
      rw [show j + 1 = 80 - p' by have := HP.out; omega] at hconv
      have HW3H := Lib.hid HW3
      clear HW3 HR HS1
      have hsl := sliceAt_low (P := Try.prog) tu68 (show (Try.prog.info? 5).map (·.size) = some 1 by kernel_rfl) (w.heap.size + 1) 0 p' (by omega) w3
      rw [Nat.zero_add, Nat.mul_one] at hsl
      go_wp2_with fail
      go_ret
      exact ⟨⟨80 - p', ⟨by omega, by rw [show 80 - p' = j + 1 by have := HP.out; omega]; exact HZ.out, by rw [show 80 - p' = j + 1 by have := HP.out; omega]; exact HJ.out.imp (fun h => by omega) id⟩, rfl⟩, HW3H.out.below⟩
    · have hzb : decide (x / 10 ^ (j + 1) = 0) = false := by simpa using hz
      rw [hzb] at heq
      have HZ := Lib.hid hz
      clear hz hzb
      go_upto_region 5 with (first
        | ((with_reducible refine g_load 24 ?_); refine wpList_blks_load HWH.out 0 _ _ 24 rfl rfl (.tmp 1) rfl rfl tu24 rfl ts24 ?_)
        | (go_at_call 18; refine (HD.out _).mono ?_; rintro _ V ⟨rfl, hV⟩)
        | ((with_reducible refine g_store 24 ?_); refine wpList_blks_store ((HWH.out.ext hV).alloc Z4 24 rfl) 2 _ _ 24 rfl rfl _ _ rfl rfl (W (x / 10 ^ (j + 1))) rfl rfl ts24 (W_one _) ?_; intro w1 HW1))
      have hcs : w1.cell? ⟨w.heap.size + 1, p', none⟩ = some (.int .u8 0) := by
        have := HP.out
        rw [HW1.num 1 rfl (by omega)]; unfold dgs; rw [if_neg (by omega)]
      have hfz := HW1.frozen 1 rfl p'
      have HS := Lib.hid (HW1.set 1 rfl p' (.int .u8 (48 + d)) (c' := nums .u8 80 (dgs x (j + 1))) (by have h := dgs_step x HP.out; rw [HDD.out] at h; exact h))
      clear HW1 hV
      go_upto_region 6 with (fail)
      have HS1 := HS.out
      generalize w1.setCell ⟨w.heap.size + 1, p', none⟩ (.int .u8 (48 + d)) = w2 at *
      clear hcs hfz HS
      go_wp2_with (first
        | ((with_reducible refine g_load 24 ?_); refine wpList_blks_load HS1 2 _ _ 24 rfl rfl (.tmp 5) rfl rfl tu24 rfl ts24 ?_)
        | ((with_reducible refine g_store 24 ?_); refine wpList_blks_store HS1 0 _ _ 24 rfl rfl _ _ rfl rfl (W (x / 10 ^ (j + 1))) rfl rfl ts24 (W_one _) ?_; intro w3 HW3)
        | ((with_reducible refine g_load 24 ?_); refine wpList_blks_load HW3 0 _ _ 24 rfl rfl (.tmp 1) rfl rfl tu24 rfl ts24 ?_)
        | ((with_reducible refine g_build 24 ?_); refine wpList_build0 rfl 24 rfl _ (build24z _) ?_))
      go_roundw
      case rel => exact ⟨j + 1, p', by have := HP.out; omega, rfl, .inr HZ.out, HW3.keep _ (by simp)⟩
      case measure => simp [intOf]
end Go.Proofs.Ytjmckfebnoaheaa
