/- The sum of two numbers, as the program makes it. -/
import Derived.Test.YtjmckfebnoaheaaB0
set_option linter.unusedVariables false
namespace Go.Proofs.Ytjmckfebnoaheaa
open Go.RowKit Go.KK Go.Lm

/-- The carry into word k of a sum; the borrow is its like with a minus. -/
def c64 (x y : Int) (k : Nat) : Int := ca B64 x y k
theorem c64_zero (x y : Int) : c64 x y 0 = 0 := ca_zero _ _ _
theorem c64_succ (x y : Int) (k : Nat) : c64 x y (k + 1) = (d64 x k + d64 y k + c64 x y k) / 18446744073709551616 := ca_succ B64_pos x y k
theorem d64_add (x y : Int) (k : Nat) : d64 (x + y) k = (d64 x k + d64 y k + c64 x y k) % 18446744073709551616 := dg_add B64_pos x y k
theorem c64_bit (x y : Int) : ∀ k, 0 ≤ c64 x y k ∧ c64 x y k ≤ 1
  | 0 => by rw [c64_zero]; omega
  | k + 1 => by
    rw [c64_succ]
    have := c64_bit x y k
    have := d64_lo x k
    have := d64_lo y k
    have := d64_hi x k
    have := d64_hi y k
    omega
/-- A number's words, so far. -/
def part64 (n : Int) (k : Nat) : Nat → Int := fun i => if i < k then d64 n i else 0
theorem part64_zero (n : Int) : nums .u64 4 (part64 n 0) = nums .u64 4 fun _ => 0 := nums_congr _ fun i _ => by simp [part64]
theorem part64_top (n : Int) : nums .u64 4 (part64 n 4) = W n := nums_congr _ fun i hi => by simp [part64, hi]
theorem part64_step (n : Int) (k : Nat) : (nums .u64 4 (part64 n k)).setIfInBounds k (.int .u64 (d64 n k)) = nums .u64 4 (part64 n (k + 1)) := by
  rw [nums_set]
  refine nums_congr _ fun i hi => ?_
  unfold part64
  by_cases h1 : i = k
  · subst h1; simp
  · by_cases h2 : i < k
    · simp [h1, h2, Nat.lt_succ_of_lt h2]
    · simp [h1, h2]; omega
set_option maxHeartbeats 1000000 in
theorem add_p (x y : Int) (w : World) :
    Calls Try.prog 9 #[.agg (W x), .agg (W y)] w fun e w' => e = .returned (.tuple #[.agg (W (x + y)), .int .u64 (c64 x y 4)]) ∧ Below w.heap.size w w' := by
  go_enter Try.func9, Try.ntmps9
  go_wp2_with fail
  go_loopw [7, 8, 9] (fun c _ h wr => ∃ k : Nat, k ≤ 4 ∧ c = .int .u64 (c64 x y k) ∧ h = .int .i64 k ∧ Blks w [(w.heap.size, W x, 24), (w.heap.size + 1, W y, 24), (w.heap.size + 1 + 1, Z4, 24), (w.heap.size + 1 + 1 + 1, nums .u64 4 (part64 (x + y) k), 24)] wr) (fun _ _ h _ => 4 - (intOf h).toNat)
  case atStart =>
    exact ⟨0, by omega, by rw [c64_zero], rfl, by rw [part64_zero]; exact ((((Blks.nil w).alloc (W x) 24 rfl).alloc (W y) 24 (by simp)).alloc Z4 24 (by simp)).alloc Z4 24 (by simp)⟩
  case round =>
    obtain ⟨k, hk, rfl, rfl, HW⟩ := hrel
    have hbit := c64_bit x y k
    by_cases hlt : k < 4
    · have HA := HW.keep [(w.heap.size, W x, 24), (w.heap.size + 1, W y, 24)] (by simp)
      have hne := HA.ne
      have hca : ∀ e : BlksOf w [(w.heap.size, W x, 24), (w.heap.size + 1, W y, 24)], e.wd.cell? ⟨w.heap.size, k, none⟩ = some (.int .u64 (d64 x k)) := fun e => e.blks.num 0 rfl hlt
      have hcb : ∀ e : BlksOf w [(w.heap.size, W x, 24), (w.heap.size + 1, W y, 24)], e.wd.cell? ⟨w.heap.size + 1, k, none⟩ = some (.int .u64 (d64 y k)) := fun e => e.blks.num 1 rfl hlt
      have hadd := add64_call (d64 x k) (d64 y k) (c64 x y k) (d64_lo _ _) (d64_lo _ _) hbit.1 hbit.2
      rw [← d64_add, ← c64_succ] at hadd
      have hcs : wr.drew.cell? ⟨w.heap.size + 1 + 1 + 1, k, none⟩ = some (.int .u64 0) := by
        rw [HW.drew.num 3 rfl hlt]; simp [part64]
      have hfz : wr.drew.frozen? ⟨w.heap.size + 1 + 1 + 1, k, none⟩ = false := HW.drew.frozen 3 rfl k
      have hkI : (k : Int) < 4 := by omega
      have HS := Lib.hid (HW.drew.set 3 rfl k (.int .u64 (d64 (x + y) k)) (part64_step _ _))
      have HKS := Lib.hid (Blks.of (HS.out.keep [(w.heap.size, W x, 24), (w.heap.size + 1, W y, 24)] (by simp)))
      have HAD := Lib.hid HA.drew.of
      clear HW HA
      go_wp2_with fail
      refine wp_region_headtail (fun w' => ∃ e : BlksOf w [(w.heap.size, W x, 24), (w.heap.size + 1, W y, 24)], w' = e.wd) 14 [0, 1, 2, 3, 4, 5, 6, 7, 8, 9, 10, 11, 12] [13, 14] (by kernel_rfl) (by kernel_rfl) (fun d _ _ _ _ h => by cases d <;> exact h) HAD.out ?_
      simp only [List.map_cons, List.map_nil, List.getD_cons_zero, List.getD_cons_succ]
      iterate 13 (((with_reducible refine wpHead_step (fun K hK => ?_)); go_simp; refine hK _ ?_; clear hK K))
      refine wpHead_nil ?_
      clear hca hcb hadd
      (refine wpTail_of_list ?_; refine wpList_plain rfl (fun K hK => ?_); go_simp; refine hK _ _ ?_; clear hK K; refine wpList_end ⟨?_, ?_⟩)
      · exact fun _ => HKS.out
      (refine wpTail_of_list ?_; refine wpList_plain rfl (fun K hK => ?_); go_simp; refine hK _ _ ?_; clear hK K; refine wpList_end ⟨?_, ?_⟩)
      · exact fun h => absurd rfl h
      refine wpTail_nil ?_
      go_wp2_with fail
      go_roundw
      case rel => exact ⟨k + 1, by omega, rfl, by go_num, HS.out⟩
      case measure => simp [intOf]; omega
    · obtain rfl : k = 4 := by omega
      rw [part64_top] at HW
      have HWH := Lib.hid HW
      clear HW
      go_wp2_with (first
        | ((with_reducible refine g_load 24 ?_); refine wpList_blks_load HWH.out 3 _ _ 24 rfl rfl _ rfl rfl tu24 rfl ts24 ?_)
        | ((with_reducible refine g_store 24 ?_); refine wpList_blks_store HWH.out 2 _ _ 24 rfl rfl _ _ rfl rfl _ rfl rfl ts24 (W_one _) ?_; intro w1 H1))
      exact bodyPost_ret (results_cell_tmp_row rfl _ _ (w.heap.size + 1 + 1) 24 (W (x + y)) (0, 0) _ (.int .u64 (c64 x y 4)) rfl rfl (H1.get 2 rfl) tu24 rfl ts24) rfl ⟨rfl, H1.below⟩
end Go.Proofs.Ytjmckfebnoaheaa
