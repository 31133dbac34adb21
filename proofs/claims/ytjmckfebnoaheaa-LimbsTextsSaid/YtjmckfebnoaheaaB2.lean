/- The difference of two numbers, as the program makes it. -/
import Derived.Test.YtjmckfebnoaheaaB1
set_option linter.unusedVariables false
namespace Go.Proofs.Ytjmckfebnoaheaa
open Go.RowKit Go.KK Go.Lm

/-- The borrow out of the words below k. -/
def b64 (x y : Int) (k : Nat) : Int := -((x % B64 ^ k - y % B64 ^ k) / B64 ^ k)
theorem b64_zero (x y : Int) : b64 x y 0 = 0 := by simp [b64, Int.emod_one]
theorem sub_div (x y : Int) (k : Nat) : (x - y) / B64 ^ k = x / B64 ^ k - y / B64 ^ k - b64 x y k := by
  have hp := pw_pos B64_pos k
  have e : x - y = (x % B64 ^ k - y % B64 ^ k) + (x / B64 ^ k - y / B64 ^ k) * B64 ^ k := by
    rw [Int.emod_def x, Int.emod_def y]; grind
  unfold b64
  rw [e, Int.add_mul_ediv_right _ _ (by omega)]
  omega
theorem d64_sub (x y : Int) (k : Nat) : d64 (x - y) k = (d64 x k - d64 y k - b64 x y k) % 18446744073709551616 := by
  show (x - y) / B64 ^ k % B64 = (x / B64 ^ k % B64 - y / B64 ^ k % B64 - b64 x y k) % B64
  rw [sub_div]
  unfold B64
  omega
theorem b64_succ (x y : Int) (k : Nat) : b64 x y (k + 1) = -((d64 x k - d64 y k - b64 x y k) / 18446744073709551616) := by
  have hp := pw_pos B64_pos k
  have e : (x % B64 ^ (k + 1) - y % B64 ^ (k + 1)) / B64 ^ (k + 1) = (x % B64 ^ (k + 1) - y % B64 ^ (k + 1)) / B64 ^ k / B64 := by
    rw [pw_succ, ← Int.ediv_ediv_of_nonneg (Int.le_of_lt hp)]
  have e2 : x % B64 ^ (k + 1) - y % B64 ^ (k + 1) = (x % B64 ^ k - y % B64 ^ k) + (d64 x k - d64 y k) * B64 ^ k := by
    rw [mod_succ B64_pos x, mod_succ B64_pos y]; unfold d64; grind
  have e3 : (x % B64 ^ (k + 1) - y % B64 ^ (k + 1)) / B64 ^ k = d64 x k - d64 y k - b64 x y k := by
    rw [e2, Int.add_mul_ediv_right _ _ (by omega)]; unfold b64; omega
  show -((x % B64 ^ (k + 1) - y % B64 ^ (k + 1)) / B64 ^ (k + 1)) = _
  rw [e, e3]
  rfl
theorem b64_bit (x y : Int) : ∀ k, 0 ≤ b64 x y k ∧ b64 x y k ≤ 1
  | 0 => by rw [b64_zero]; omega
  | k + 1 => by
    rw [b64_succ]
    have := b64_bit x y k
    have := d64_lo x k
    have := d64_lo y k
    have := d64_hi x k
    have := d64_hi y k
    omega
set_option maxHeartbeats 1000000 in
theorem sub_p (x y : Int) (w : World) :
    Calls Try.prog 11 #[.agg (W x), .agg (W y)] w fun e w' => e = .returned (.tuple #[.agg (W (x - y)), .int .u64 (b64 x y 4)]) ∧ Below w.heap.size w w' := by
  go_enter Try.func11, Try.ntmps11
  go_wp2_with fail
  go_loopw [7, 8, 9] (fun c _ h wr => ∃ k : Nat, k ≤ 4 ∧ c = .int .u64 (b64 x y k) ∧ h = .int .i64 k ∧ Blks w [(w.heap.size, W x, 24), (w.heap.size + 1, W y, 24), (w.heap.size + 1 + 1, Z4, 24), (w.heap.size + 1 + 1 + 1, nums .u64 4 (part64 (x - y) k), 24)] wr) (fun _ _ h _ => 4 - (intOf h).toNat)
  case atStart =>
    exact ⟨0, by omega, by rw [b64_zero], rfl, by rw [part64_zero]; exact ((((Blks.nil w).alloc (W x) 24 rfl).alloc (W y) 24 (by simp)).alloc Z4 24 (by simp)).alloc Z4 24 (by simp)⟩
  case round =>
    obtain ⟨k, hk, rfl, rfl, HW⟩ := hrel
    have hbit := b64_bit x y k
    by_cases hlt : k < 4
    · have HA := HW.keep [(w.heap.size, W x, 24), (w.heap.size + 1, W y, 24)] (by simp)
      have hne := HA.ne
      have hca : ∀ e : BlksOf w [(w.heap.size, W x, 24), (w.heap.size + 1, W y, 24)], e.wd.cell? ⟨w.heap.size, k, none⟩ = some (.int .u64 (d64 x k)) := fun e => e.blks.num 0 rfl hlt
      have hcb : ∀ e : BlksOf w [(w.heap.size, W x, 24), (w.heap.size + 1, W y, 24)], e.wd.cell? ⟨w.heap.size + 1, k, none⟩ = some (.int .u64 (d64 y k)) := fun e => e.blks.num 1 rfl hlt
      have hadd := sub64_call (d64 x k) (d64 y k) (b64 x y k) (d64_lo _ _) (d64_hi _ _) (d64_lo _ _) (d64_hi _ _) hbit.1 hbit.2
      rw [← d64_sub, ← b64_succ] at hadd
      have hcs : wr.drew.cell? ⟨w.heap.size + 1 + 1 + 1, k, none⟩ = some (.int .u64 0) := by
        rw [HW.drew.num 3 rfl hlt]; simp [part64]
      have hfz : wr.drew.frozen? ⟨w.heap.size + 1 + 1 + 1, k, none⟩ = false := HW.drew.frozen 3 rfl k
      have hkI : (k : Int) < 4 := by omega
      have HS := Lib.hid (HW.drew.set 3 rfl k (.int .u64 (d64 (x - y) k)) (part64_step _ _))
      have HKS := Lib.hid (Blks.of (HS.out.keep [(w.heap.size, W x, 24), (w.heap.size + 1, W y, 24)] (by simp)))
      have HAD := Lib.hid HA.drew.of
      clear HW HA
      go_wp2_with fail
      refine wp_region_headtail (fun w' => ∃ e : BlksOf w [(w.heap.size, W x, 24), (w.heap.size + 1, W y, 24)], w' = e.wd) 14 [0, 1, 2, 3, 4, 5, 6, 7, 8, 9, 10, 11, 12] [13, 14] (by kernel_rfl) (by kernel_rfl) (fun d _ _ _ _ h => by cases d <;> exact h) HAD.out ?_
      simp only [List.map_cons, List.map_nil, List.getD_cons_zero, List.getD_cons_succ]
      iterate 13 (((with_reducible refine wpHead_step (fun K hK => ?_)); go_simp; refine hK _ ?_; clear hK K))
      refine wpHead_nil ?_
      clear hca hcb hadd
      (refine wpTail_of_list ?_; refine wpList_plain rfl (fun K hK => ?_); go_simp; refine hK _ _ ?_; clear hK K; refine wpList_end ⟨?_, ?_⟩)
      · exact fun _ => HKS.out
      (refine wpTail_of_list ?_; refine wpList_plain rfl (fun K hK => ?_); go_simp; refine hK _ _ ?_; clear hK K; refine wpList_end ⟨?_, ?_⟩)
      · exact fun h => absurd rfl h
      refine wpTail_nil ?_
      go_wp2_with fail
      go_roundw
      case rel => exact ⟨k + 1, by omega, rfl, by go_num, HS.out⟩
      case measure => simp [intOf]; omega
    · obtain rfl : k = 4 := by omega
      rw [part64_top] at HW
      have HWH := Lib.hid HW
      clear HW
      go_wp2_with (first
        | ((with_reducible refine g_load 24 ?_); refine wpList_blks_load HWH.out 3 _ _ 24 rfl rfl _ rfl rfl tu24 rfl ts24 ?_)
        | ((with_reducible refine g_store 24 ?_); refine wpList_blks_store HWH.out 2 _ _ 24 rfl rfl _ _ rfl rfl _ rfl rfl ts24 (W_one _) ?_; intro w1 H1))
      exact bodyPost_ret (results_cell_tmp_row rfl _ _ (w.heap.size + 1 + 1) 24 (W (x - y)) (0, 0) _ (.int .u64 (b64 x y 4)) rfl rfl (H1.get 2 rfl) tu24 rfl ts24) rfl ⟨rfl, H1.below⟩
end Go.Proofs.Ytjmckfebnoaheaa
