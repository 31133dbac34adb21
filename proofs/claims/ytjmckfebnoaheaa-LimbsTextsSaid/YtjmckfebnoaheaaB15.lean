/- The page's examples (alive), walked. -/
import Derived.Test.YtjmckfebnoaheaaB14
set_option linter.unusedVariables false
namespace Go.Proofs.Ytjmckfebnoaheaa
open Go.RowKit Go.KK Go.Lm

theorem num_p (e : Int) (w : World) : Calls Try.prog 22 #[.int .i64 e] w fun r w' => r = .returned (.int .i64 e) ∧ w = w' := by
  go_enter Try.func22, Try.ntmps22
  go_wp2
  go_ret
  exact ⟨rfl, rfl⟩
theorem b_ones (w : World) : (Instr.build 24 #[(0, .int .u64 18446744073709551615), (1, .int .u64 18446744073709551615), (2, .int .u64 18446744073709551615), (3, .int .u64 18446744073709551615)]).run Try.prog w = .ok (.agg (W (R256 - 1))) w := by kernel_rfl
theorem b_1 (w : World) : (Instr.build 24 #[(0, .int .u64 1)]).run Try.prog w = .ok (.agg (W 1)) w := by kernel_rfl
theorem b_2 (w : World) : (Instr.build 24 #[(0, .int .u64 2)]).run Try.prog w = .ok (.agg (W 2)) w := by kernel_rfl
theorem b_3 (w : World) : (Instr.build 24 #[(0, .int .u64 3)]).run Try.prog w = .ok (.agg (W 3)) w := by kernel_rfl
theorem b_half (w : World) : (Instr.build 24 #[(0, .int .u64 0), (1, .int .u64 0), (2, .int .u64 0), (3, .int .u64 9223372036854775808)]).run Try.prog w = .ok (.agg (W (2 ^ 255))) w := by kernel_rfl
theorem b_64 (w : World) : (Instr.build 24 #[(0, .int .u64 0), (1, .int .u64 1)]).run Try.prog w = .ok (.agg (W B64)) w := by kernel_rfl
theorem w_sum : W (R256 - 1 + 1) = W 0 := by rw [← W_mod (R256 - 1 + 1)]; congr 1
theorem c_sum : c64 (R256 - 1) 1 4 = 1 := by decide
theorem w_lo : W (2 ^ 255 * 2) = W 0 := by rw [← W_mod]; congr 1
theorem w_hi : (2 : Int) ^ 255 * 2 / R256 = 1 := by decide
theorem w_mod : (1 * R256 + 0) % 3 = 1 := by decide
theorem w_len : (blen B64 : Int) = 65 := by
  have := blen_of (x := B64) (l := 64) (by decide) (by decide)
  omega
theorem w_isLen : IsLen B64 20 := ⟨by omega, by decide, .inr (by decide)⟩
theorem w_print : (⟨(lowd B64 20).toArray⟩ : ByteArray) = { data := #[49, 56, 52, 52, 54, 55, 52, 52, 48, 55, 51, 55, 48, 57, 53, 53, 49, 54, 49, 54] } := by
  congr 1
set_option maxRecDepth 100000 in
set_option maxHeartbeats 4000000 in
theorem alive_p (w : World) : Calls Try.prog 17 #[] w fun e w' => e = .returned (.bool true) ∧ Below w.heap.size w w' := by
  have HA := Lib.hid (add_p (R256 - 1) 1)
  rw [w_sum, c_sum] at HA
  have HM := Lib.hid (fun w => mul_p (x := 2 ^ 255) (y := 2) (by decide) (by decide) (by decide) (by decide) w)
  rw [w_lo, w_hi] at HM
  have HD := Lib.hid (fun w => mod_p (h := 1) (l := 0) (m := 3) (by decide) (by decide) (by decide) (by decide) (by decide) (by decide) w)
  rw [w_mod] at HD
  have HL := Lib.hid (fun w => len_p (x := B64) (by decide) (by decide) w)
  rw [w_len] at HL
  have HP : Hid (∀ w, Calls Try.prog 38 #[.agg (W B64)] w fun e w' => e = .returned (.string { data := #[49, 56, 52, 52, 54, 55, 52, 52, 48, 55, 51, 55, 48, 57, 53, 53, 49, 54, 49, 54] }) ∧ Below w.heap.size w w') := Lib.hid fun w => (print_p (x := B64) (by decide) (by decide) w).mono fun e w' h => by
    obtain ⟨⟨j, hj, rfl⟩, hb⟩ := h
    rw [hj.unique (by decide) w_isLen, w_print]
    exact ⟨rfl, hb⟩
  go_enter Try.func17, Try.ntmps17
  go_upto_region 2 with (first
    | ((with_reducible refine g_build 24 ?_); refine wpList_buildN rfl 24 _ _ rfl rfl _ (b_ones _) ?_)
    | ((with_reducible refine g_store 24 ?_); refine wpList_blks_store ((Blks.nil w).alloc Z4 24 rfl) 0 _ _ 24 rfl rfl _ _ rfl rfl (W (R256 - 1)) rfl rfl ts24 (W_one _) ?_; intro w1 H1))
  go_upto_region 3 with (first
    | ((with_reducible refine g_load 24 ?_); refine wpList_blks_load H1 0 _ _ 24 rfl rfl _ rfl rfl tu24 rfl ts24 ?_)
    | ((with_reducible refine g_build 24 ?_); refine wpList_buildN rfl 24 _ _ rfl rfl _ (b_1 _) ?_)
    | (go_at_call 9; refine (HA.out _).mono ?_; rintro _ V1 ⟨rfl, hV1⟩)
    | ((with_reducible refine g_store 24 ?_); refine wpList_blks_store ((H1.ext hV1).alloc Z4 24 rfl) 1 _ _ 24 rfl rfl _ _ rfl rfl (W 0) rfl rfl ts24 (W_one _) ?_; intro w2 H2))
  have H2H := Lib.hid H2
  generalize V1.heap.size = g2 at *
  clear H1 hV1 H2
  go_upto_region 4 with (first
    | ((with_reducible refine g_build 24 ?_); refine wpList_buildN rfl 24 _ _ rfl rfl _ (b_half _) ?_)
    | ((with_reducible refine g_build 24 ?_); refine wpList_buildN rfl 24 _ _ rfl rfl _ (b_2 _) ?_)
    | (go_at_call 13; refine (HM.out _).mono ?_; rintro _ V1 ⟨rfl, hV1⟩)
    | ((with_reducible refine g_store 24 ?_); refine wpList_blks_store (((H2H.out.ext hV1).alloc Z4 24 rfl).alloc Z4 24 (b := V1.heap.size + 1) (by simp)) 2 _ _ 24 rfl rfl (.tmp 4) _ rfl rfl (W 1) rfl rfl ts24 (W_one _) ?_; intro w3 H3)
    | ((with_reducible refine g_store 24 ?_); refine wpList_blks_store H3 3 _ _ 24 rfl rfl (.tmp 5) _ rfl rfl (W 0) rfl rfl ts24 (W_one _) ?_; intro w4 H4))
  have H4H := Lib.hid H4
  generalize V1.heap.size = g3 at *
  clear H3 hV1 H4 H2H
  go_upto_region 5 with (first
    | ((with_reducible refine g_build 24 ?_); refine wpList_buildN rfl 24 _ _ rfl rfl _ (b_1 _) ?_)
    | ((with_reducible refine g_build 24 ?_); refine wpList_buildN rfl 24 _ _ rfl rfl _ (b_3 _) ?_)
    | ((with_reducible refine g_build 24 ?_); refine wpList_buildN rfl 24 _ _ rfl rfl _ (build24z _) ?_)
    | (go_at_call 20; refine (HD.out _).mono ?_; rintro _ V1 ⟨rfl, hV1⟩)
    | ((with_reducible refine g_store 24 ?_); refine wpList_blks_store ((H4H.out.ext hV1).alloc Z4 24 rfl) 4 _ _ 24 rfl rfl _ _ rfl rfl (W 1) rfl rfl ts24 (W_one _) ?_; intro w5 H5))
  have H5H := Lib.hid H5
  generalize V1.heap.size = g4 at *
  clear hV1 H5 H4H
  have q0 : ∀ W', (binOp .eql 24 (.agg (W 0)) (.agg #[.int .u64 0, .int .u64 0, .int .u64 0, .int .u64 0])).run Try.prog W' = .ok (.bool true) W' := eqlW (x := 0) (y := 0) (by decide) (by decide) (by decide) (by decide)
  have q1 : ∀ W', (binOp .eql 24 (.agg (W 1)) (.agg #[.int .u64 1, .int .u64 0, .int .u64 0, .int .u64 0])).run Try.prog W' = .ok (.bool true) W' := eqlW (x := 1) (y := 1) (by decide) (by decide) (by decide) (by decide)
  go_wp2_with (first
    | ((with_reducible refine g_load 24 ?_); refine wpList_blks_load H5H.out 1 _ _ 24 rfl rfl (.tmp 2) rfl rfl tu24 rfl ts24 ?_)
    | ((with_reducible refine g_load 24 ?_); refine wpList_blks_loadg H5H.out 2 _ _ 24 rfl rfl (.tmp 4) rfl rfl tu24 rfl ts24 ?_)
    | ((with_reducible refine g_load 24 ?_); refine wpList_blks_loadg H5H.out 3 _ _ 24 rfl rfl (.tmp 5) rfl rfl tu24 rfl ts24 ?_)
    | ((with_reducible refine g_load 24 ?_); refine wpList_blks_loadg (H5H.out.ext hV1) 4 _ _ 24 rfl rfl (.tmp 6) rfl rfl tu24 rfl ts24 ?_)
    | ((with_reducible refine g_build 24 ?_); refine wpList_buildNg rfl 24 _ _ rfl rfl _ (b_1 _) ?_)
    | ((with_reducible refine g_build 24 ?_); refine wpList_buildNg rfl 24 _ _ rfl rfl _ (build24z _) ?_)
    | ((with_reducible refine g_build 24 ?_); refine wpList_buildNg rfl 24 _ _ rfl rfl _ (b_64 _) ?_)
    | (go_at_call 23; refine (HL.out _).mono ?_; rintro _ V1 ⟨rfl, hV1⟩)
    | (go_at_call 22; refine (num_p 0 _).mono ?_; rintro _ V2 ⟨rfl, rfl⟩)
    | (go_at_call 38; refine (HP.out _).mono ?_; rintro _ V3 ⟨rfl, hV3⟩))
  go_ret
  exact ⟨rfl, ((H5H.out.ext hV1).ext hV3).below⟩
end Go.Proofs.Ytjmckfebnoaheaa
