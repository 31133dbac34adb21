/- The rest of a number of 512 bits, as the program makes it. -/
import Derived.Test.YtjmckfebnoaheaaA3
set_option linter.unusedVariables false
namespace Go.Proofs.Ytjmckfebnoaheaa
open Go.RowKit Go.KK Go.Lm

theorem shl_one (x : Int) (w : World) : Calls Try.prog 27 #[.agg (W x), .int .i64 1] w fun e w' => e = .returned (.agg (W (x * 2))) ∧ Below w.heap.size w w' := by
  have := shl_some x 1 (by omega) (by omega) w
  rwa [show (2 : Int) ^ (1 : Int).toNat = 2 from rfl] at this
/-- Two numbers in a row. -/
def W2 (x y : Int) : Array Value := nums .u64 8 fun i => if i < 4 then d64 x i else d64 y (i - 4)
theorem build66 (x y : Int) (w : World) : (Instr.build 66 #[(0, .agg (W x)), (1, .agg (W y))]).run Try.prog w = .ok (.agg (W2 x y)) w := by kernel_rfl
theorem index66_0 (x y : Int) (w : World) : (Instr.index 66 (.agg (W2 x y)) (.int .i64 0)).run Try.prog w = .ok (.agg (W x)) w := by kernel_rfl
theorem index66_1 (x y : Int) (w : World) : (Instr.index 66 (.agg (W2 x y)) (.int .i64 1)).run Try.prog w = .ok (.agg (W y)) w := by kernel_rfl
theorem eqW_bool (x y : Int) (w : World) : (Op.equalIn 10000 24 (.agg (W x)) (.agg (W y))).run Try.prog w = .ok (d64 x 0 == d64 y 0 && (d64 x 1 == d64 y 1 && (d64 x 2 == d64 y 2 && d64 x 3 == d64 y 3))) w :=
  eq_arr4 (P := Try.prog) (w := w) (t := 24) (e := 22) (k := .u64) tu24 tu22 ts22 9998 (d64 x 0) (d64 x 1) (d64 x 2) (d64 x 3) (d64 y 0) (d64 y 1) (d64 y 2) (d64 y 3)
theorem words_eq {x y : Int} (hx0 : 0 ≤ x) (hx1 : x < R256) (hy0 : 0 ≤ y) (hy1 : y < R256) : (d64 x 0 == d64 y 0 && (d64 x 1 == d64 y 1 && (d64 x 2 == d64 y 2 && d64 x 3 == d64 y 3))) = decide (x = y) := by
  rw [Bool.eq_iff_iff]
  simp only [Bool.and_eq_true, beq_iff_eq, decide_eq_true_eq]
  constructor
  · rintro ⟨h0, h1, h2, h3⟩
    have := of_digits B64_pos (x := x) (y := y) 4 (fun k hk => by
      have : k = 0 ∨ k = 1 ∨ k = 2 ∨ k = 3 := by omega
      rcases this with rfl | rfl | rfl | rfl <;> assumption)
    rwa [in_range hx0 hx1, in_range hy0 hy1] at this
  · rintro rfl; exact ⟨rfl, rfl, rfl, rfl⟩
theorem eqlW {x y : Int} (hx0 : 0 ≤ x) (hx1 : x < R256) (hy0 : 0 ≤ y) (hy1 : y < R256) (w : World) : (binOp .eql 24 (.agg (W x)) (.agg (W y))).run Try.prog w = .ok (.bool (decide (x = y))) w := by
  rw [run_eql_struct, eqW_bool, words_eq hx0 hx1 hy0 hy1]; rfl
theorem neqW {x y : Int} (hx0 : 0 ≤ x) (hx1 : x < R256) (hy0 : 0 ≤ y) (hy1 : y < R256) (w : World) : (binOp .neq 24 (.agg (W x)) (.agg (W y))).run Try.prog w = .ok (.bool (!decide (x = y))) w := by
  rw [run_neq_struct, eqW_bool, words_eq hx0 hx1 hy0 hy1]; rfl
theorem R256_pos : 0 < R256 := pw_pos B64_pos 4
set_option maxHeartbeats 1000000 in
theorem mod_z (h l : Int) (w : World) :
    Calls Try.prog 20 #[.agg (W h), .agg (W l), .agg (W 0)] w fun e w' => e = .returned (.tuple #[.agg (W 0), .int .i64 22]) ∧ Below w.heap.size w w' := by
  have H0 := Lib.hid (((((Blks.nil w).alloc (W h) 24 rfl).alloc (W l) 24 (b := w.heap.size + 1) (by simp)).alloc (W 0) 24 (b := w.heap.size + 1 + 1) (by simp)).alloc Z4 24 (b := w.heap.size + 1 + 1 + 1) (by simp))
  have heq := eqlW (x := 0) (y := 0) (by omega) R256_pos (by omega) R256_pos
  go_enter Try.func20, Try.ntmps20
  go_wp2_with (first
    | ((with_reducible refine g_build 24 ?_); refine wpList_build0 rfl 24 rfl _ (build24z _) ?_)
    | ((with_reducible refine g_load 24 ?_); refine wpList_blks_load H0.out 2 _ _ 24 rfl rfl _ rfl rfl tu24 rfl ts24 ?_)
    | ((with_reducible refine g_store 24 ?_); refine wpList_blks_store H0.out 3 _ _ 24 rfl rfl _ _ rfl rfl (W 0) rfl rfl ts24 (W_one _) ?_; intro w1 H1))
  exact bodyPost_ret (results_cell_tmp_row rfl _ _ (w.heap.size + 1 + 1 + 1) 24 (W 0) (0, 0) _ (.int .i64 22) rfl rfl (H1.get 3 rfl) tu24 rfl ts24) rfl ⟨rfl, H1.below⟩
end Go.Proofs.Ytjmckfebnoaheaa
