/- The page's Mod, walked. -/
import Derived.Test.YtjmckfebnoaheaaE2
set_option linter.unusedVariables false
namespace Go.Proofs.Ytjmckfebnoaheaa
open Go.RowKit Go.KK Go.Lm

theorem hi_bit (h l : Int) (hl0 : 0 ≤ l) (hl1 : l < R256) {e : Nat} (he : 256 ≤ e) : (h * R256 + l) / 2 ^ e % 2 = h / 2 ^ (e - 256) % 2 := by
  have hp : (0 : Int) < 2 ^ (e - 256) := Int.pow_pos (by omega)
  have e1 : (2 : Int) ^ e = R256 * 2 ^ (e - 256) := by
    rw [show R256 = (2 : Int) ^ 256 by decide, ← Int.pow_add, show 256 + (e - 256) = e by omega]
  rw [e1, ← Int.ediv_ediv_of_nonneg (Int.le_of_lt R256_pos), Int.add_comm, Int.add_mul_ediv_right _ _ (by have := R256_pos; omega), Int.ediv_eq_zero_of_lt hl0 hl1, Int.zero_add]
theorem lo_bit (h l : Int) {e : Nat} (he : e < 256) : (h * R256 + l) / 2 ^ e % 2 = l / 2 ^ e % 2 := by
  have hp : (0 : Int) < 2 ^ e := Int.pow_pos (by omega)
  have e1 : R256 = (2 * 2 ^ (255 - e)) * 2 ^ e := by
    have h2 : (2 : Int) * 2 ^ (255 - e) = 2 ^ (256 - e) := by rw [show 256 - e = 255 - e + 1 by omega, Int.pow_succ]; omega
    rw [h2, ← Int.pow_add, show 256 - e + e = 256 by omega]
    decide
  rw [e1, show h * (2 * 2 ^ (255 - e) * 2 ^ e) + l = l + (h * (2 * 2 ^ (255 - e))) * 2 ^ e by grind, Int.add_mul_ediv_right _ _ (by omega), show h * (2 * 2 ^ (255 - e)) = 2 * (h * 2 ^ (255 - e)) by grind]
  omega
theorem c64_dbl {o : Int} (h0 : 0 ≤ o) (h1 : o < R256) : c64 o o 4 = if 57896044618658097711785492504343953926634992332820282019728792003956564819968 ≤ o then 1 else 0 := by
  show (o % R256 + o % R256) / R256 = _
  rw [Int.emod_eq_of_lt h0 h1]
  have hR := R256_lit
  generalize R256 = R at *
  subst hR
  split <;> omega
set_option maxHeartbeats 1000000 in
theorem rmod_z (h l : Int) (w : World) :
    Calls Try.prog 21 #[.agg (W h), .agg (W l), .agg (W 0)] w fun e w' => e = .returned (.tuple #[.agg (W 0), .int .i64 22]) ∧ Below w.heap.size w w' := by
  have H0 := (((((Blks.nil w).alloc (W h) 24 rfl).alloc (W l) 24 (b := w.heap.size + 1) (by simp)).alloc (W 0) 24 (b := w.heap.size + 1 + 1) (by simp)).alloc Z4 24 (b := w.heap.size + 1 + 1 + 1) (by simp)).alloc Z4 24 (b := w.heap.size + 1 + 1 + 1 + 1) (by simp)
  have hZ : Z4 = W 0 := W_zero.symm
  rw [hZ] at H0
  have HH := Lib.hid H0
  have HC := Lib.hid (fun W' => rcmp_p (x := 0) (y := 0) (by omega) R256_pos (by omega) R256_pos W')
  rw [cmpI_eq] at HC
  clear H0 hZ
  go_enter Try.func21, Try.ntmps21
  go_wp2_with (first
    | ((with_reducible refine g_load 24 ?_); refine wpList_blks_load HH.out 2 _ _ 24 rfl rfl (.tmp 5) rfl rfl tu24 rfl ts24 ?_)
    | ((with_reducible refine g_load 24 ?_); refine wpList_blks_load HH.out 4 _ _ 24 rfl rfl (.tmp 8) rfl rfl tu24 rfl ts24 ?_)
    | (go_at_call 16; refine (HC.out _).mono ?_; rintro _ V ⟨rfl, hV⟩; have HH := Lib.hid (HH.out.ext hV))
    | ((with_reducible refine g_store 24 ?_); refine wpList_blks_store HH.out 3 _ _ 24 rfl rfl _ _ rfl rfl (W 0) rfl rfl ts24 (W_one _) ?_; intro w1 H1))
  exact bodyPost_ret (results_cell_tmp_row rfl _ _ (w.heap.size + 1 + 1 + 1) 24 (W 0) (0, 0) _ (.int .i64 22) rfl rfl (H1.get 3 rfl) tu24 rfl ts24) rfl ⟨rfl, H1.below⟩
end Go.Proofs.Ytjmckfebnoaheaa
