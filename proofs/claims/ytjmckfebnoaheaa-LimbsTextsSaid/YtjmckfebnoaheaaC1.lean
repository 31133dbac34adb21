/- The page's halves and join, walked. -/
import Derived.Test.YtjmckfebnoaheaaC0
set_option linter.unusedVariables false
namespace Go.Proofs.Ytjmckfebnoaheaa
open Go.RowKit Go.KK Go.Lm

set_option maxHeartbeats 1000000 in
theorem halves_p (x : Int) (w : World) :
    Calls Try.prog 41 #[.agg (W x)] w fun e w' => e = .returned (.agg (H8 x)) ∧ Below w.heap.size w w' := by
  go_enter Try.func41, Try.ntmps41
  go_wp2_with fail
  go_loopw [4] (fun c wr => ∃ k : Nat, k ≤ 4 ∧ c = .int .i64 k ∧ Blks w [(w.heap.size, W x, 24), (w.heap.size + 1, Z8, 59), (w.heap.size + 1 + 1, nums .u64 8 (part32 x (2 * k)), 59)] wr) (fun h _ => 4 - (intOf h).toNat)
  case atStart =>
    exact ⟨0, by omega, rfl, by rw [show 2 * 0 = 0 from rfl, part32_zero]; exact (((Blks.nil w).alloc (W x) 24 rfl).alloc Z8 59 (by simp)).alloc Z8 59 (by simp)⟩
  case round =>
    obtain ⟨k, hk, rfl, HW⟩ := hrel
    by_cases hlt : k < 4
    · have hca : wr.cell? ⟨w.heap.size, k, none⟩ = some (.int .u64 (d64 x k)) := HW.num 0 rfl hlt
      have hkI : (k : Int) < 4 := by omega
      have hs0 : wr.cell? ⟨w.heap.size + 1 + 1, 2 * k, none⟩ = some (.int .u64 0) := by
        rw [HW.num 2 rfl (by omega)]; simp [part32]
      have hs1 : wr.cell? ⟨w.heap.size + 1 + 1, 2 * k + 1, none⟩ = some (.int .u64 0) := by
        rw [HW.num 2 rfl (by omega)]; unfold part32; rw [if_neg (by omega)]
      have hfz : ∀ j, wr.frozen? ⟨w.heap.size + 1 + 1, j, none⟩ = false := fun j => HW.frozen 2 rfl j
      have hd0 := d64_lo x k
      have hd1 := d64_hi x k
      have hand := u64_and32 hd0 hd1
      have H1 := HW.set 2 rfl (2 * k) (.int .u64 (d64 x k % 4294967296)) (c' := nums .u64 8 (part32 x (2 * k + 1))) (by rw [← d32_even]; exact part32_step _ _ _)
      have H2 := Lib.hid (H1.set 2 rfl (2 * k + 1) (.int .u64 (d64 x k / 4294967296)) (c' := nums .u64 8 (part32 x (2 * (k + 1)))) (by rw [← d32_odd]; exact part32_step _ _ _))
      clear HW H1
      go_wp2_with fail
      go_roundw
      case rel => exact ⟨k + 1, by omega, by go_num, H2.out⟩
      case measure => simp [intOf]; omega
    · obtain rfl : k = 4 := by omega
      rw [show 2 * 4 = 8 from rfl, part32_top] at HW
      have HWH := Lib.hid HW
      clear HW
      go_wp2_with (first
        | ((with_reducible refine g_load 59 ?_); refine wpList_blks_load HWH.out 2 _ _ 59 rfl rfl _ rfl rfl tu59 rfl ts59 ?_)
        | ((with_reducible refine g_store 59 ?_); refine wpList_blks_store HWH.out 1 _ _ 59 rfl rfl _ _ rfl rfl (H8 x) rfl rfl ts59 (H8_one _) ?_; intro w1 H1))
      exact bodyPost_ret (results_cell_row rfl _ _ (w.heap.size + 1) 59 (H8 x) (0, 0) _ rfl (H1.get 1 rfl) tu59 rfl ts59) rfl ⟨rfl, H1.below⟩
theorem u64_or32 {x y : Int} (hx₀ : 0 ≤ x) (hx₁ : x ≤ 4294967295) (hy₀ : 0 ≤ y) (hy₁ : y ≤ 4294967295) : bits .or .u64 x (IntKind.u64.wrap (y * 4294967296)) = y * 4294967296 + x := by
  rw [IntWalk.u64_in _ (by omega)]
  have hc : bits .or .u64 x (y * 4294967296) = bits .or .u64 (y * 4294967296) x := by simp only [bits, BitVec.or_comm]
  rw [hc, u64_or 32 (by omega) (by omega) (by omega) hx₀ (by omega) (by omega)]
set_option maxHeartbeats 1000000 in
theorem join_p (n : Int) (g o cap : Nat) (w : World) (hg : w.rangeAt g o (H8 n).toList) :
    Calls Try.prog 42 #[.slice (some ⟨g, o, none⟩) 8 cap] w fun e w' => e = .returned (.agg (W n)) ∧ Below w.heap.size w w' := by
  have HG : Hid (∀ V, Below w.heap.size w V → ∀ k, k < 8 → V.cell? ⟨g, o + k, none⟩ = some (.int .u64 (d32 n k))) := Lib.hid fun V hV k hk => by
    have h1 := hg k (.int .u64 (d32 n k)) (by have := nums_get .u64 (d32 n) hk; unfold H8; simpa using this)
    exact (hV.cell (World.block_lt_of_cell? w _ h1)).trans h1
  clear hg
  go_enter Try.func42, Try.ntmps42
  go_wp2_with fail
  go_loopw [4] (fun c wr => ∃ k : Nat, k ≤ 4 ∧ c = .int .i64 k ∧ Blks w [(w.heap.size, Z4, 24), (w.heap.size + 1, nums .u64 4 (part64 n k), 24)] wr) (fun h _ => 4 - (intOf h).toNat)
  case atStart =>
    exact ⟨0, by omega, rfl, by rw [part64_zero]; exact ((Blks.nil w).alloc Z4 24 rfl).alloc Z4 24 (by simp)⟩
  case round =>
    obtain ⟨k, hk, rfl, HW⟩ := hrel
    have HWH := Lib.hid HW
    by_cases hlt : k < 4
    · have hf0 := d32_lo n (2 * k)
      have hf1 := d32_hi n (2 * k)
      have hf2 := d32_lo n (2 * k + 1)
      have hf3 := d32_hi n (2 * k + 1)
      have hc0 : ∀ e : ExtOf wr, e.wd.cell? ⟨g, o + 2 * k, none⟩ = some (.int .u64 (d32 n (2 * k))) := fun e => HG.out _ (below_all HW.below e.below) _ (by omega)
      have hc1 : ∀ e : ExtOf wr, e.wd.cell? ⟨g, o + (2 * k + 1), none⟩ = some (.int .u64 (d32 n (2 * k + 1))) := fun e => HG.out _ (below_all HW.below e.below) _ (by omega)
      have hkI : (k : Int) < 4 := by omega
      have hor := u64_or32 hf0 hf1 hf2 hf3
      rw [← d64_halves] at hor
      have w1 : IntKind.i64.wrap (2 * (k : Int)) = 2 * k := IntWalk.i64_in _ (by omega)
      have w2 : IntKind.i64.wrap (2 * (k : Int) + 1) = 2 * k + 1 := IntWalk.i64_in _ (by omega)
      have p1 : (0 : Int) ≤ 2 * (k : Int) := by omega
      have p2 : (0 : Int) ≤ 2 * (k : Int) + 1 := by omega
      have p3 : 2 * (k : Int) < 8 := by omega
      have p4 : 2 * (k : Int) + 1 < 8 := by omega
      have t1 : (2 * (k : Int)).toNat = 2 * k := by omega
      have t2 : (2 * (k : Int) + 1).toNat = 2 * k + 1 := by omega
      clear HW hf0 hf1 hf2 hf3
      go_wp2_with fail
      refine wp_region_ext_tail 15 (by kernel_rfl) (by kernel_rfl) ?_
      simp only [List.take_succ_cons, List.take_zero, List.drop_succ_cons, List.drop_zero]
      iterate 15 (quiet_step (fail))
      refine wpQuiet_nil ?_
      rintro _ ⟨e, rfl⟩
      have HE := HWH.out.ext e.below
      have hcs : e.wd.cell? ⟨w.heap.size + 1, k, none⟩ = some (.int .u64 0) := by
        rw [HE.num 1 rfl hlt]; simp [part64]
      have hfz := HE.frozen 1 rfl k
      have HS := Lib.hid (HE.set 1 rfl k (.int .u64 (d64 n k)) (part64_step _ _))
      clear HE hc0 hc1 hor w1 w2 p1 p2 p3 p4 t1 t2
      go_wp2_with fail
      go_roundw
      case rel => exact ⟨k + 1, by omega, by go_num, HS.out⟩
      case measure => simp [intOf]; omega
    · obtain rfl : k = 4 := by omega
      rw [part64_top] at HWH
      clear HW
      go_wp2_with (first
        | ((with_reducible refine g_load 24 ?_); refine wpList_blks_load HWH.out 1 _ _ 24 rfl rfl _ rfl rfl tu24 rfl ts24 ?_)
        | ((with_reducible refine g_store 24 ?_); refine wpList_blks_store HWH.out 0 _ _ 24 rfl rfl _ _ rfl rfl (W n) rfl rfl ts24 (W_one _) ?_; intro w1 H1))
      exact bodyPost_ret (results_cell_row rfl _ _ w.heap.size 24 (W n) (0, 0) _ rfl (H1.get 0 rfl) tu24 rfl ts24) rfl ⟨rfl, H1.below⟩
end Go.Proofs.Ytjmckfebnoaheaa
