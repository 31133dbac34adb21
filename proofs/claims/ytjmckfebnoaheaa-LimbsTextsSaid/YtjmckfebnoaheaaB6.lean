/- The product of two numbers, walked. -/
import Derived.Test.YtjmckfebnoaheaaB5
set_option linter.unusedVariables false
namespace Go.Proofs.Ytjmckfebnoaheaa
open Go.RowKit Go.KK Go.Lm

theorem array_at (b o cap : Nat) (w : World) : (Instr.arrayAt 24 (.slice (some ⟨b, o, none⟩) 4 cap)).run Try.prog w = .ok (.pointer (some ⟨b, o, none⟩)) w := by
  simp [Instr.arrayAt, run_underlying tu24]
set_option maxHeartbeats 2000000 in
theorem mul_p {x y : Int} (hx0 : 0 ≤ x) (hx1 : x < R256) (hy0 : 0 ≤ y) (hy1 : y < R256) (w : World) :
    Calls Try.prog 13 #[.agg (W x), .agg (W y)] w fun e w' => e = .returned (.tuple #[.agg (W (x * y / R256)), .agg (W (x * y))]) ∧ Below w.heap.size w w' := by
  have HX : Hid (0 ≤ x ∧ x < R256) := Lib.hid ⟨hx0, hx1⟩
  have HY : Hid (0 ≤ y ∧ y < R256) := Lib.hid ⟨hy0, hy1⟩
  clear hx0 hx1 hy0 hy1
  go_enter Try.func13, Try.ntmps13
  have H0 := (((((Blks.nil w).alloc (W x) 24 rfl).alloc (W y) 24 (b := w.heap.size + 1) (by simp)).alloc Z4 24 (b := w.heap.size + 1 + 1) (by simp)).alloc Z4 24 (b := w.heap.size + 1 + 1 + 1) (by simp)).alloc (nums .u64 8 fun _ => 0) 59 (b := w.heap.size + 1 + 1 + 1 + 1) (by simp)
  have HH := Lib.hid H0
  clear H0
  go_wp2_with ((with_reducible refine g_load 24 ?_); refine wpList_blks_load HH.out 0 _ _ 24 rfl rfl _ rfl rfl tu24 rfl ts24 ?_)
  go_loopw [16] (fun h wr => ∃ i : Nat, i ≤ 4 ∧ h = .int .i64 i ∧ Blks w [(w.heap.size, W x, 24), (w.heap.size + 1, W y, 24), (w.heap.size + 1 + 1, Z4, 24), (w.heap.size + 1 + 1 + 1, Z4, 24), (w.heap.size + 1 + 1 + 1 + 1, nums .u64 8 (d64 (po B64 x y i)), 59)] wr) (fun h _ => 4 - (intOf h).toNat)
  case atStart =>
    exact ⟨0, by omega, rfl, by rw [po_zero, show nums .u64 8 (d64 0) = nums .u64 8 fun _ => 0 from nums_congr _ fun i _ => dg_zero i]; exact HH.out⟩
  case round =>
    obtain ⟨i, hi, rfl, HW⟩ := hrel
    clear HH
    by_cases hlt : i < 4
    · have hiI : (i : Int) < 4 := by omega
      have hix := index_nums (P := Try.prog) (t := 24) tu24 tu22 ts22 (d64 x) hlt
      have HIX : Hid (∀ W', (Instr.index 24 (.agg (W x)) (.int .i64 i)).run Try.prog W' = .ok (.int .u64 (d64 x i)) W') := Lib.hid hix
      have HWH := Lib.hid HW
      clear HW hix
      have hix := HIX.out
      have hxi0 := d64_lo x i
      have hxi1 := d64_hi x i
      go_wp2_with ((with_reducible refine g_load 24 ?_); refine wpList_blks_load HWH.out 1 _ _ 24 rfl rfl _ rfl rfl tu24 rfl ts24 ?_)
      clear hix HIX
      obtain ⟨wo, rfl⟩ : ∃ wo : World, wo = wr := ⟨_, rfl⟩
      go_loopw [9, 21] (fun c h wq => ∃ j : Nat, j ≤ 4 ∧ h = .int .i64 j ∧ c = .int .u64 (pc B64 x y i j) ∧ Blks w [(w.heap.size, W x, 24), (w.heap.size + 1, W y, 24), (w.heap.size + 1 + 1, Z4, 24), (w.heap.size + 1 + 1 + 1, Z4, 24), (w.heap.size + 1 + 1 + 1 + 1, nums .u64 8 (tz x y i j), 59)] wq) (fun _ h _ => 4 - (intOf h).toNat)
      case atStart =>
        exact ⟨0, by omega, rfl, by rw [pc_zero], by rw [tz_zero]; exact HWH.out⟩
      case round =>
        obtain ⟨j, hj, rfl, rfl, HQ⟩ := hrel
        clear HWH
        by_cases hlt2 : j < 4
        · have hjI : (j : Int) < 4 := by omega
          have hix := index_nums (P := Try.prog) (t := 24) tu24 tu22 ts22 (d64 y) hlt2
          have HIX : Hid (∀ W', (Instr.index 24 (.agg (W y)) (.int .i64 j)).run Try.prog W' = .ok (.int .u64 (d64 y j)) W') := Lib.hid hix
          have hyj0 := d64_lo y j
          have hyj1 := d64_hi y j
          have hcell : wr.cell? ⟨w.heap.size + 1 + 1 + 1 + 1, i + j, none⟩ = some (.int .u64 (d64 (po B64 x y i) (i + j))) := by
            rw [HQ.num 4 rfl (by omega), tz_at]
          have hfz := HQ.frozen 4 rfl (i + j)
          have ht0 := d64_lo (po B64 x y i) (i + j)
          have ht1 := d64_hi (po B64 x y i) (i + j)
          have hcb := pc_bd B64_pos x y i j
          have hc0 := hcb.1
          have hc1 : pc B64 x y i j ≤ 18446744073709551615 := by have := hcb.2; unfold B64 at this ⊢; omega
          obtain ⟨hi, lo, hhi, hlo, hP, hmul⟩ := mul64_ex _ _ hxi0 hxi1 hyj0 hyj1
          obtain ⟨l1, c1, hl1, hcc1, hS1, hadd1⟩ := add64_ex lo _ hlo.1 hlo.2 ht0 ht1
          obtain ⟨l2, c2, hl2, hcc2, hS2, hadd2⟩ := add64_ex l1 _ hl1.1 hl1.2 hc0 hc1
          have hdz := dg_pz B64_pos x y i j
          have hcz := pc_succ B64_pos x y i j
          have hsq := sq_bound B64_pos hxi0 (dg_hi B64_pos x i) hyj0 (dg_hi B64_pos y j) ht0 (dg_hi B64_pos (po B64 x y i) (i + j)) hc0 hcb.2
          have hE : l2 = d64 (pz B64 x y i (j + 1)) (i + j) ∧ hi + c1 + c2 = pc B64 x y i (j + 1) := by
            unfold d64 at *
            generalize dg B64 x i * dg B64 y j = p at *
            unfold B64 at *
            omega
          have hov : hi + c1 + c2 ≤ 18446744073709551615 := by
            unfold d64 at *
            generalize dg B64 x i * dg B64 y j = p at *
            unfold B64 at *
            omega
          obtain ⟨hhi0, hhi1⟩ := hhi
          obtain ⟨hlo0, hlo1⟩ := hlo
          obtain ⟨hcc10, hcc11⟩ := hcc1
          obtain ⟨hcc20, hcc21⟩ := hcc2
          obtain ⟨hE1, hE2⟩ := hE
          have HM := Lib.hid hmul
          have HE1 := Lib.hid hE1
          have HE2 := Lib.hid hE2
          have HS := Lib.hid (HQ.set 4 rfl (i + j) (.int .u64 l2) (c' := nums .u64 8 (tz x y i (j + 1))) (by rw [hE1]; exact tz_step x y i j))
          clear hP hS1 hS2 hdz hcz hsq hE1 hE2 hmul HQ hix hcb ht0 ht1
          have hix := HIX.out
          go_wp2_with fail
          refine (HM.out _).mono ?_
          rintro e W' ⟨rfl, rfl⟩
          go_wp2_with fail
          go_roundw
          case rel => exact ⟨j + 1, by omega, by go_num, by rw [HE2.out], HS.out⟩
          case measure => simp [intOf]; omega
        · obtain rfl : j = 4 := by omega
          have hcell : wr.cell? ⟨w.heap.size + 1 + 1 + 1 + 1, i + 4, none⟩ = some (.int .u64 (tz x y i 4 (i + 4))) := HQ.num 4 rfl (by omega)
          have hfz := HQ.frozen 4 rfl (i + 4)
          have HS := Lib.hid (HQ.set 4 rfl (i + 4) (.int .u64 (pc B64 x y i 4)) (tz_row i HY.out.1 HY.out.2))
          clear HQ
          go_wp2_with fail
          go_roundw
          case rel => exact ⟨i + 1, by omega, by go_num, HS.out⟩
          case measure => simp [intOf]; omega
    · obtain rfl : i = 4 := by omega
      rw [po_top HX.out.1 HX.out.2] at HW
      have HA := HW.keep [(w.heap.size + 1 + 1 + 1 + 1, nums .u64 8 (d64 (x * y)), 59)] (by simp)
      have hne := HA.ne
      have HR1 : Hid (∀ w', (∃ e : BlksOf w [(w.heap.size + 1 + 1 + 1 + 1, nums .u64 8 (d64 (x * y)), 59)], w' = e.wd) → w'.rangeAt (w.heap.size + 1 + 1 + 1 + 1) 4 (W (x * y / R256)).toList) := Lib.hid fun w' ⟨e, he⟩ => he ▸ range_nums (e.blks.get 0 rfl) 4 4 _ (by omega) (fun j hj => d64_shift _ _ _)
      have HR0 : Hid (∀ w', (∃ e : BlksOf w [(w.heap.size + 1 + 1 + 1 + 1, nums .u64 8 (d64 (x * y)), 59)], w' = e.wd) → w'.rangeAt (w.heap.size + 1 + 1 + 1 + 1) 0 (W (x * y)).toList) := Lib.hid fun w' ⟨e, he⟩ => he ▸ range_nums (e.blks.get 0 rfl) 0 4 _ (by omega) (fun j hj => by rw [Nat.zero_add])
      have HWD := Lib.hid HW.drew
      have HAD := Lib.hid HA.drew.of
      have har := array_at
      clear HW HA
      go_wp2_with fail
      refine wp_region_headtail (fun w' => ∃ e : BlksOf w [(w.heap.size + 1 + 1 + 1 + 1, nums .u64 8 (d64 (x * y)), 59)], w' = e.wd) 7 [0, 1, 2, 3, 4, 5] [6, 7] (by kernel_rfl) (by kernel_rfl) (fun d _ _ _ _ h => by cases d <;> exact h) HAD.out ?_
      simp only [List.map_cons, List.map_nil, List.getD_cons_zero, List.getD_cons_succ]
      iterate 2 (((with_reducible refine wpHead_step (fun K hK => ?_)); go_simp; refine hK _ ?_; clear hK K))
      refine wpHead_loadS rfl 24 _ rfl _ 4 rfl (W (x * y / R256)) _ HR1.out tu24 rfl ts24 ?_
      iterate 2 (((with_reducible refine wpHead_step (fun K hK => ?_)); go_simp; refine hK _ ?_; clear hK K))
      refine wpHead_loadS rfl 24 _ rfl _ 0 rfl (W (x * y)) _ HR0.out tu24 rfl ts24 ?_
      refine wpHead_nil ?_
      refine wpTail_of_list ?_
      refine wpList_blks_store HWD.out 2 _ _ 24 rfl rfl _ _ rfl rfl (W (x * y / R256)) rfl rfl ts24 (W_one _) ?_
      intro w1 H1
      refine wpList_end ⟨fun _ => (H1.keep _ (by simp)).of, ?_⟩
      refine wpTail_of_list ?_
      refine wpList_blks_store H1 3 _ _ 24 rfl rfl _ _ rfl rfl (W (x * y)) rfl rfl ts24 (W_one _) ?_
      intro w2 H2
      refine wpList_end ⟨fun h => absurd rfl h, ?_⟩
      refine wpTail_nil ?_
      go_wp2_with fail
      exact bodyPost_ret (results_cell2 rfl _ _ (w.heap.size + 1 + 1) (w.heap.size + 1 + 1 + 1) 24 (W (x * y / R256)) (W (x * y)) _ rfl rfl (H2.get 2 rfl) (H2.get 3 rfl) tu24 rfl ts24 ts24) rfl ⟨rfl, H2.below⟩
end Go.Proofs.Ytjmckfebnoaheaa
