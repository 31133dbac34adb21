/- The page's Parse, walked. -/
import Derived.Test.YtjmckfebnoaheaaG7
import Derived.Test.YtjmckfebnoaheaaC6
import Derived.Test.YtjmckfebnoaheaaK9
set_option linter.unusedVariables false
namespace Go.Proofs.Ytjmckfebnoaheaa
open Go.RowKit Go.KK Go.Lm
theorem zero24 (w : World) : (zeroValue 24).run Try.prog w = .ok (.agg Z4) w := by kernel_rfl
theorem ten_high {x : Int} (h : x < R256) : x * 10 / R256 ≤ 9 := by
  have := Int.ediv_lt_of_lt_mul R256_pos (show x * 10 < 10 * R256 by omega)
  omega
theorem d64_small {h : Int} (h0 : 0 ≤ h) (h9 : h ≤ 9) : d64 h 0 = h := by
  show h / B64 ^ 0 % B64 = h
  rw [Int.pow_zero, Int.ediv_one]
  exact Int.emod_eq_of_lt h0 (by unfold B64; omega)
theorem rparse_empty (w : World) :
    Calls Try.prog 34 #[.string ⟨#[]⟩] w fun e w' => e = .returned (.tuple #[.agg (W 0), .int .i64 11]) ∧ Below w.heap.size w w' := by
  have H0 := ((Blks.nil w).alloc Z4 24 rfl).alloc Z4 24 (b := w.heap.size + 1) (by simp)
  rw [show Z4 = W 0 from W_zero.symm] at H0
  have HH := Lib.hid H0
  clear H0
  go_enter Try.func34, Try.ntmps34
  go_wp2_with (first
    | ((with_reducible refine g_load 24 ?_); refine wpList_blks_load HH.out 1 _ _ 24 rfl rfl (.tmp 4) rfl rfl tu24 rfl ts24 ?_)
    | ((with_reducible refine g_store 24 ?_); refine wpList_blks_store HH.out 0 _ _ 24 rfl rfl _ _ rfl rfl (W 0) rfl rfl ts24 (W_one _) ?_; intro w1 H1))
  exact bodyPost_ret (results_cell_tmp_row rfl _ _ w.heap.size 24 (W 0) (0, 0) _ (.int .i64 11) rfl rfl (H1.get 0 rfl) tu24 rfl ts24) rfl ⟨rfl, H1.below⟩
theorem rparse_zero {s : ByteArray} (h1 : 1 < s.size) (hm : s.size ≤ 9223372036854775807) (hb : bI s 0 = 48) (w : World) :
    Calls Try.prog 34 #[.string s] w fun e w' => e = .returned (.tuple #[.agg (W 0), .int .i64 11]) ∧ Below w.heap.size w w' := by
  have H0 := ((Blks.nil w).alloc Z4 24 rfl).alloc Z4 24 (b := w.heap.size + 1) (by simp)
  rw [show Z4 = W 0 from W_zero.symm] at H0
  have HH := Lib.hid H0
  clear H0
  have hi := idx_s s (k := 0) (by omega)
  rw [hb] at hi
  have hi' : ∀ W, (Instr.index 9 (.string s) (.int .i64 0)).run Try.prog W = .ok (.int .u8 48) W := hi
  have hse := s_empty (s := s) (by omega)
  have hI : (1 : Int) < (s.size : Int) := by omega
  clear hi hb
  go_enter Try.func34, Try.ntmps34
  go_wp2_with (first
    | ((with_reducible refine g_load 24 ?_); refine wpList_blks_load HH.out 1 _ _ 24 rfl rfl (.tmp 4) rfl rfl tu24 rfl ts24 ?_)
    | ((with_reducible refine g_store 24 ?_); refine wpList_blks_store HH.out 0 _ _ 24 rfl rfl _ _ rfl rfl (W 0) rfl rfl ts24 (W_one _) ?_; intro w1 H1))
  exact bodyPost_ret (results_cell_tmp_row rfl _ _ w.heap.size 24 (W 0) (0, 0) _ (.int .i64 11) rfl rfl (H1.get 0 rfl) tu24 rfl ts24) rfl ⟨rfl, H1.below⟩
set_option maxRecDepth 100000 in
set_option maxHeartbeats 8000000 in
theorem rparse_run {s : ByteArray} (h0 : s.size ≠ 0) (hz : ¬ (1 < s.size ∧ bI s 0 = 48)) (hm : s.size ≤ 9223372036854775807) (w : World) :
    Calls Try.prog 34 #[.string s] w fun e w' => (∃ r c, Res s r c ∧ e = .returned (.tuple #[.agg (W r), .int .i64 c])) ∧ Below w.heap.size w w' := by
  have H0 := ((Blks.nil w).alloc Z4 24 rfl).alloc Z4 24 (b := w.heap.size + 1) (by simp)
  rw [show Z4 = W 0 from W_zero.symm] at H0
  have HH := Lib.hid H0
  clear H0
  have hse := s_empty h0
  have hi' : ∀ W, (Instr.index 9 (.string s) (.int .i64 0)).run Try.prog W = .ok (.int .u8 (bI s 0)) W := idx_s s (k := 0) (by omega)
  have HZ := Lib.hid hz
  have HI : Hid (∀ k, k < s.size → ∀ W, (Instr.index 9 (.string s) (.int .i64 (k : Int))).run Try.prog W = .ok (.int .u8 (bI s k)) W) := Lib.hid fun k hk => idx_s s hk
  obtain ⟨n, hn⟩ : ∃ n, s.size = n := ⟨_, rfl⟩
  rw [hn] at HI
  have HN := Lib.hid hn
  have h1n : 1 ≤ n := by omega
  have hcase : (¬ (1 : Int) < (n : Int)) ∨ ((1 : Int) < (n : Int) ∧ (bI s 0 == 48) = false) := by
    by_cases h : (1 : Int) < (n : Int)
    · exact .inr ⟨h, by simp; exact fun e => hz ⟨by omega, e⟩⟩
    · exact .inl h
  clear hz h0
  go_enter Try.func34, Try.ntmps34
  go_upto_region 2 with fail
  go_cut [22] from 11 to 21 (fun c wx => c = .bool false ∧ wx = (w.alloc (.cells Z4 24)).alloc (.cells Z4 24))
  case first =>
    rcases hcase with hI | ⟨hI, hb⟩
    · go_wp2_with fail
      go_meet
      exact ⟨rfl, rfl⟩
    · go_wp2_with fail
      go_meet
      exact ⟨rfl, rfl⟩
  case rest =>
    obtain ⟨rfl, rfl⟩ := hcut
    clear hcase hi' hse
    go_wp2_with fail
    go_loopw [5] (fun h wr => ∃ k : Nat, k ≤ n ∧ h = .int .i64 k ∧ (∀ i, i < k → DigAt s i) ∧ Blks w [(w.heap.size, W 0, 24), (w.heap.size + 1, W 0, 24)] wr) (fun h _ => n - (intOf h).toNat)
    case atStart => exact ⟨0, by omega, rfl, by simp, HH.out⟩
    case round =>
      obtain ⟨k, hk, rfl, hD, hW⟩ := hrel
      have HD : Hid (∀ i, i < k → DigAt s i) := Lib.hid hD
      have HW := Lib.hid hW
      clear HH hW hD
      by_cases hlt : k < n
      · have hkI : (k : Int) < (n : Int) := by omega
        have hix := HI.out k hlt
        by_cases hdig : DigAt s k
        · obtain ⟨hd0, hd1⟩ := hdig
          have HDG : Hid (∀ i, i < k + 1 → DigAt s i) := Lib.hid fun i hi => by
            by_cases h : i = k
            · rw [h]; exact ⟨hd0, hd1⟩
            · exact HD.out i (by omega)
          have h48 : ¬ bI s k < 48 := by omega
          have h57 : ¬ 57 < bI s k := by omega
          clear hd0 hd1
          go_wp2_with fail
          go_roundw
          case rel => exact ⟨k + 1, by omega, by go_num, HDG.out, HW.out⟩
          case measure => simp [intOf]; omega
        · have HB : Hid (Bad s) := Lib.hid (.inr (.inr ⟨k, by rw [HN.out]; exact hlt, hdig⟩))
          have hbd := bI_bd s k
          unfold DigAt at hdig
          by_cases hl : bI s k < 48
          · clear hdig
            go_wp2_with (first
              | ((with_reducible refine g_load 24 ?_); refine wpList_blks_load HW.out 1 _ _ 24 rfl rfl (.tmp 4) rfl rfl tu24 rfl ts24 ?_)
              | ((with_reducible refine g_store 24 ?_); refine wpList_blks_store HW.out 0 _ _ 24 rfl rfl _ _ rfl rfl (W 0) rfl rfl ts24 (W_one _) ?_; intro w1 H1))
            exact bodyPost_ret (results_cell_tmp_row rfl _ _ w.heap.size 24 (W 0) (0, 0) _ (.int .i64 11) rfl rfl (H1.get 0 rfl) tu24 rfl ts24) rfl ⟨⟨0, 11, .inl ⟨HB.out, rfl, rfl⟩, rfl⟩, H1.below⟩
          · have hg : 57 < bI s k := by omega
            clear hdig
            go_wp2_with (first
              | ((with_reducible refine g_load 24 ?_); refine wpList_blks_load HW.out 1 _ _ 24 rfl rfl (.tmp 4) rfl rfl tu24 rfl ts24 ?_)
              | ((with_reducible refine g_store 24 ?_); refine wpList_blks_store HW.out 0 _ _ 24 rfl rfl _ _ rfl rfl (W 0) rfl rfl ts24 (W_one _) ?_; intro w1 H1))
            exact bodyPost_ret (results_cell_tmp_row rfl _ _ w.heap.size 24 (W 0) (0, 0) _ (.int .i64 11) rfl rfl (H1.get 0 rfl) tu24 rfl ts24) rfl ⟨⟨0, 11, .inl ⟨HB.out, rfl, rfl⟩, rfl⟩, H1.below⟩
      · obtain rfl : k = n := by omega
        have HNB : Hid (¬ Bad s) := Lib.hid (by
          rintro (h | h | ⟨i, hi, h⟩)
          · have := HN.out; omega
          · exact HZ.out h
          · exact h (HD.out i (by have := HN.out; omega)))
        by_cases h78 : 78 < k
        · have hbig : Hid (R256 ≤ vI s k) := Lib.hid (by
            have hne : bI s 0 ≠ 48 := fun e => HZ.out ⟨by have := HN.out; omega, e⟩
            obtain ⟨j, rfl⟩ : ∃ j, k = 78 + j + 1 := ⟨k - 79, by omega⟩
            have h1 := vI_big hne (78 + j) HD.out
            have h2 := pow78
            have h3 : (10 : Int) ^ 78 * 1 ≤ 10 ^ 78 * 10 ^ j := Int.mul_le_mul_of_nonneg_left (Int.pow_pos (by omega)) (by decide)
            rw [Int.pow_add] at h1
            omega)
          have h78I : (78 : Int) < (k : Int) := by omega
          go_wp2_with (first
            | ((with_reducible refine g_load 24 ?_); refine wpList_blks_load HW.out 1 _ _ 24 rfl rfl (.tmp 4) rfl rfl tu24 rfl ts24 ?_)
            | ((with_reducible refine g_store 24 ?_); refine wpList_blks_store HW.out 0 _ _ 24 rfl rfl _ _ rfl rfl (W 0) rfl rfl ts24 (W_one _) ?_; intro w1 H1))
          exact bodyPost_ret (results_cell_tmp_row rfl _ _ w.heap.size 24 (W 0) (0, 0) _ (.int .i64 4) rfl rfl (H1.get 0 rfl) tu24 rfl ts24) rfl ⟨⟨0, 4, .inr (.inl ⟨HNB.out, by rw [HN.out]; exact hbig.out, rfl, rfl⟩), rfl⟩, H1.below⟩
        · have h78I : ¬ (78 : Int) < (k : Int) := by omega
          go_wp2_with fail
          clear h78I hlt hk
          obtain ⟨wo, rfl⟩ : ∃ wo : World, wo = wr := ⟨_, rfl⟩
          go_loopw [6] (fun h wq => ∃ j : Nat, j ≤ k ∧ h = .int .i64 j ∧ vI s j < R256 ∧ Blks w [(w.heap.size, W 0, 24), (w.heap.size + 1, W (vI s j), 24)] wq) (fun h _ => k - (intOf h).toNat)
          case atStart => exact ⟨0, by omega, rfl, R256_pos, HW.out⟩
          case round =>
            obtain ⟨j, hj, rfl, hv1, hQ⟩ := hrel
            have HQ := Lib.hid hQ
            clear HW hQ
            by_cases hlt : j < k
            · have hjI : (j : Int) < (k : Int) := by omega
              have hix := HI.out j hlt
              obtain ⟨hd0, hd1⟩ := HD.out j hlt
              have hv0 := vI_lo j (fun i hi => HD.out i (by omega))
              obtain ⟨d, hd⟩ : ∃ d, bI s j - 48 = d := ⟨_, rfl⟩
              have hst := dig_step (v := vI s j) (d := d) hv0 (by omega) (by omega)
              have hvs : vI s (j + 1) = vI s j * 10 + d := by rw [← hd]; rfl
              rw [← hvs, Int.emod_eq_of_lt hv0 hv1] at hst
              have hst2 := hst.2 hv1
              have hup := vI_up (s := s) (j + 1) k (by omega) HD.out
              have HUP : Hid (vI s (j + 1) ≤ vI s k) := Lib.hid hup
              obtain ⟨x, hxx⟩ : ∃ x, vI s j = x := ⟨_, rfl⟩
              rw [hxx] at hst2 HQ hv0 hv1 hvs
              have HVS : Hid (vI s (j + 1) = x * 10 + d) := Lib.hid hvs
              have HM := Lib.hid (fun W' => rmul_p hv0 hv1 (show (0 : Int) ≤ 10 by omega) (show (10 : Int) < R256 by rw [R256_lit]; omega) W')
              have HA := Lib.hid (fun W' => radd_p (x * 10) d W')
              have hsub : IntKind.u8.wrap (bI s j - 48) = d := by rw [IntKind.wrap_u8]; omega
              have hco : IntKind.u64.wrap d = d := IntWalk.u64_in _ (by omega)
              have hd00 : 0 ≤ d := by omega
              have hd9 : d ≤ 9 := by omega
              have hce : c64 (x * 10) d 4 = (x * 10 % R256 + d % R256) / R256 := rfl
              rw [← hce] at hst2
              have HST := Lib.hid hst2
              have HC01 := Lib.hid (c64_bit (x * 10) d 4)
              have hh0 : 0 ≤ x * 10 / R256 := Int.ediv_nonneg (by omega) (Int.le_of_lt R256_pos)
              have hh9 : x * 10 / R256 ≤ 9 := ten_high hv1
              have hdh : d64 (x * 10 / R256) 0 = x * 10 / R256 := d64_small hh0 hh9
              have HDH := Lib.hid hdh
              have HH9 : Hid (0 ≤ x * 10 / R256 ∧ x * 10 / R256 ≤ 9) := Lib.hid ⟨hh0, hh9⟩
              clear hst hst2 hd hvs hv0 hv1 hxx hd0 hd1 hce hup hh0 hh9 hdh
              go_upto_region 15 with (first
                | ((with_reducible refine g_load 24 ?_); refine wpList_blks_load HQ.out 1 _ _ 24 rfl rfl (.tmp 4) rfl rfl tu24 rfl ts24 ?_)
                | ((with_reducible refine g_build 24 ?_); refine wpList_buildN rfl 24 _ _ rfl rfl _ (build24_0 10 (by omega) (by omega) _) ?_)
                | (go_at_call 14; refine (HM.out _).mono ?_; rintro _ V ⟨rfl, hV⟩)
                | ((with_reducible refine g_store 24 ?_); refine wpList_blks_store (((HQ.out.ext hV).alloc Z4 24 rfl).alloc Z4 24 (b := V.heap.size + 1) (by simp)) 2 _ _ 24 rfl rfl (.tmp 7) _ rfl rfl (W (x * 10 / R256)) rfl rfl ts24 (W_one _) ?_; intro w1 H1)
                | ((with_reducible refine g_store 24 ?_); refine wpList_blks_store H1 3 _ _ 24 rfl rfl (.tmp 8) _ rfl rfl (W (x * 10)) rfl rfl ts24 (W_one _) ?_; intro w2 H2))
              generalize V.heap.size = g at *
              have HN2 : Hid (Blks w [(w.heap.size, W 0, 24), (w.heap.size + 1, W x, 24), (g, W (x * 10 / R256), 24), (g + 1, W (x * 10), 24)] w2) := Lib.hid H2
              clear HQ hV H1 H2 HM
              generalize x * 10 / R256 = hh at *
              go_simp
              go_cut [9, 10] from 57 to 67 (fun b c wx => ∃ gg, b = .pointer (some ⟨gg, 0, none⟩) ∧ c = .int .u64 (c64 (x * 10) d 4) ∧ Blks w [(w.heap.size, W 0, 24), (w.heap.size + 1, W x, 24), (g, W hh, 24), (g + 1, W (x * 10), 24), (gg, W (x * 10 + d), 24)] wx)
              case first =>
                have HAD : Hid (∃ e : BlksOf w [(g + 1, W (x * 10), 24)], w2.drew = e.wd) := Lib.hid (HN2.out.drew.keep [(g + 1, W (x * 10), 24)] (by simp)).of
                have HV0 := Lib.hid HN2.out.drew
                haveI : Nonempty (BlksOf w [(g + 1, W (x * 10), 24)]) := (HN2.out.keep [(g + 1, W (x * 10), 24)] (by simp)).ne
                refine wp_region_headany (fun w' => ∃ e : BlksOf w [(g + 1, W (x * 10), 24)], w' = e.wd) 13 [0, 1, 2, 3, 4, 5, 6] 7 (by kernel_rfl) (by kernel_rfl) (fun d _ _ _ _ h => by cases d <;> exact h) HAD.out ?_
                simp only [List.map_cons, List.map_nil, List.getD_cons_zero, List.getD_cons_succ]
                refine wpHead_loadS rfl 24 _ rfl (g + 1) 0 rfl (W (x * 10)) _ (fun w' hw' => by obtain ⟨e, rfl⟩ := hw'; exact e.blks.range 0 rfl) tu24 rfl ts24 ?_
                iterate 5 (((with_reducible refine wpHead_step (fun K hK => ?_)); go_simp; refine hK _ ?_; clear hK K))
                refine wpHead_build1 rfl 24 0 _ rfl (.agg (W d)) (fun W' => build24_0 d hd00 (by omega) W') ?_
                refine wpHead_nil ?_
                generalize w2.drew = V0 at *
                clear HN2 HAD
                refine wpAnyT_ready (rs := [7, 11]) (by kernel_rfl) (by decide) ?_
                refine AllT.cons rfl ?_ ?_
                · skip
                  refine wpList_plain rfl (fun K hK => ?_)
                  go_simp
                  go_at_call 10
                  refine (HA.out _).mono ?_
                  rintro _ V1 ⟨rfl, hb⟩
                  refine hK _ _ ?_
                  clear hK K
                  have HV1 := Lib.hid (HV0.out.ext hb)
                  clear hb
                  refine wpList_end ⟨fun _ _ => (HV1.out.keep [(g + 1, W (x * 10), 24)] (by simp)).of, ?_⟩
                  refine wpAnyT_ready (rs := [8, 11]) (by kernel_rfl) (by decide) ?_
                  refine AllT.cons rfl ?_ ?_
                  · skip
                    refine wpList_plain rfl (fun K hK => ?_)
                    go_simp
                    refine hK _ _ ?_
                    clear hK K
                    refine wpList_end ⟨fun _ _ => (HV1.out.keep [(g + 1, W (x * 10), 24)] (by simp)).of, ?_⟩
                    refine wpAnyT_ready (rs := [9, 10, 11]) (by kernel_rfl) (by decide) ?_
                    refine AllT.cons rfl ?_ ?_
                    · skip
                      refine wpList_plain rfl (fun K hK => ?_)
                      go_simp
                      refine hK _ _ ?_
                      clear hK K
                      refine wpList_end ⟨fun _ _ => (HV1.out.keep [(g + 1, W (x * 10), 24)] (by simp)).of, ?_⟩
                      refine wpAnyT_ready (rs := [10, 11]) (by kernel_rfl) (by decide) ?_
                      refine AllT.cons rfl ?_ ?_
                      · skip
                        refine wpList_plain rfl (fun K hK => ?_)
                        go_simp
                        refine hK _ _ ?_
                        clear hK K
                        refine wpList_end ⟨fun _ _ => (HV1.out.keep [(g + 1, W (x * 10), 24)] (by simp)).of, ?_⟩
                        refine wpAnyT_ready (rs := [11]) (by kernel_rfl) (by decide) ?_
                        refine AllT.cons rfl ?_ ?_
                        · skip
                          refine wpList_alloc_zero rfl 24 rfl Z4 zero24 ?_
                          have hq := HV1.out.alloc Z4 24 rfl
                          generalize V1.heap.size = gg at *
                          generalize V1.alloc (.cells Z4 24) = V2 at *
                          have HV2 := Lib.hid hq
                          clear hq
                          refine wpList_end ⟨fun _ _ => (HV2.out.keep [(g + 1, W (x * 10), 24)] (by simp)).of, ?_⟩
                          refine wpAnyT_ready (rs := [12]) (by kernel_rfl) (by decide) ?_
                          refine AllT.cons rfl ?_ ?_
                          · skip
                            refine wpList_blks_store HV2.out 4 _ _ 24 rfl rfl (.tmp 9) _ rfl rfl (W (x * 10 + d)) rfl rfl ts24 (W_one _) ?_
                            intro V3 H3
                            have HV3 := Lib.hid H3
                            clear H3
                            refine wpList_end ⟨fun _ _ => (HV3.out.keep [(g + 1, W (x * 10), 24)] (by simp)).of, ?_⟩
                            refine wpAnyT_ready (rs := [13]) (by kernel_rfl) (by decide) ?_
                            refine AllT.cons rfl ?_ ?_
                            · skip
                              refine wpList_plain rfl (fun K hK => ?_)
                              go_simp
                              refine hK _ _ ?_
                              clear hK K
                              refine wpList_end ⟨fun h _ => absurd rfl h, ?_⟩
                              refine wpAnyT_done (by kernel_rfl) ?_
                              go_wp2_with fail
                              go_meet
                              exact ⟨_, rfl, rfl, HV3.out⟩
                            exact AllT.nil
                          exact AllT.nil
                        exact AllT.nil
                      refine AllT.cons rfl ?_ ?_
                      · skip
                        refine wpList_alloc_zero rfl 24 rfl Z4 zero24 ?_
                        have hq := HV1.out.alloc Z4 24 rfl
                        generalize V1.heap.size = gg at *
                        generalize V1.alloc (.cells Z4 24) = V2 at *
                        have HV2 := Lib.hid hq
                        clear hq
                        refine wpList_end ⟨fun _ _ => (HV2.out.keep [(g + 1, W (x * 10), 24)] (by simp)).of, ?_⟩
                        refine wpAnyT_ready (rs := [10, 12]) (by kernel_rfl) (by decide) ?_
                        refine AllT.cons rfl ?_ ?_
                        · skip
                          refine wpList_plain rfl (fun K hK => ?_)
                          go_simp
                          refine hK _ _ ?_
                          clear hK K
                          refine wpList_end ⟨fun _ _ => (HV2.out.keep [(g + 1, W (x * 10), 24)] (by simp)).of, ?_⟩
                          refine wpAnyT_ready (rs := [12]) (by kernel_rfl) (by decide) ?_
                          refine AllT.cons rfl ?_ ?_
                          · skip
                            refine wpList_blks_store HV2.out 4 _ _ 24 rfl rfl (.tmp 9) _ rfl rfl (W (x * 10 + d)) rfl rfl ts24 (W_one _) ?_
                            intro V3 H3
                            have HV3 := Lib.hid H3
                            clear H3
                            refine wpList_end ⟨fun _ _ => (HV3.out.keep [(g + 1, W (x * 10), 24)] (by simp)).of, ?_⟩
                            refine wpAnyT_ready (rs := [13]) (by kernel_rfl) (by decide) ?_
                            refine AllT.cons rfl ?_ ?_
                            · skip
                              refine wpList_plain rfl (fun K hK => ?_)
                              go_simp
                              refine hK _ _ ?_
                              clear hK K
                              refine wpList_end ⟨fun h _ => absurd rfl h, ?_⟩
                              refine wpAnyT_done (by kernel_rfl) ?_
                              go_wp2_with fail
                              go_meet
                              exact ⟨_, rfl, rfl, HV3.out⟩
                            exact AllT.nil
                          exact AllT.nil
                        refine AllT.cons rfl ?_ ?_
                        · skip
                          refine wpList_blks_store HV2.out 4 _ _ 24 rfl rfl (.tmp 9) _ rfl rfl (W (x * 10 + d)) rfl rfl ts24 (W_one _) ?_
                          intro V3 H3
                          have HV3 := Lib.hid H3
                          clear H3
                          refine wpList_end ⟨fun _ _ => (HV3.out.keep [(g + 1, W (x * 10), 24)] (by simp)).of, ?_⟩
                          refine wpAnyT_ready (rs := [10]) (by kernel_rfl) (by decide) ?_
                          refine AllT.cons rfl ?_ ?_
                          · skip
                            refine wpList_plain rfl (fun K hK => ?_)
                            go_simp
                            refine hK _ _ ?_
                            clear hK K
                            refine wpList_end ⟨fun _ _ => (HV3.out.keep [(g + 1, W (x * 10), 24)] (by simp)).of, ?_⟩
                            refine wpAnyT_ready (rs := [13]) (by kernel_rfl) (by decide) ?_
                            refine AllT.cons rfl ?_ ?_
                            · skip
                              refine wpList_plain rfl (fun K hK => ?_)
                              go_simp
                              refine hK _ _ ?_
                              clear hK K
                              refine wpList_end ⟨fun h _ => absurd rfl h, ?_⟩
                              refine wpAnyT_done (by kernel_rfl) ?_
                              go_wp2_with fail
                              go_meet
                              exact ⟨_, rfl, rfl, HV3.out⟩
                            exact AllT.nil
                          exact AllT.nil
                        exact AllT.nil
                      exact AllT.nil
                    refine AllT.cons rfl ?_ ?_
                    · skip
                      refine wpList_plain rfl (fun K hK => ?_)
                      go_simp
                      refine hK _ _ ?_
                      clear hK K
                      refine wpList_end ⟨fun _ _ => (HV1.out.keep [(g + 1, W (x * 10), 24)] (by simp)).of, ?_⟩
                      refine wpAnyT_ready (rs := [9, 11]) (by kernel_rfl) (by decide) ?_
                      refine AllT.cons rfl ?_ ?_
                      · skip
                        refine wpList_plain rfl (fun K hK => ?_)
                        go_simp
                        refine hK _ _ ?_
                        clear hK K
                        refine wpList_end ⟨fun _ _ => (HV1.out.keep [(g + 1, W (x * 10), 24)] (by simp)).of, ?_⟩
                        refine wpAnyT_ready (rs := [11]) (by kernel_rfl) (by decide) ?_
                        refine AllT.cons rfl ?_ ?_
                        · skip
                          refine wpList_alloc_zero rfl 24 rfl Z4 zero24 ?_
                          have hq := HV1.out.alloc Z4 24 rfl
                          generalize V1.heap.size = gg at *
                          generalize V1.alloc (.cells Z4 24) = V2 at *
                          have HV2 := Lib.hid hq
                          clear hq
                          refine wpList_end ⟨fun _ _ => (HV2.out.keep [(g + 1, W (x * 10), 24)] (by simp)).of, ?_⟩
                          refine wpAnyT_ready (rs := [12]) (by kernel_rfl) (by decide) ?_
                          refine AllT.cons rfl ?_ ?_
                          · skip
                            refine wpList_blks_store HV2.out 4 _ _ 24 rfl rfl (.tmp 9) _ rfl rfl (W (x * 10 + d)) rfl rfl ts24 (W_one _) ?_
                            intro V3 H3
                            have HV3 := Lib.hid H3
                            clear H3
                            refine wpList_end ⟨fun _ _ => (HV3.out.keep [(g + 1, W (x * 10), 24)] (by simp)).of, ?_⟩
                            refine wpAnyT_ready (rs := [13]) (by kernel_rfl) (by decide) ?_
                            refine AllT.cons rfl ?_ ?_
                            · skip
                              refine wpList_plain rfl (fun K hK => ?_)
                              go_simp
                              refine hK _ _ ?_
                              clear hK K
                              refine wpList_end ⟨fun h _ => absurd rfl h, ?_⟩
                              refine wpAnyT_done (by kernel_rfl) ?_
                              go_wp2_with fail
                              go_meet
                              exact ⟨_, rfl, rfl, HV3.out⟩
                            exact AllT.nil
                          exact AllT.nil
                        exact AllT.nil
                      refine AllT.cons rfl ?_ ?_
                      · skip
                        refine wpList_alloc_zero rfl 24 rfl Z4 zero24 ?_
                        have hq := HV1.out.alloc Z4 24 rfl
                        generalize V1.heap.size = gg at *
                        generalize V1.alloc (.cells Z4 24) = V2 at *
                        have HV2 := Lib.hid hq
                        clear hq
                        refine wpList_end ⟨fun _ _ => (HV2.out.keep [(g + 1, W (x * 10), 24)] (by simp)).of, ?_⟩
                        refine wpAnyT_ready (rs := [9]) (by kernel_rfl) (by decide) ?_
                        refine AllT.cons rfl ?_ ?_
                        · skip
                          refine wpList_plain rfl (fun K hK => ?_)
                          go_simp
                          refine hK _ _ ?_
                          clear hK K
                          refine wpList_end ⟨fun _ _ => (HV2.out.keep [(g + 1, W (x * 10), 24)] (by simp)).of, ?_⟩
                          refine wpAnyT_ready (rs := [12]) (by kernel_rfl) (by decide) ?_
                          refine AllT.cons rfl ?_ ?_
                          · skip
                            refine wpList_blks_store HV2.out 4 _ _ 24 rfl rfl (.tmp 9) _ rfl rfl (W (x * 10 + d)) rfl rfl ts24 (W_one _) ?_
                            intro V3 H3
                            have HV3 := Lib.hid H3
                            clear H3
                            refine wpList_end ⟨fun _ _ => (HV3.out.keep [(g + 1, W (x * 10), 24)] (by simp)).of, ?_⟩
                            refine wpAnyT_ready (rs := [13]) (by kernel_rfl) (by decide) ?_
                            refine AllT.cons rfl ?_ ?_
                            · skip
                              refine wpList_plain rfl (fun K hK => ?_)
                              go_simp
                              refine hK _ _ ?_
                              clear hK K
                              refine wpList_end ⟨fun h _ => absurd rfl h, ?_⟩
                              refine wpAnyT_done (by kernel_rfl) ?_
                              go_wp2_with fail
                              go_meet
                              exact ⟨_, rfl, rfl, HV3.out⟩
                            exact AllT.nil
                          exact AllT.nil
                        exact AllT.nil
                      exact AllT.nil
                    refine AllT.cons rfl ?_ ?_
                    · skip
                      refine wpList_alloc_zero rfl 24 rfl Z4 zero24 ?_
                      have hq := HV1.out.alloc Z4 24 rfl
                      generalize V1.heap.size = gg at *
                      generalize V1.alloc (.cells Z4 24) = V2 at *
                      have HV2 := Lib.hid hq
                      clear hq
                      refine wpList_end ⟨fun _ _ => (HV2.out.keep [(g + 1, W (x * 10), 24)] (by simp)).of, ?_⟩
                      refine wpAnyT_ready (rs := [9, 10]) (by kernel_rfl) (by decide) ?_
                      refine AllT.cons rfl ?_ ?_
                      · skip
                        refine wpList_plain rfl (fun K hK => ?_)
                        go_simp
                        refine hK _ _ ?_
                        clear hK K
                        refine wpList_end ⟨fun _ _ => (HV2.out.keep [(g + 1, W (x * 10), 24)] (by simp)).of, ?_⟩
                        refine wpAnyT_ready (rs := [10, 12]) (by kernel_rfl) (by decide) ?_
                        refine AllT.cons rfl ?_ ?_
                        · skip
                          refine wpList_plain rfl (fun K hK => ?_)
                          go_simp
                          refine hK _ _ ?_
                          clear hK K
                          refine wpList_end ⟨fun _ _ => (HV2.out.keep [(g + 1, W (x * 10), 24)] (by simp)).of, ?_⟩
                          refine wpAnyT_ready (rs := [12]) (by kernel_rfl) (by decide) ?_
                          refine AllT.cons rfl ?_ ?_
                          · skip
                            refine wpList_blks_store HV2.out 4 _ _ 24 rfl rfl (.tmp 9) _ rfl rfl (W (x * 10 + d)) rfl rfl ts24 (W_one _) ?_
                            intro V3 H3
                            have HV3 := Lib.hid H3
                            clear H3
                            refine wpList_end ⟨fun _ _ => (HV3.out.keep [(g + 1, W (x * 10), 24)] (by simp)).of, ?_⟩
                            refine wpAnyT_ready (rs := [13]) (by kernel_rfl) (by decide) ?_
                            refine AllT.cons rfl ?_ ?_
                            · skip
                              refine wpList_plain rfl (fun K hK => ?_)
                              go_simp
                              refine hK _ _ ?_
                              clear hK K
                              refine wpList_end ⟨fun h _ => absurd rfl h, ?_⟩
                              refine wpAnyT_done (by kernel_rfl) ?_
                              go_wp2_with fail
                              go_meet
                              exact ⟨_, rfl, rfl, HV3.out⟩
                            exact AllT.nil
                          exact AllT.nil
                        refine AllT.cons rfl ?_ ?_
                        · skip
                          refine wpList_blks_store HV2.out 4 _ _ 24 rfl rfl (.tmp 9) _ rfl rfl (W (x * 10 + d)) rfl rfl ts24 (W_one _) ?_
                          intro V3 H3
                          have HV3 := Lib.hid H3
                          clear H3
                          refine wpList_end ⟨fun _ _ => (HV3.out.keep [(g + 1, W (x * 10), 24)] (by simp)).of, ?_⟩
                          refine wpAnyT_ready (rs := [10]) (by kernel_rfl) (by decide) ?_
                          refine AllT.cons rfl ?_ ?_
                          · skip
                            refine wpList_plain rfl (fun K hK => ?_)
                            go_simp
                            refine hK _ _ ?_
                            clear hK K
                            refine wpList_end ⟨fun _ _ => (HV3.out.keep [(g + 1, W (x * 10), 24)] (by simp)).of, ?_⟩
                            refine wpAnyT_ready (rs := [13]) (by kernel_rfl) (by decide) ?_
                            refine AllT.cons rfl ?_ ?_
                            · skip
                              refine wpList_plain rfl (fun K hK => ?_)
                              go_simp
                              refine hK _ _ ?_
                              clear hK K
                              refine wpList_end ⟨fun h _ => absurd rfl h, ?_⟩
                              refine wpAnyT_done (by kernel_rfl) ?_
                              go_wp2_with fail
                              go_meet
                              exact ⟨_, rfl, rfl, HV3.out⟩
                            exact AllT.nil
                          exact AllT.nil
                        exact AllT.nil
                      refine AllT.cons rfl ?_ ?_
                      · skip
                        refine wpList_plain rfl (fun K hK => ?_)
                        go_simp
                        refine hK _ _ ?_
                        clear hK K
                        refine wpList_end ⟨fun _ _ => (HV2.out.keep [(g + 1, W (x * 10), 24)] (by simp)).of, ?_⟩
                        refine wpAnyT_ready (rs := [9]) (by kernel_rfl) (by decide) ?_
                        refine AllT.cons rfl ?_ ?_
                        · skip
                          refine wpList_plain rfl (fun K hK => ?_)
                          go_simp
                          refine hK _ _ ?_
                          clear hK K
                          refine wpList_end ⟨fun _ _ => (HV2.out.keep [(g + 1, W (x * 10), 24)] (by simp)).of, ?_⟩
                          refine wpAnyT_ready (rs := [12]) (by kernel_rfl) (by decide) ?_
                          refine AllT.cons rfl ?_ ?_
                          · skip
                            refine wpList_blks_store HV2.out 4 _ _ 24 rfl rfl (.tmp 9) _ rfl rfl (W (x * 10 + d)) rfl rfl ts24 (W_one _) ?_
                            intro V3 H3
                            have HV3 := Lib.hid H3
                            clear H3
                            refine wpList_end ⟨fun _ _ => (HV3.out.keep [(g + 1, W (x * 10), 24)] (by simp)).of, ?_⟩
                            refine wpAnyT_ready (rs := [13]) (by kernel_rfl) (by decide) ?_
                            refine AllT.cons rfl ?_ ?_
                            · skip
                              refine wpList_plain rfl (fun K hK => ?_)
                              go_simp
                              refine hK _ _ ?_
                              clear hK K
                              refine wpList_end ⟨fun h _ => absurd rfl h, ?_⟩
                              refine wpAnyT_done (by kernel_rfl) ?_
                              go_wp2_with fail
                              go_meet
                              exact ⟨_, rfl, rfl, HV3.out⟩
                            exact AllT.nil
                          exact AllT.nil
                        exact AllT.nil
                      exact AllT.nil
                    exact AllT.nil
                  refine AllT.cons rfl ?_ ?_
                  · skip
                    refine wpList_alloc_zero rfl 24 rfl Z4 zero24 ?_
                    have hq := HV1.out.alloc Z4 24 rfl
                    generalize V1.heap.size = gg at *
                    generalize V1.alloc (.cells Z4 24) = V2 at *
                    have HV2 := Lib.hid hq
                    clear hq
                    refine wpList_end ⟨fun _ _ => (HV2.out.keep [(g + 1, W (x * 10), 24)] (by simp)).of, ?_⟩
                    refine wpAnyT_ready (rs := [8]) (by kernel_rfl) (by decide) ?_
                    refine AllT.cons rfl ?_ ?_
                    · skip
                      refine wpList_plain rfl (fun K hK => ?_)
                      go_simp
                      refine hK _ _ ?_
                      clear hK K
                      refine wpList_end ⟨fun _ _ => (HV2.out.keep [(g + 1, W (x * 10), 24)] (by simp)).of, ?_⟩
                      refine wpAnyT_ready (rs := [9, 10]) (by kernel_rfl) (by decide) ?_
                      refine AllT.cons rfl ?_ ?_
                      · skip
                        refine wpList_plain rfl (fun K hK => ?_)
                        go_simp
                        refine hK _ _ ?_
                        clear hK K
                        refine wpList_end ⟨fun _ _ => (HV2.out.keep [(g + 1, W (x * 10), 24)] (by simp)).of, ?_⟩
                        refine wpAnyT_ready (rs := [10, 12]) (by kernel_rfl) (by decide) ?_
                        refine AllT.cons rfl ?_ ?_
                        · skip
                          refine wpList_plain rfl (fun K hK => ?_)
                          go_simp
                          refine hK _ _ ?_
                          clear hK K
                          refine wpList_end ⟨fun _ _ => (HV2.out.keep [(g + 1, W (x * 10), 24)] (by simp)).of, ?_⟩
                          refine wpAnyT_ready (rs := [12]) (by kernel_rfl) (by decide) ?_
                          refine AllT.cons rfl ?_ ?_
                          · skip
                            refine wpList_blks_store HV2.out 4 _ _ 24 rfl rfl (.tmp 9) _ rfl rfl (W (x * 10 + d)) rfl rfl ts24 (W_one _) ?_
                            intro V3 H3
                            have HV3 := Lib.hid H3
                            clear H3
                            refine wpList_end ⟨fun _ _ => (HV3.out.keep [(g + 1, W (x * 10), 24)] (by simp)).of, ?_⟩
                            refine wpAnyT_ready (rs := [13]) (by kernel_rfl) (by decide) ?_
                            refine AllT.cons rfl ?_ ?_
                            · skip
                              refine wpList_plain rfl (fun K hK => ?_)
                              go_simp
                              refine hK _ _ ?_
                              clear hK K
                              refine wpList_end ⟨fun h _ => absurd rfl h, ?_⟩
                              refine wpAnyT_done (by kernel_rfl) ?_
                              go_wp2_with fail
                              go_meet
                              exact ⟨_, rfl, rfl, HV3.out⟩
                            exact AllT.nil
                          exact AllT.nil
                        refine AllT.cons rfl ?_ ?_
                        · skip
                          refine wpList_blks_store HV2.out 4 _ _ 24 rfl rfl (.tmp 9) _ rfl rfl (W (x * 10 + d)) rfl rfl ts24 (W_one _) ?_
                          intro V3 H3
                          have HV3 := Lib.hid H3
                          clear H3
                          refine wpList_end ⟨fun _ _ => (HV3.out.keep [(g + 1, W (x * 10), 24)] (by simp)).of, ?_⟩
                          refine wpAnyT_ready (rs := [10]) (by kernel_rfl) (by decide) ?_
                          refine AllT.cons rfl ?_ ?_
                          · skip
                            refine wpList_plain rfl (fun K hK => ?_)
                            go_simp
                            refine hK _ _ ?_
                            clear hK K
                            refine wpList_end ⟨fun _ _ => (HV3.out.keep [(g + 1, W (x * 10), 24)] (by simp)).of, ?_⟩
                            refine wpAnyT_ready (rs := [13]) (by kernel_rfl) (by decide) ?_
                            refine AllT.cons rfl ?_ ?_
                            · skip
                              refine wpList_plain rfl (fun K hK => ?_)
                              go_simp
                              refine hK _ _ ?_
                              clear hK K
                              refine wpList_end ⟨fun h _ => absurd rfl h, ?_⟩
                              refine wpAnyT_done (by kernel_rfl) ?_
                              go_wp2_with fail
                              go_meet
                              exact ⟨_, rfl, rfl, HV3.out⟩
                            exact AllT.nil
                          exact AllT.nil
                        exact AllT.nil
                      refine AllT.cons rfl ?_ ?_
                      · skip
                        refine wpList_plain rfl (fun K hK => ?_)
                        go_simp
                        refine hK _ _ ?_
                        clear hK K
                        refine wpList_end ⟨fun _ _ => (HV2.out.keep [(g + 1, W (x * 10), 24)] (by simp)).of, ?_⟩
                        refine wpAnyT_ready (rs := [9]) (by kernel_rfl) (by decide) ?_
                        refine AllT.cons rfl ?_ ?_
                        · skip
                          refine wpList_plain rfl (fun K hK => ?_)
                          go_simp
                          refine hK _ _ ?_
                          clear hK K
                          refine wpList_end ⟨fun _ _ => (HV2.out.keep [(g + 1, W (x * 10), 24)] (by simp)).of, ?_⟩
                          refine wpAnyT_ready (rs := [12]) (by kernel_rfl) (by decide) ?_
                          refine AllT.cons rfl ?_ ?_
                          · skip
                            refine wpList_blks_store HV2.out 4 _ _ 24 rfl rfl (.tmp 9) _ rfl rfl (W (x * 10 + d)) rfl rfl ts24 (W_one _) ?_
                            intro V3 H3
                            have HV3 := Lib.hid H3
                            clear H3
                            refine wpList_end ⟨fun _ _ => (HV3.out.keep [(g + 1, W (x * 10), 24)] (by simp)).of, ?_⟩
                            refine wpAnyT_ready (rs := [13]) (by kernel_rfl) (by decide) ?_
                            refine AllT.cons rfl ?_ ?_
                            · skip
                              refine wpList_plain rfl (fun K hK => ?_)
                              go_simp
                              refine hK _ _ ?_
                              clear hK K
                              refine wpList_end ⟨fun h _ => absurd rfl h, ?_⟩
                              refine wpAnyT_done (by kernel_rfl) ?_
                              go_wp2_with fail
                              go_meet
                              exact ⟨_, rfl, rfl, HV3.out⟩
                            exact AllT.nil
                          exact AllT.nil
                        exact AllT.nil
                      exact AllT.nil
                    exact AllT.nil
                  exact AllT.nil
                refine AllT.cons rfl ?_ ?_
                · skip
                  refine wpList_alloc_zero rfl 24 rfl Z4 zero24 ?_
                  have hq := HV0.out.alloc Z4 24 rfl
                  generalize V0.heap.size = gg at *
                  generalize V0.alloc (.cells Z4 24) = V1 at *
                  have HV1 := Lib.hid hq
                  clear hq
                  refine wpList_end ⟨fun _ _ => (HV1.out.keep [(g + 1, W (x * 10), 24)] (by simp)).of, ?_⟩
                  refine wpAnyT_ready (rs := [7]) (by kernel_rfl) (by decide) ?_
                  refine AllT.cons rfl ?_ ?_
                  · skip
                    refine wpList_plain rfl (fun K hK => ?_)
                    go_simp
                    go_at_call 10
                    refine (HA.out _).mono ?_
                    rintro _ V2 ⟨rfl, hb⟩
                    refine hK _ _ ?_
                    clear hK K
                    have HV2 := Lib.hid (HV1.out.ext hb)
                    clear hb
                    refine wpList_end ⟨fun _ _ => (HV2.out.keep [(g + 1, W (x * 10), 24)] (by simp)).of, ?_⟩
                    refine wpAnyT_ready (rs := [8]) (by kernel_rfl) (by decide) ?_
                    refine AllT.cons rfl ?_ ?_
                    · skip
                      refine wpList_plain rfl (fun K hK => ?_)
                      go_simp
                      refine hK _ _ ?_
                      clear hK K
                      refine wpList_end ⟨fun _ _ => (HV2.out.keep [(g + 1, W (x * 10), 24)] (by simp)).of, ?_⟩
                      refine wpAnyT_ready (rs := [9, 10]) (by kernel_rfl) (by decide) ?_
                      refine AllT.cons rfl ?_ ?_
                      · skip
                        refine wpList_plain rfl (fun K hK => ?_)
                        go_simp
                        refine hK _ _ ?_
                        clear hK K
                        refine wpList_end ⟨fun _ _ => (HV2.out.keep [(g + 1, W (x * 10), 24)] (by simp)).of, ?_⟩
                        refine wpAnyT_ready (rs := [10, 12]) (by kernel_rfl) (by decide) ?_
                        refine AllT.cons rfl ?_ ?_
                        · skip
                          refine wpList_plain rfl (fun K hK => ?_)
                          go_simp
                          refine hK _ _ ?_
                          clear hK K
                          refine wpList_end ⟨fun _ _ => (HV2.out.keep [(g + 1, W (x * 10), 24)] (by simp)).of, ?_⟩
                          refine wpAnyT_ready (rs := [12]) (by kernel_rfl) (by decide) ?_
                          refine AllT.cons rfl ?_ ?_
                          · skip
                            refine wpList_blks_store HV2.out 4 _ _ 24 rfl rfl (.tmp 9) _ rfl rfl (W (x * 10 + d)) rfl rfl ts24 (W_one _) ?_
                            intro V3 H3
                            have HV3 := Lib.hid H3
                            clear H3
                            refine wpList_end ⟨fun _ _ => (HV3.out.keep [(g + 1, W (x * 10), 24)] (by simp)).of, ?_⟩
                            refine wpAnyT_ready (rs := [13]) (by kernel_rfl) (by decide) ?_
                            refine AllT.cons rfl ?_ ?_
                            · skip
                              refine wpList_plain rfl (fun K hK => ?_)
                              go_simp
                              refine hK _ _ ?_
                              clear hK K
                              refine wpList_end ⟨fun h _ => absurd rfl h, ?_⟩
                              refine wpAnyT_done (by kernel_rfl) ?_
                              go_wp2_with fail
                              go_meet
                              exact ⟨_, rfl, rfl, HV3.out⟩
                            exact AllT.nil
                          exact AllT.nil
                        refine AllT.cons rfl ?_ ?_
                        · skip
                          refine wpList_blks_store HV2.out 4 _ _ 24 rfl rfl (.tmp 9) _ rfl rfl (W (x * 10 + d)) rfl rfl ts24 (W_one _) ?_
                          intro V3 H3
                          have HV3 := Lib.hid H3
                          clear H3
                          refine wpList_end ⟨fun _ _ => (HV3.out.keep [(g + 1, W (x * 10), 24)] (by simp)).of, ?_⟩
                          refine wpAnyT_ready (rs := [10]) (by kernel_rfl) (by decide) ?_
                          refine AllT.cons rfl ?_ ?_
                          · skip
                            refine wpList_plain rfl (fun K hK => ?_)
                            go_simp
                            refine hK _ _ ?_
                            clear hK K
                            refine wpList_end ⟨fun _ _ => (HV3.out.keep [(g + 1, W (x * 10), 24)] (by simp)).of, ?_⟩
                            refine wpAnyT_ready (rs := [13]) (by kernel_rfl) (by decide) ?_
                            refine AllT.cons rfl ?_ ?_
                            · skip
                              refine wpList_plain rfl (fun K hK => ?_)
                              go_simp
                              refine hK _ _ ?_
                              clear hK K
                              refine wpList_end ⟨fun h _ => absurd rfl h, ?_⟩
                              refine wpAnyT_done (by kernel_rfl) ?_
                              go_wp2_with fail
                              go_meet
                              exact ⟨_, rfl, rfl, HV3.out⟩
                            exact AllT.nil
                          exact AllT.nil
                        exact AllT.nil
                      refine AllT.cons rfl ?_ ?_
                      · skip
                        refine wpList_plain rfl (fun K hK => ?_)
                        go_simp
                        refine hK _ _ ?_
                        clear hK K
                        refine wpList_end ⟨fun _ _ => (HV2.out.keep [(g + 1, W (x * 10), 24)] (by simp)).of, ?_⟩
                        refine wpAnyT_ready (rs := [9]) (by kernel_rfl) (by decide) ?_
                        refine AllT.cons rfl ?_ ?_
                        · skip
                          refine wpList_plain rfl (fun K hK => ?_)
                          go_simp
                          refine hK _ _ ?_
                          clear hK K
                          refine wpList_end ⟨fun _ _ => (HV2.out.keep [(g + 1, W (x * 10), 24)] (by simp)).of, ?_⟩
                          refine wpAnyT_ready (rs := [12]) (by kernel_rfl) (by decide) ?_
                          refine AllT.cons rfl ?_ ?_
                          · skip
                            refine wpList_blks_store HV2.out 4 _ _ 24 rfl rfl (.tmp 9) _ rfl rfl (W (x * 10 + d)) rfl rfl ts24 (W_one _) ?_
                            intro V3 H3
                            have HV3 := Lib.hid H3
                            clear H3
                            refine wpList_end ⟨fun _ _ => (HV3.out.keep [(g + 1, W (x * 10), 24)] (by simp)).of, ?_⟩
                            refine wpAnyT_ready (rs := [13]) (by kernel_rfl) (by decide) ?_
                            refine AllT.cons rfl ?_ ?_
                            · skip
                              refine wpList_plain rfl (fun K hK => ?_)
                              go_simp
                              refine hK _ _ ?_
                              clear hK K
                              refine wpList_end ⟨fun h _ => absurd rfl h, ?_⟩
                              refine wpAnyT_done (by kernel_rfl) ?_
                              go_wp2_with fail
                              go_meet
                              exact ⟨_, rfl, rfl, HV3.out⟩
                            exact AllT.nil
                          exact AllT.nil
                        exact AllT.nil
                      exact AllT.nil
                    exact AllT.nil
                  exact AllT.nil
                exact AllT.nil
              case rest =>
                obtain ⟨gg, rfl, rfl, hQ⟩ := hcut
                have HQ := Lib.hid hQ
                have hcell : wc.cell? ⟨g, 0, none⟩ = some (.int .u64 hh) := by rw [hQ.num 2 rfl (by omega), HDH.out]
                clear hQ HA HN2
                generalize c64 (x * 10) d 4 = c at *
                by_cases hz : hh = 0
                · subst hz
                  by_cases hc : c = 0
                  · subst hc
                    have hlt2 : Hid (vI s (j + 1) < R256) := Lib.hid (by
                      have h1 := HST.out
                      have : ¬ R256 ≤ vI s (j + 1) := fun e => (h1.1 e).elim (fun e => by omega) (fun e => e rfl)
                      omega)
                    go_wp2_with (first
                      | ((with_reducible refine g_load 24 ?_); refine wpList_blks_load HQ.out 4 _ _ 24 rfl rfl (.tmp 9) rfl rfl tu24 rfl ts24 ?_)
                      | ((with_reducible refine g_store 24 ?_); refine wpList_blks_store HQ.out 1 _ _ 24 rfl rfl _ _ rfl rfl (W (x * 10 + d)) rfl rfl ts24 (W_one _) ?_; intro w5 H5))
                    go_roundw
                    case rel => exact ⟨j + 1, by omega, by go_num, hlt2.out, by rw [HVS.out]; exact H5.keep _ (by simp)⟩
                    case measure => simp [intOf]; omega
                  · have HBG : Hid (R256 ≤ vI s k) := Lib.hid (by
                      have h1 := HST.out.2 (.inl (by have := HC01.out; omega))
                      have := HUP.out
                      omega)
                    have hcn : (c != 0) = true := by simpa using hc
                    clear hc
                    go_wp2_with (first
                      | ((with_reducible refine g_build 24 ?_); refine wpList_build0 rfl 24 rfl _ (build24z _) ?_)
                      | ((with_reducible refine g_store 24 ?_); refine wpList_blks_store HQ.out 0 _ _ 24 rfl rfl _ _ rfl rfl (W 0) rfl rfl ts24 (W_one _) ?_; intro w5 H5))
                    exact bodyPost_ret (results_cell_tmp_row rfl _ _ w.heap.size 24 (W 0) (0, 0) _ (.int .i64 4) rfl rfl (H5.get 0 rfl) tu24 rfl ts24) rfl ⟨⟨0, 4, .inr (.inl ⟨HNB.out, by rw [HN.out]; exact HBG.out, rfl, rfl⟩), rfl⟩, H5.below⟩
                · have HBG : Hid (R256 ≤ vI s k) := Lib.hid (by
                    have h1 := HST.out.2 (.inr hz)
                    have := HUP.out
                    omega)
                  have hcn : (hh != 0) = true := by simpa using hz
                  clear hz
                  go_wp2_with (first
                    | ((with_reducible refine g_build 24 ?_); refine wpList_build0 rfl 24 rfl _ (build24z _) ?_)
                    | ((with_reducible refine g_store 24 ?_); refine wpList_blks_store HQ.out 0 _ _ 24 rfl rfl _ _ rfl rfl (W 0) rfl rfl ts24 (W_one _) ?_; intro w5 H5))
                  exact bodyPost_ret (results_cell_tmp_row rfl _ _ w.heap.size 24 (W 0) (0, 0) _ (.int .i64 4) rfl rfl (H5.get 0 rfl) tu24 rfl ts24) rfl ⟨⟨0, 4, .inr (.inl ⟨HNB.out, by rw [HN.out]; exact HBG.out, rfl, rfl⟩), rfl⟩, H5.below⟩
            · obtain rfl : j = k := by omega
              have HV1 := Lib.hid hv1
              clear hv1
              go_wp2_with (first
                | ((with_reducible refine g_load 24 ?_); refine wpList_blks_load HQ.out 1 _ _ 24 rfl rfl (.tmp 4) rfl rfl tu24 rfl ts24 ?_)
                | ((with_reducible refine g_store 24 ?_); refine wpList_blks_store HQ.out 0 _ _ 24 rfl rfl _ _ rfl rfl (W (vI s j)) rfl rfl ts24 (W_one _) ?_; intro w1 H1))
              exact bodyPost_ret (results_cell_tmp_row rfl _ _ w.heap.size 24 (W (vI s j)) (0, 0) _ (.int .i64 0) rfl rfl (H1.get 0 rfl) tu24 rfl ts24) rfl ⟨⟨vI s j, 0, .inr (.inr ⟨HNB.out, by rw [HN.out]; exact HV1.out, by rw [HN.out], rfl⟩), rfl⟩, H1.below⟩
theorem rparse_p {s : ByteArray} (hm : s.size ≤ 9223372036854775807) (w : World) :
    Calls Try.prog 34 #[.string s] w fun e w' => (∃ r c, Res s r c ∧ e = .returned (.tuple #[.agg (W r), .int .i64 c])) ∧ Below w.heap.size w w' := by
  by_cases h0 : s.size = 0
  · obtain rfl : s = ⟨#[]⟩ := by
      obtain ⟨d⟩ := s
      have : d = #[] := Array.eq_empty_of_size_eq_zero h0
      rw [this]
    exact (rparse_empty w).mono fun e w' h => ⟨⟨0, 11, .inl ⟨.inl rfl, rfl, rfl⟩, h.1⟩, h.2⟩
  · by_cases hz : 1 < s.size ∧ bI s 0 = 48
    · exact (rparse_zero hz.1 hm hz.2 w).mono fun e w' h => ⟨⟨0, 11, .inl ⟨.inr (.inl hz), rfl, rfl⟩, h.1⟩, h.2⟩
    · exact rparse_run h0 hz hm w
end Go.Proofs.Ytjmckfebnoaheaa
