/- Parse, walked. -/
import Derived.Test.YtjmckfebnoaheaaA7
import Derived.Test.YtjmckfebnoaheaaD0
import Derived.Test.YtjmckfebnoaheaaB14
import Derived.Test.YtjmckfebnoaheaaG1
set_option linter.unusedVariables false
namespace Go.Proofs.Ytjmckfebnoaheaa
open Go.RowKit Go.KK Go.Lm
theorem idx_s (s : ByteArray) {k : Nat} (h : k < s.size) (w : World) : (Instr.index 9 (.string s) (.int .i64 (k : Int))).run Try.prog w = .ok (.int .u8 (bI s k)) w := by
  rw [run_index_string w 9 s .i64 (k : Int) tu9, dif_pos ⟨by omega, by omega⟩]
  have e : bI s k = ((s[((k : Int)).toNat]'(by omega)).toNat : Int) := by
    unfold bI
    rw [List.getD_eq_getElem?_getD, List.getElem?_eq_getElem (show k < s.data.toList.length by simpa using h)]
    simp
    rfl
  rw [e]
theorem build24_0 (d : Int) (h0 : 0 ≤ d) (h1 : d ≤ 18446744073709551615) (w : World) : (Instr.build 24 #[(0, .int .u64 d)]).run Try.prog w = .ok (.agg (W d)) w := by
  have h : (Instr.build 24 #[(0, .int .u64 d)]).run Try.prog w = .ok (.agg #[.int .u64 d, .int .u64 0, .int .u64 0, .int .u64 0]) w := by kernel_rfl
  rw [h]
  have e : #[Value.int .u64 d, .int .u64 0, .int .u64 0, .int .u64 0] = W d := by
    have e : ∀ f : Nat → Int, f 0 = d → f 1 = 0 → f 2 = 0 → f 3 = 0 → #[Value.int .u64 d, .int .u64 0, .int .u64 0, .int .u64 0] = nums .u64 4 f := by
      rintro f rfl h1 h2 h3; rw [show nums .u64 4 f = #[.int .u64 (f 0), .int .u64 (f 1), .int .u64 (f 2), .int .u64 (f 3)] from rfl, h1, h2, h3]
    refine e _ ?_ ?_ ?_ ?_ <;> unfold d64 dg B64 <;> simp only [Int.reducePow, Int.pow_zero] <;> omega
  rw [e]
theorem s_empty {s : ByteArray} (h : s.size ≠ 0) : s.toList.isEmpty = false := by
  rw [ByteArray.toList_eq]
  have : s.data.toList ≠ [] := fun e => h (by
    have h2 := congrArg List.length e
    simpa using h2)
  simpa using this
def Bad (s : ByteArray) : Prop := s.size = 0 ∨ (1 < s.size ∧ bI s 0 = 48) ∨ ∃ k, k < s.size ∧ ¬ DigAt s k
def Res (s : ByteArray) (r c : Int) : Prop := (Bad s ∧ r = 0 ∧ c = 11) ∨ (¬ Bad s ∧ R256 ≤ vI s s.size ∧ r = 0 ∧ c = 4) ∨ (¬ Bad s ∧ vI s s.size < R256 ∧ r = vI s s.size ∧ c = 0)
theorem parse_empty (w : World) :
    Calls Try.prog 33 #[.string ⟨#[]⟩] w fun e w' => e = .returned (.tuple #[.agg (W 0), .int .i64 11]) ∧ Below w.heap.size w w' := by
  have H0 := (Blks.nil w).alloc Z4 24 rfl
  rw [show Z4 = W 0 from W_zero.symm] at H0
  have HH := Lib.hid H0
  clear H0
  go_enter Try.func33, Try.ntmps33
  go_wp2_with (first
    | ((with_reducible refine g_build 24 ?_); refine wpList_build0 rfl 24 rfl _ (build24z _) ?_)
    | ((with_reducible refine g_store 24 ?_); refine wpList_blks_store HH.out 0 _ _ 24 rfl rfl _ _ rfl rfl (W 0) rfl rfl ts24 (W_one _) ?_; intro w1 H1))
  exact bodyPost_ret (results_cell_tmp_row rfl _ _ w.heap.size 24 (W 0) (0, 0) _ (.int .i64 11) rfl rfl (H1.get 0 rfl) tu24 rfl ts24) rfl ⟨rfl, H1.below⟩
theorem parse_zero {s : ByteArray} (h1 : 1 < s.size) (hm : s.size ≤ 9223372036854775807) (hb : bI s 0 = 48) (w : World) :
    Calls Try.prog 33 #[.string s] w fun e w' => e = .returned (.tuple #[.agg (W 0), .int .i64 11]) ∧ Below w.heap.size w w' := by
  have H0 := (Blks.nil w).alloc Z4 24 rfl
  rw [show Z4 = W 0 from W_zero.symm] at H0
  have HH := Lib.hid H0
  clear H0
  have hi := idx_s s (k := 0) (by omega)
  rw [hb] at hi
  have hi' : ∀ W, (Instr.index 9 (.string s) (.int .i64 0)).run Try.prog W = .ok (.int .u8 48) W := hi
  have hse := s_empty (s := s) (by omega)
  have hI : (1 : Int) < (s.size : Int) := by omega
  clear hi hb
  go_enter Try.func33, Try.ntmps33
  go_wp2_with (first
    | ((with_reducible refine g_build 24 ?_); refine wpList_build0 rfl 24 rfl _ (build24z _) ?_)
    | ((with_reducible refine g_store 24 ?_); refine wpList_blks_store HH.out 0 _ _ 24 rfl rfl _ _ rfl rfl (W 0) rfl rfl ts24 (W_one _) ?_; intro w1 H1))
  exact bodyPost_ret (results_cell_tmp_row rfl _ _ w.heap.size 24 (W 0) (0, 0) _ (.int .i64 11) rfl rfl (H1.get 0 rfl) tu24 rfl ts24) rfl ⟨rfl, H1.below⟩
set_option maxRecDepth 100000 in
set_option maxHeartbeats 8000000 in
theorem parse_run {s : ByteArray} (h0 : s.size ≠ 0) (hz : ¬ (1 < s.size ∧ bI s 0 = 48)) (hm : s.size ≤ 9223372036854775807) (w : World) :
    Calls Try.prog 33 #[.string s] w fun e w' => (∃ r c, Res s r c ∧ e = .returned (.tuple #[.agg (W r), .int .i64 c])) ∧ Below w.heap.size w w' := by
  have H0 := ((Blks.nil w).alloc Z4 24 rfl).alloc Z4 24 (b := w.heap.size + 1) (by simp)
  rw [show Z4 = W 0 from W_zero.symm] at H0
  have HH := Lib.hid H0
  clear H0
  have hse := s_empty h0
  have hi' : ∀ W, (Instr.index 9 (.string s) (.int .i64 0)).run Try.prog W = .ok (.int .u8 (bI s 0)) W := idx_s s (k := 0) (by omega)
  have HZ := Lib.hid hz
  have HI : Hid (∀ k, k < s.size → ∀ W, (Instr.index 9 (.string s) (.int .i64 (k : Int))).run Try.prog W = .ok (.int .u8 (bI s k)) W) := Lib.hid fun k hk => idx_s s hk
  obtain ⟨n, hn⟩ : ∃ n, s.size = n := ⟨_, rfl⟩
  rw [hn] at HI
  have HN := Lib.hid hn
  have h1n : 1 ≤ n := by omega
  have hcase : (¬ (1 : Int) < (n : Int)) ∨ ((1 : Int) < (n : Int) ∧ (bI s 0 == 48) = false) := by
    by_cases h : (1 : Int) < (n : Int)
    · exact .inr ⟨h, by simp; exact fun e => hz ⟨by omega, e⟩⟩
    · exact .inl h
  clear hz h0
  go_enter Try.func33, Try.ntmps33
  go_upto_region 1 with fail
  go_cut [21] from 10 to 20 (fun c wx => c = .bool false ∧ wx = w.alloc (.cells Z4 24))
  case first =>
    rcases hcase with hI | ⟨hI, hb⟩
    · go_wp2_with fail
      go_meet
      exact ⟨rfl, rfl⟩
    · go_wp2_with fail
      go_meet
      exact ⟨rfl, rfl⟩
  case rest =>
    obtain ⟨rfl, rfl⟩ := hcut
    clear hcase hi' hse
    go_wp2_with fail
    go_loopw [5, 25] (fun o h wr => ∃ k : Nat, k ≤ n ∧ h = .int .i64 k ∧ o = .bool (decide (R256 ≤ vI s k)) ∧ (∀ i, i < k → DigAt s i) ∧ Blks w [(w.heap.size, W 0, 24), (w.heap.size + 1, W (vI s k % R256), 24)] wr) (fun _ h _ => n - (intOf h).toNat)
    case atStart => exact ⟨0, by omega, rfl, by simp [vI, R256_lit], by simp, by rw [show vI s 0 % R256 = 0 from rfl]; exact HH.out⟩
    case round =>
      obtain ⟨k, hk, rfl, rfl, hD, hW⟩ := hrel
      have HD : Hid (∀ i, i < k → DigAt s i) := Lib.hid hD
      have HW := Lib.hid hW
      clear HH hW hD
      by_cases hlt : k < n
      · have hkI : (k : Int) < (n : Int) := by omega
        have hix := HI.out k hlt
        by_cases hdig : DigAt s k
        · obtain ⟨hd0, hd1⟩ := hdig
          have hv0 := vI_lo k HD.out
          obtain ⟨d, hd⟩ : ∃ d, bI s k - 48 = d := ⟨_, rfl⟩
          have hst := dig_step (v := vI s k) (d := d) hv0 (by omega) (by omega)
          have hvs : vI s (k + 1) = vI s k * 10 + d := by rw [← hd]; rfl
          rw [← hvs] at hst
          have HST := Lib.hid hst
          have HVS := Lib.hid hvs
          have HDG : Hid (∀ i, i < k + 1 → DigAt s i) := Lib.hid fun i hi => by
            by_cases h : i = k
            · rw [h]; exact ⟨hd0, hd1⟩
            · exact HD.out i (by omega)
          have hx := R_mod (vI s k)
          obtain ⟨x, hxx⟩ : ∃ x, vI s k % R256 = x := ⟨_, rfl⟩
          rw [hxx] at hx HW HST
          have HM := Lib.hid (fun W' => mul_p hx.1 hx.2 (show (0 : Int) ≤ 10 by omega) (show (10 : Int) < R256 by rw [R256_lit]; omega) W')
          have HA := Lib.hid (fun W' => add_p (x * 10) d W')
          have hsub : IntKind.u8.wrap (bI s k - 48) = d := by rw [IntKind.wrap_u8]; omega
          have hco : IntKind.u64.wrap d = d := IntWalk.u64_in _ (by omega)
          have hd00 : 0 ≤ d := by omega
          have hd9 : d ≤ 9 := by omega
          have h48 : ¬ bI s k < 48 := by omega
          have h57 : ¬ 57 < bI s k := by omega
          have HR : Hid (0 ≤ x * 10 / R256 ∧ x * 10 / R256 < R256) := Lib.hid ⟨Int.ediv_nonneg (by omega) (Int.le_of_lt R256_pos), Int.ediv_lt_of_lt_mul R256_pos (by have := hx.2; rw [R256_lit] at *; omega)⟩
          clear hst hx hd hvs hv0 hxx hd0 hd1
          go_upto_region 11 with (first
            | ((with_reducible refine g_load 24 ?_); refine wpList_blks_load HW.out 1 _ _ 24 rfl rfl (.tmp 4) rfl rfl tu24 rfl ts24 ?_)
            | ((with_reducible refine g_build 24 ?_); refine wpList_buildN rfl 24 _ _ rfl rfl _ (build24_0 10 (by omega) (by omega) _) ?_)
            | (go_at_call 13; refine (HM.out _).mono ?_; rintro _ V ⟨rfl, hV⟩)
            | ((with_reducible refine g_store 24 ?_); refine wpList_blks_store (((HW.out.ext hV).alloc Z4 24 rfl).alloc Z4 24 (b := V.heap.size + 1) (by simp)) 2 _ _ 24 rfl rfl (.tmp 7) _ rfl rfl (W (x * 10 / R256)) rfl rfl ts24 (W_one _) ?_; intro w1 H1)
            | ((with_reducible refine g_store 24 ?_); refine wpList_blks_store H1 3 _ _ 24 rfl rfl (.tmp 8) _ rfl rfl (W (x * 10)) rfl rfl ts24 (W_one _) ?_; intro w2 H2))
          generalize V.heap.size = g at *
          have HN2 : Hid (Blks w [(w.heap.size, W 0, 24), (w.heap.size + 1, W x, 24), (g, W (x * 10 / R256), 24), (g + 1, W (x * 10), 24)] w2) := Lib.hid H2
          clear HW hV H1 H2 HM
          go_upto_region 12 with fail
          go_cut [9] from 45 to 55 (fun c wx => c = .int .u64 (c64 (x * 10) d 4) ∧ Blks w [(w.heap.size, W 0, 24), (w.heap.size + 1, W (x * 10 + d), 24), (g, W (x * 10 / R256), 24), (g + 1, W (x * 10), 24)] wx)
          case first =>
            have HAD : Hid (∃ e : BlksOf w [(g + 1, W (x * 10), 24)], w2.drew = e.wd) := Lib.hid (HN2.out.drew.keep [(g + 1, W (x * 10), 24)] (by simp)).of
            have HD2 := Lib.hid HN2.out.drew
            haveI : Nonempty (BlksOf w [(g + 1, W (x * 10), 24)]) := (HN2.out.keep [(g + 1, W (x * 10), 24)] (by simp)).ne
            refine wp_region_headany (fun w' => ∃ e : BlksOf w [(g + 1, W (x * 10), 24)], w' = e.wd) 12 [0, 1, 2, 3, 4, 5, 6] 6 (by kernel_rfl) (by kernel_rfl) (fun d _ _ _ _ h => by cases d <;> exact h) HAD.out ?_
            simp only [List.map_cons, List.map_nil, List.getD_cons_zero, List.getD_cons_succ]
            refine wpHead_loadS rfl 24 _ rfl (g + 1) 0 rfl (W (x * 10)) _ (fun w' hw' => by obtain ⟨e, rfl⟩ := hw'; exact e.blks.range 0 rfl) tu24 rfl ts24 ?_
            iterate 5 (((with_reducible refine wpHead_step (fun K hK => ?_)); go_simp; refine hK _ ?_; clear hK K))
            refine wpHead_build1 rfl 24 0 _ rfl (.agg (W d)) (fun W' => build24_0 d hd00 (by omega) W') ?_
            refine wpHead_nil ?_
            generalize w2.drew = V0 at *
            refine wpAnyT_ready (rs := [7]) (by kernel_rfl) (by decide) ?_
            refine AllT.cons rfl ?_ AllT.nil
            refine wpList_plain rfl (fun K hK => ?_)
            go_simp
            go_at_call 9
            refine (HA.out _).mono ?_
            rintro _ V3 ⟨rfl, hb⟩
            refine hK _ _ ?_
            clear hK K
            have HV3 := Lib.hid (HD2.out.ext hb)
            have HS3 := Lib.hid (HV3.out.keep [(g + 1, W (x * 10), 24)] (by simp)).of
            refine wpList_end ⟨fun _ _ => HS3.out, ?_⟩
            refine wpAnyT_ready (rs := [8]) (by kernel_rfl) (by decide) ?_
            refine AllT.cons rfl ?_ AllT.nil
            refine wpList_plain rfl (fun K hK => ?_)
            go_simp
            refine hK _ _ ?_
            clear hK K
            refine wpList_end ⟨fun _ _ => HS3.out, ?_⟩
            refine wpAnyT_ready (rs := [9, 10]) (by kernel_rfl) (by decide) ?_
            refine AllT.cons rfl ?_ ?_
            · skip
              refine wpList_plain rfl (fun K hK => ?_)
              go_simp
              refine hK _ _ ?_
              clear hK K
              refine wpList_end ⟨fun _ _ => (HV3.out.keep [(g + 1, W (x * 10), 24)] (by simp)).of, ?_⟩
              refine wpAnyT_ready (rs := [10, 11]) (by kernel_rfl) (by decide) ?_
              refine AllT.cons rfl ?_ ?_
              · skip
                refine wpList_plain rfl (fun K hK => ?_)
                go_simp
                refine hK _ _ ?_
                clear hK K
                refine wpList_end ⟨fun _ _ => (HV3.out.keep [(g + 1, W (x * 10), 24)] (by simp)).of, ?_⟩
                refine wpAnyT_ready (rs := [11]) (by kernel_rfl) (by decide) ?_
                refine AllT.cons rfl ?_ ?_
                · skip
                  refine wpList_blks_store HV3.out 1 _ _ 24 rfl rfl (.tmp 4) _ rfl rfl (W (x * 10 + d)) rfl rfl ts24 (W_one _) ?_
                  intro V4 H4
                  have HV4 := Lib.hid H4
                  clear H4
                  refine wpList_end ⟨fun _ _ => (HV4.out.keep [(g + 1, W (x * 10), 24)] (by simp)).of, ?_⟩
                  refine wpAnyT_ready (rs := [12]) (by kernel_rfl) (by decide) ?_
                  refine AllT.cons rfl ?_ ?_
                  · skip
                    refine wpList_plain rfl (fun K hK => ?_)
                    go_simp
                    refine hK _ _ ?_
                    clear hK K
                    refine wpList_end ⟨fun h _ => absurd rfl h, ?_⟩
                    refine wpAnyT_done (by kernel_rfl) ?_
                    go_wp2_with fail
                    go_meet
                    exact ⟨rfl, HV4.out⟩
                  exact AllT.nil
                exact AllT.nil
              refine AllT.cons rfl ?_ ?_
              · skip
                refine wpList_blks_store HV3.out 1 _ _ 24 rfl rfl (.tmp 4) _ rfl rfl (W (x * 10 + d)) rfl rfl ts24 (W_one _) ?_
                intro V4 H4
                have HV4 := Lib.hid H4
                clear H4
                refine wpList_end ⟨fun _ _ => (HV4.out.keep [(g + 1, W (x * 10), 24)] (by simp)).of, ?_⟩
                refine wpAnyT_ready (rs := [10]) (by kernel_rfl) (by decide) ?_
                refine AllT.cons rfl ?_ ?_
                · skip
                  refine wpList_plain rfl (fun K hK => ?_)
                  go_simp
                  refine hK _ _ ?_
                  clear hK K
                  refine wpList_end ⟨fun _ _ => (HV4.out.keep [(g + 1, W (x * 10), 24)] (by simp)).of, ?_⟩
                  refine wpAnyT_ready (rs := [12]) (by kernel_rfl) (by decide) ?_
                  refine AllT.cons rfl ?_ ?_
                  · skip
                    refine wpList_plain rfl (fun K hK => ?_)
                    go_simp
                    refine hK _ _ ?_
                    clear hK K
                    refine wpList_end ⟨fun h _ => absurd rfl h, ?_⟩
                    refine wpAnyT_done (by kernel_rfl) ?_
                    go_wp2_with fail
                    go_meet
                    exact ⟨rfl, HV4.out⟩
                  exact AllT.nil
                exact AllT.nil
              exact AllT.nil
            refine AllT.cons rfl ?_ ?_
            · skip
              refine wpList_plain rfl (fun K hK => ?_)
              go_simp
              refine hK _ _ ?_
              clear hK K
              refine wpList_end ⟨fun _ _ => (HV3.out.keep [(g + 1, W (x * 10), 24)] (by simp)).of, ?_⟩
              refine wpAnyT_ready (rs := [9]) (by kernel_rfl) (by decide) ?_
              refine AllT.cons rfl ?_ ?_
              · skip
                refine wpList_plain rfl (fun K hK => ?_)
                go_simp
                refine hK _ _ ?_
                clear hK K
                refine wpList_end ⟨fun _ _ => (HV3.out.keep [(g + 1, W (x * 10), 24)] (by simp)).of, ?_⟩
                refine wpAnyT_ready (rs := [11]) (by kernel_rfl) (by decide) ?_
                refine AllT.cons rfl ?_ ?_
                · skip
                  refine wpList_blks_store HV3.out 1 _ _ 24 rfl rfl (.tmp 4) _ rfl rfl (W (x * 10 + d)) rfl rfl ts24 (W_one _) ?_
                  intro V4 H4
                  have HV4 := Lib.hid H4
                  clear H4
                  refine wpList_end ⟨fun _ _ => (HV4.out.keep [(g + 1, W (x * 10), 24)] (by simp)).of, ?_⟩
                  refine wpAnyT_ready (rs := [12]) (by kernel_rfl) (by decide) ?_
                  refine AllT.cons rfl ?_ ?_
                  · skip
                    refine wpList_plain rfl (fun K hK => ?_)
                    go_simp
                    refine hK _ _ ?_
                    clear hK K
                    refine wpList_end ⟨fun h _ => absurd rfl h, ?_⟩
                    refine wpAnyT_done (by kernel_rfl) ?_
                    go_wp2_with fail
                    go_meet
                    exact ⟨rfl, HV4.out⟩
                  exact AllT.nil
                exact AllT.nil
              exact AllT.nil
            exact AllT.nil
          case rest =>
            obtain ⟨rfl, HQ⟩ := hcut
            have hW1 : W (x * 10 + d) = W (vI s (k + 1) % R256) := W_congr (by rw [HST.out.1, Int.emod_emod_of_dvd _ (Int.dvd_refl _)])
            rw [hW1] at HQ
            have HC := Lib.hid HQ
            have hup : vI s k ≤ vI s (k + 1) := vI_up k (k + 1) (by omega) HDG.out
            have hst := HST.out.2
            have hce : c64 (x * 10) d 4 = (x * 10 % R256 + d % R256) / R256 := rfl
            rw [← hce] at hst
            clear HQ HN2 HA hW1 HST hce
            generalize c64 (x * 10) d 4 = c at *
            by_cases hov : R256 ≤ vI s k
            · have hd : decide (R256 ≤ vI s k) = true := by simpa using hov
              have HNW : Hid (decide (R256 ≤ vI s (k + 1)) = true) := Lib.hid (by simp; omega)
              clear hov hst hup
              go_wp2_with fail
              go_roundw
              case rel => exact ⟨k + 1, by omega, by go_num, by rw [HNW.out], HDG.out, HC.out.keep _ (by simp)⟩
              case measure => simp [intOf]; omega
            · have hd : decide (R256 ≤ vI s k) = false := by simpa using hov
              have hst2 := hst (by omega)
              by_cases hc : 0 < c
              · have HNW : Hid (decide (R256 ≤ vI s (k + 1)) = true) := Lib.hid (by simp; exact hst2.2 (.inl hc))
                clear hst hup hst2
                go_wp2_with fail
                go_roundw
                case rel => exact ⟨k + 1, by omega, by go_num, by rw [HNW.out], HDG.out, HC.out.keep _ (by simp)⟩
                case measure => simp [intOf]; omega
              · have HNW : Hid (decide (R256 ≤ vI s (k + 1)) = !decide (x * 10 / R256 = 0)) := Lib.hid (by
                  by_cases h : x * 10 / R256 = 0
                  · have : ¬ R256 ≤ vI s (k + 1) := fun e => (hst2.1 e).elim (fun e => hc e) (fun e => e h)
                    rw [decide_eq_false this, decide_eq_true h]; rfl
                  · have := hst2.2 (.inr h)
                    rw [decide_eq_true this, decide_eq_false h]; rfl)
                have hneq : ∀ W', (binOp .neq 24 (.agg (W (x * 10 / R256))) (.agg #[.int .u64 0, .int .u64 0, .int .u64 0, .int .u64 0])).run Try.prog W' = .ok (.bool (!decide (x * 10 / R256 = 0))) W' := neqW (y := 0) HR.out.1 HR.out.2 (by omega) R256_pos
                clear hst hup hst2
                have HQ := HC.out
                clear HR HC
                generalize x * 10 / R256 = hh at hneq HQ HNW
                have HE := Lib.hid HQ
                clear HQ
                go_wp2_with ((with_reducible refine g_load 24 ?_); refine wpList_blks_loadg HE.out 2 _ _ 24 rfl rfl (.tmp 7) rfl rfl tu24 rfl ts24 ?_)
                go_roundw
                case rel => exact ⟨k + 1, by omega, by go_num, by rw [HNW.out], HDG.out, HE.out.keep _ (by simp)⟩
                case measure => simp [intOf]; omega
        · have HB : Hid (Bad s) := Lib.hid (.inr (.inr ⟨k, by rw [HN.out]; exact hlt, hdig⟩))
          have hbd := bI_bd s k
          unfold DigAt at hdig
          by_cases hl : bI s k < 48
          · clear hdig
            go_wp2_with (first
              | ((with_reducible refine g_build 24 ?_); refine wpList_build0 rfl 24 rfl _ (build24z _) ?_)
              | ((with_reducible refine g_store 24 ?_); refine wpList_blks_store HW.out 0 _ _ 24 rfl rfl _ _ rfl rfl (W 0) rfl rfl ts24 (W_one _) ?_; intro w1 H1))
            exact bodyPost_ret (results_cell_tmp_row rfl _ _ w.heap.size 24 (W 0) (0, 0) _ (.int .i64 11) rfl rfl (H1.get 0 rfl) tu24 rfl ts24) rfl ⟨⟨0, 11, .inl ⟨HB.out, rfl, rfl⟩, rfl⟩, H1.below⟩
          · have hg : 57 < bI s k := by omega
            clear hdig
            go_wp2_with (first
              | ((with_reducible refine g_build 24 ?_); refine wpList_build0 rfl 24 rfl _ (build24z _) ?_)
              | ((with_reducible refine g_store 24 ?_); refine wpList_blks_store HW.out 0 _ _ 24 rfl rfl _ _ rfl rfl (W 0) rfl rfl ts24 (W_one _) ?_; intro w1 H1))
            exact bodyPost_ret (results_cell_tmp_row rfl _ _ w.heap.size 24 (W 0) (0, 0) _ (.int .i64 11) rfl rfl (H1.get 0 rfl) tu24 rfl ts24) rfl ⟨⟨0, 11, .inl ⟨HB.out, rfl, rfl⟩, rfl⟩, H1.below⟩
      · obtain rfl : k = n := by omega
        have HNB : Hid (¬ Bad s) := Lib.hid (by
          rintro (h | h | ⟨i, hi, h⟩)
          · have := HN.out; omega
          · exact HZ.out h
          · exact h (HD.out i (by have := HN.out; omega)))
        by_cases hov : R256 ≤ vI s k
        · have hd : decide (R256 ≤ vI s k) = true := by simpa using hov
          have HO := Lib.hid hov
          go_wp2_with (first
            | ((with_reducible refine g_build 24 ?_); refine wpList_build0 rfl 24 rfl _ (build24z _) ?_)
            | ((with_reducible refine g_store 24 ?_); refine wpList_blks_store HW.out 0 _ _ 24 rfl rfl _ _ rfl rfl (W 0) rfl rfl ts24 (W_one _) ?_; intro w1 H1))
          exact bodyPost_ret (results_cell_tmp_row rfl _ _ w.heap.size 24 (W 0) (0, 0) _ (.int .i64 4) rfl rfl (H1.get 0 rfl) tu24 rfl ts24) rfl ⟨⟨0, 4, .inr (.inl ⟨HNB.out, by rw [HN.out]; exact HO.out, rfl, rfl⟩), rfl⟩, H1.below⟩
        · have hd : decide (R256 ≤ vI s k) = false := by simpa using hov
          have hx : vI s k % R256 = vI s k := Int.emod_eq_of_lt (vI_lo k HD.out) (by omega)
          have hQ := HW.out
          rw [hx] at hQ
          have HQ := Lib.hid hQ
          have HO : Hid (vI s k < R256) := Lib.hid (by omega)
          clear hx hQ HW
          go_wp2_with (first
            | ((with_reducible refine g_load 24 ?_); refine wpList_blks_load HQ.out 1 _ _ 24 rfl rfl (.tmp 4) rfl rfl tu24 rfl ts24 ?_)
            | ((with_reducible refine g_store 24 ?_); refine wpList_blks_store HQ.out 0 _ _ 24 rfl rfl _ _ rfl rfl (W (vI s k)) rfl rfl ts24 (W_one _) ?_; intro w1 H1))
          exact bodyPost_ret (results_cell_tmp_row rfl _ _ w.heap.size 24 (W (vI s k)) (0, 0) _ (.int .i64 0) rfl rfl (H1.get 0 rfl) tu24 rfl ts24) rfl ⟨⟨vI s k, 0, .inr (.inr ⟨HNB.out, by rw [HN.out]; exact HO.out, by rw [HN.out], rfl⟩), rfl⟩, H1.below⟩
theorem parse_p {s : ByteArray} (hm : s.size ≤ 9223372036854775807) (w : World) :
    Calls Try.prog 33 #[.string s] w fun e w' => (∃ r c, Res s r c ∧ e = .returned (.tuple #[.agg (W r), .int .i64 c])) ∧ Below w.heap.size w w' := by
  by_cases h0 : s.size = 0
  · obtain rfl : s = ⟨#[]⟩ := by
      obtain ⟨d⟩ := s
      have : d = #[] := Array.eq_empty_of_size_eq_zero h0
      rw [this]
    exact (parse_empty w).mono fun e w' h => ⟨⟨0, 11, .inl ⟨.inl rfl, rfl, rfl⟩, h.1⟩, h.2⟩
  · by_cases hz : 1 < s.size ∧ bI s 0 = 48
    · exact (parse_zero hz.1 hm hz.2 w).mono fun e w' h => ⟨⟨0, 11, .inl ⟨.inr (.inl hz), rfl, rfl⟩, h.1⟩, h.2⟩
    · exact parse_run h0 hz hm w
end Go.Proofs.Ytjmckfebnoaheaa
