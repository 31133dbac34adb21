/- QueuePlays, walked. -/
import Derived.Test.YtgkjglpnnehdbaaQ31
import Derived.Test.YtgkjglpnnehdbaaK6
import Derived.Test.YtgkjglpnnehdbaaQ14
set_option linter.unusedVariables false
set_option linter.unusedSimpArgs false
namespace Go.Proofs.Ytgkjglpnnehdbaa
open Go.RowKit Go.KK

theorem neq29 (f : Nat → Int) (w : World) : (binOp .neq 29 (.agg (wordC f)) (.agg (wordC f))).run Try.prog w = .ok (.bool false) w := by
  rw [run_neq_struct]
  have h := eq_arr4 (P := Try.prog) (w := w) (t := 29) (e := 24) (k := .u64) tu29 tu24 (by kernel_rfl) 9998 (f 0) (f 1) (f 2) (f 3) (f 0) (f 1) (f 2) (f 3)
  unfold wordC
  rw [h]
  simp [Result.andThen]
theorem eq58n (w : World) (g : Nat) : (binOp .eql 58 (.pointer (some ⟨g, 0, none⟩)) (.pointer none)).run Try.prog w = .ok (.bool false) w := by
  simp [go_sem]
set_option maxRecDepth 100000 in
set_option maxHeartbeats 4000000 in
theorem QueuePlays_walk (tk : Int) (l : List StepD) (v : Value) (w : World) (hv : StepsAt w v l) (hsm : ∀ s ∈ l, (s.ops.length + 3) * 200 ≤ 140737488355328) (hln : l.length ≤ 4611686018427387903) :
    Calls Try.prog 7 #[.int .u64 tk, v] w fun e w' => e = .returned (.bool true) ∧ Below w.heap.size w w' := by
  have HV := Lib.hid hv
  have HSM := Lib.hid hsm
  have HN := Lib.hid (fun (e : Int) W => num_q e W)
  clear hsm
  by_cases ht : tk < 1 ∨ 4294967296 < tk
  · have HT := Lib.hid ht
    clear ht hv
    go_enter Try.func7, Try.ntmps7
    go_wp2_with fail
    refine (new_no tk _ HT.out).mono ?_
    rintro e w1 ⟨rfl, rfl⟩
    go_wp2_with fail
    refine (rnew_no _ tk HT.out).mono ?_
    rintro e w1 ⟨rfl, rfl⟩
    go_wp2_with (go_at_call 22; refine (HN.out _ _).mono ?_; rintro e w' ⟨rfl, rfl⟩)
    refine (works_q _).mono ?_
    rintro e w1 ⟨rfl, hb1⟩
    have HB1 := Lib.hid hb1
    clear hb1
    go_wp2_with fail
    go_ret
    exact ⟨rfl, HB1.out⟩
  · have ht0 : 1 ≤ tk := by omega
    have ht1 : tk ≤ 4294967296 := by omega
    have hnn := ne_nil
    have hnr := eq58n
    obtain ⟨⟨A, cap, rfl, hlen, hrows⟩, _⟩ := hv
    have hl : (stepRows l).length = l.length := by simp [stepRows]
    rw [hl] at hlen HV ⊢
    have HR := Lib.hid hrows
    clear ht hrows
    go_enter Try.func7, Try.ntmps7
    go_wp2_with fail
    refine (new_ok tk _ ht0 ht1).mono ?_
    rintro e w1 ⟨rfl, hq1, hb1⟩
    have HQ1 := Lib.hid hq1
    have HB1 := Lib.hid hb1
    clear hq1 hb1
    go_wp2_with fail
    refine (rnew_ok w.heap.size w1 HB1.out.size tk ht0 ht1).mono ?_
    rintro e w2 ⟨r, rfl, hb2, hr2⟩
    have HQ2 := Lib.hid (HQ1.out.below hb2)
    have HB2 := Lib.hid (below_all HB1.out hb2)
    have HR2 := Lib.hid hr2
    clear hb2 hr2
    go_wp2_with (go_at_call 22; refine (HN.out _ _).mono ?_; rintro e w' ⟨rfl, rfl⟩)
    have hBw : w.heap.size ≤ w2.heap.size := HB2.out.size
    clear hnn hnr
    go_loopw [5, 9, 10] (fun q i _ wr => ∃ (k b : Nat) (L : List EntD) (put : Int), k ≤ l.length ∧ q = .pointer (some ⟨b, 0, none⟩) ∧ i = .int .i64 k ∧ w.heap.size ≤ b ∧ QAt wr b tk L put ∧ RAt w.heap.size wr r tk L put ∧ put ≤ k ∧ Below w.heap.size w wr) (fun _ i _ _ => l.length - (intOf i).toNat)
    case atStart => exact ⟨0, w.heap.size, [], 0, by omega, rfl, rfl, Nat.le_refl _, HQ2.out, HR2.out, by omega, HB2.out⟩
    case round =>
      obtain ⟨k, b, L, put, hk, rfl, rfl, hbb, hq, hr, hput, hB⟩ := hrel
      have HQ := Lib.hid hq
      have HRR := Lib.hid hr
      have HB := Lib.hid hB
      clear hq hr hB
      by_cases hlt : k < l.length
      · have hx : l[k]? = some l[k] := List.getElem?_eq_getElem hlt
        obtain ⟨sb, off, rfl, hrow, hsb⟩ := HR.out k l[k].cells (by simp [stepRows, hlt])
        have hrow2 : wr.rangeAt sb (off + k * 30) l[k].cells := fun j v hv => (HB.out.cell (World.block_lt_of_cell? w _ (hrow j v hv))).trans (hrow j v hv)
        have HROW := Lib.hid hrow2
        have hsok := HV.out.2 l[k] (List.getElem_mem hlt)
        have hsz := HSM.out l[k] (List.getElem_mem hlt)
        have HSOK := Lib.hid hsok
        have HD := Lib.hid (does_p hbb HQ.out HRR.out (by omega) l[k] w hbb HB.out hsok hsz)
        have HROW0 := Lib.hid hrow
        clear hx hrow hrow2 hsok hsz
        go_wp2_with ((with_reducible refine g_load 54 ?_); refine wpList_load_mid rfl 54 _ rfl sb (off + k * 30) rfl l[k].cells _ HROW.out tu54' rfl ts54 ?_)
        refine HD.out.mono ?_
        rintro e V ⟨b', L', put', rfl, hb', hq', hr', hp', hBV⟩
        have HQ' := Lib.hid hq'
        have HR' := Lib.hid hr'
        have HBV : Hid (Below w.heap.size w V) := Lib.hid (HB.out.trans hBV)
        clear hq' hr' hBV
        go_wp2_with fail
        have hV0 := HR'.out
        obtain ⟨RA, rcap, hc0, hc1, hc2, hL', hok', hso', _⟩ := hV0.open
        have HC1 := Lib.hid hc1
        have HC2 := Lib.hid hc2
        have HSO := Lib.hid hso'
        have HNN : Hid (V.cell? ⟨sb, off + k * 30 + 28, none⟩ = some (.int .u64 l[k].n)) := Lib.hid ((HBV.out.cell (by exact hsb)).trans (StepD.rn HROW0.out))
        clear hc0 hc1 hc2 hok' hso'
        have h1 : ∀ e : ExtOf V, e.wd.cell? ⟨r, 1, none⟩ = some (.slice RA L'.length rcap) := fun e => e.cell HC1.out
        refine wp_region_headH (fun w' => ∃ e : ExtOf V, w' = e.wd) [0, 1, 2, 3, 5, 6, 7, 8] 64 (by kernel_rfl) (by kernel_rfl) (fun d _ _ _ _ h => by cases d <;> exact h) ⟨⟨V.drew, (Below.refl _ _).drew⟩, rfl⟩ ?_
        simp only [List.append_eq, List.cons_append, List.nil_append, List.map_cons, List.map_nil, List.getD_cons_zero, List.getD_cons_succ]
        iterate 8 (((with_reducible refine wpHead_step (fun K hK => ?_)); go_simp; refine hK _ ?_; clear hK K))
        refine wpHead_nil ?_
        have hVd : Below V.heap.size V V.drew := (Below.refl _ _).drew
        have hQd := HQ'.out.below hVd
        generalize V.drew = V0 at *
        clear h1
        refine wpAnyH_one (i := 4) (by kernel_rfl) rfl ?_
        refine wpList_step (fun K hK => ?_)
        go_simp
        go_at_call 14
        refine (entries_q hQd).mono ?_
        rintro e V1 ⟨ev, rfl, hown1, hV1⟩
        have hVV1 := below_all hVd hV1
        refine hK _ _ ?_
        clear hK K
        refine wpList_end ⟨IsExt.of hVV1, ?_⟩
        have hsl1 := own_sl hown1 (entRows_length L') (entRows_all L')
        have hsl2 := (HSO.out.below hVV1).sl (entRows_length L') (entRows_all L')
        refine wpAnyH_one (i := 9) (by kernel_rfl) rfl ?_
        refine wpList_step (fun K hK => ?_)
        go_simp
        go_at_call 24
        refine (sameE hsl1 hsl2).mono ?_
        rintro e V3 ⟨rfl, hV3⟩
        have hVV3 := below_all hVV1 hV3
        refine hK _ _ ?_
        clear hK K
        refine wpList_end ⟨IsExt.of hVV3, ?_⟩
        refine wpAnyH_one (i := 10) (by kernel_rfl) rfl ?_
        refine wpList_step (fun K hK => ?_)
        go_simp
        refine hK _ _ ?_
        clear hK K
        refine wpList_end ⟨IsExt.of hVV3, ?_⟩
        refine wpAnyH_one (i := 11) (by kernel_rfl) rfl ?_
        refine wpList_step (fun K hK => ?_)
        go_simp
        refine hK _ _ ?_
        clear hK K
        refine wpList_end ⟨IsExt.of hVV3, ?_⟩
        refine wpAnyH_one (i := 12) (by kernel_rfl) rfl ?_
        refine wpList_step (fun K hK => ?_)
        go_simp
        refine hK _ _ ?_
        clear hK K
        refine wpList_end ⟨IsExt.of hVV3, ?_⟩
        have HVV3 := Lib.hid hVV3
        clear hsl1 hsl2 hown1 hV1 hVV1 hV3 hVV3 hQd hVd
        have HQ3 := Lib.hid (HQ'.out.below HVV3.out)
        have HR3 := Lib.hid (HR'.out.below HVV3.out)
        have f1 : Hid (∀ e : ExtOf V3, Calls Try.prog 16 #[.pointer (some ⟨b', 0, none⟩)] e.wd fun r w' => r = .returned (.int .i64 L'.length) ∧ ∃ e' : ExtOf V3, w' = e'.wd) := Lib.hid fun e => calls_ext e ((len_q (HQ3.out.below e.below)).mono fun _ _ ⟨h1, h2⟩ => ⟨h1, h2 ▸ Below.refl _ _⟩)
        have f2 : Hid (∀ e : ExtOf V3, Calls Try.prog 19 #[.pointer (some ⟨b', 0, none⟩)] e.wd fun r w' => r = .returned (.int .i64 put') ∧ ∃ e' : ExtOf V3, w' = e'.wd) := Lib.hid fun e => calls_ext e ((put0_q (HQ3.out.below e.below)).mono fun _ _ ⟨h1, h2⟩ => ⟨h1, h2 ▸ Below.refl _ _⟩)
        have f3 : Hid (∀ e : ExtOf V3, Calls Try.prog 25 #[.pointer (some ⟨b', 0, none⟩)] e.wd fun r w' => r = .returned (.agg (wordC (depL L'))) ∧ ∃ e' : ExtOf V3, w' = e'.wd) := Lib.hid fun e => calls_ext e (dep_q (HQ3.out.below e.below))
        have f4 : Hid (∀ e : ExtOf V3, Calls Try.prog 26 #[.pointer (some ⟨r, 0, none⟩)] e.wd fun r w' => r = .returned (.agg (wordC (depL L'))) ∧ ∃ e' : ExtOf V3, w' = e'.wd) := Lib.hid fun e => calls_ext e (dep_r (HR3.out.below e.below))
        have f5 : Hid (∀ e : ExtOf V3, Calls Try.prog 18 #[.pointer (some ⟨b', 0, none⟩), .int .u64 l[k].n] e.wd fun r w' => r = .returned (.bool (oldB L' l[k].n tk)) ∧ ∃ e' : ExtOf V3, w' = e'.wd) := Lib.hid fun e => calls_ext e (overdue_q (HQ3.out.below e.below) _ HSOK.out.1.1 HSOK.out.1.2)
        have f6 : Hid (∀ e : ExtOf V3, Calls Try.prog 27 #[.pointer (some ⟨r, 0, none⟩), .int .u64 l[k].n] e.wd fun r w' => r = .returned (.bool (oldB L' l[k].n tk)) ∧ ∃ e' : ExtOf V3, w' = e'.wd) := Lib.hid fun e => calls_ext e ((roverdue (HR3.out.below e.below) _ HSOK.out.1.1 HSOK.out.1.2).mono fun _ _ ⟨h1, h2⟩ => ⟨h1, h2 ▸ Below.refl _ _⟩)
        have f7 : Hid (∀ e : ExtOf V3, Calls Try.prog 17 #[.pointer (some ⟨b', 0, none⟩), .int .u64 l[k].n] e.wd fun r w' => r = .returned (.bool (oldB L' l[k].n (2 * tk))) ∧ ∃ e' : ExtOf V3, w' = e'.wd) := Lib.hid fun e => calls_ext e (late_q (HQ3.out.below e.below) _ HSOK.out.1.1 HSOK.out.1.2)
        have f8 : Hid (∀ e : ExtOf V3, Calls Try.prog 28 #[.pointer (some ⟨r, 0, none⟩), .int .u64 l[k].n] e.wd fun r w' => r = .returned (.bool (oldB L' l[k].n (2 * tk))) ∧ ∃ e' : ExtOf V3, w' = e'.wd) := Lib.hid fun e => calls_ext e ((rlate (HR3.out.below e.below) ht0 ht1 _ HSOK.out.1.1 HSOK.out.1.2).mono fun _ _ ⟨h1, h2⟩ => ⟨h1, h2 ▸ Below.refl _ _⟩)
        have hn29 := neq29 (depL L')
        have k1 : ∀ e : ExtOf V3, e.wd.cell? ⟨r, 1, none⟩ = some (.slice RA L'.length rcap) := fun e => e.cell (below_cell2 HVV3.out HC1.out)
        have k2 : ∀ e : ExtOf V3, e.wd.cell? ⟨r, 2, none⟩ = some (.int .i64 put') := fun e => e.cell (below_cell2 HVV3.out HC2.out)
        have k3 : ∀ e : ExtOf V3, e.wd.cell? ⟨sb, off + k * 30 + 28, none⟩ = some (.int .u64 l[k].n) := fun e => e.cell (below_cell2 HVV3.out HNN.out)
        refine wpAnyH_quiet (fun w' => ∃ e : ExtOf V3, w' = e.wd) 13 (by kernel_rfl) (by kernel_rfl) ⟨⟨V3, Below.refl _ _⟩, rfl⟩ (fun _ ⟨e, he⟩ => he ▸ IsExt.of (below_all HVV3.out e.below)) rfl ?_
        simp only [List.append_eq, List.cons_append, List.nil_append, List.drop_succ_cons, List.drop_zero]
        quiet_step (fail)
        quiet_step ((go_at_call 16; exact f1.out _))
        iterate 9 (quiet_step (fail))
        quiet_step ((go_at_call 19; exact f2.out _))
        iterate 8 (quiet_step (fail))
        quiet_step ((go_at_call 25; exact f3.out _))
        quiet_step (fail)
        quiet_step ((go_at_call 26; exact f4.out _))
        iterate 9 (quiet_step (fail))
        quiet_step ((go_at_call 18; exact f5.out _))
        iterate 6 (quiet_step (fail))
        quiet_step ((go_at_call 27; exact f6.out _))
        iterate 9 (quiet_step (fail))
        quiet_step ((go_at_call 17; exact f7.out _))
        iterate 6 (quiet_step (fail))
        quiet_step ((go_at_call 28; exact f8.out _))
        iterate 2 (quiet_step (fail))
        refine wpQuiet_nil ?_
        rintro _ ⟨e, rfl⟩
        clear k1 k2 k3 hn29
        go_wp2_with fail
        go_roundw
        case rel => exact ⟨k + 1, b', L', put', by omega, rfl, by go_num, hb', HQ3.out.below e.below, HR3.out.below e.below, by omega, HBV.out.trans ((below_all HVV3.out e.below).mono HBV.out.size)⟩
        case measure => simp [intOf]; omega
      · go_wp2_with fail
        refine (works_q _).mono ?_
        rintro e w3 ⟨rfl, hb3⟩
        have HB3 := Lib.hid hb3
        clear hb3
        go_wp2_with fail
        go_ret
        exact ⟨rfl, below_all HB.out HB3.out⟩
end Go.Proofs.Ytgkjglpnnehdbaa
