/- What a queue that no call made answers, all of it (nothing), walked. -/
import Derived.Test.YtgkjglpnnehdbaaQ34
set_option linter.unusedVariables false
namespace Go.Proofs.Ytgkjglpnnehdbaa
open Go.RowKit Go.KK

set_option maxHeartbeats 400000 in
theorem un_overdue {qv : Value} {w : World} (h : UnMade qv w) (now : Int) : Calls Try.prog 18 #[qv, .int .u64 now] w fun e w' => e = .returned (.bool false) ∧ Below w.heap.size w w' := by
  have HM := Lib.hid (h w (Below.refl _ _))
  clear h
  go_enter Try.func18, Try.ntmps18
  go_wp2_with (go_at_call 32; refine HM.out.mono ?_; rintro e w' ⟨rfl, rfl⟩)
  go_ret
  exact ⟨rfl, Below.refl _ _⟩
set_option maxHeartbeats 400000 in
theorem un_late {qv : Value} {w : World} (h : UnMade qv w) (now : Int) : Calls Try.prog 17 #[qv, .int .u64 now] w fun e w' => e = .returned (.bool false) ∧ Below w.heap.size w w' := by
  have HM := Lib.hid (h w (Below.refl _ _))
  clear h
  go_enter Try.func17, Try.ntmps17
  go_wp2_with (go_at_call 32; refine HM.out.mono ?_; rintro e w' ⟨rfl, rfl⟩)
  go_ret
  exact ⟨rfl, Below.refl _ _⟩
set_option maxHeartbeats 400000 in
theorem un_clear {qv : Value} {w : World} (h : UnMade qv w) : Calls Try.prog 31 #[qv] w fun e w' => e = .returned (.slice none 0 0) ∧ Below w.heap.size w w' := by
  have HE := Lib.hid (un_entries h)
  have HM : Hid (∀ W, Below w.heap.size w W → Calls Try.prog 32 #[qv] W fun e w' => e = .returned (.bool false) ∧ W = w') := Lib.hid h
  clear h
  go_enter Try.func31, Try.ntmps31
  go_wp2_with fail
  go_at_call 14
  refine HE.out.mono ?_
  rintro e W ⟨rfl, hW⟩
  have HW := Lib.hid hW
  clear hW
  go_wp2_with (go_at_call 32; refine (HM.out _ HW.out).mono ?_; rintro e w' ⟨rfl, rfl⟩)
  go_ret
  exact ⟨rfl, HW.out⟩
set_option maxHeartbeats 1000000 in
theorem un_deposits {qv : Value} {w : World} (h : UnMade qv w) : Calls Try.prog 25 #[qv] w fun e w' => e = .returned (.agg (wordC fun _ => 0)) ∧ Below w.heap.size w w' := by
  obtain ⟨h1, h2, h3, h4⟩ := alloc2 w (.cells (wordC fun _ => 0) 29) (.cells (wordC fun _ => 0) 29)
  have HE := Lib.hid (un_entries (h.below h1))
  have H := Lib.hid (And.intro h1 (And.intro h2 (And.intro h3 h4)))
  clear h1 h2 h3 h4 h
  go_enter Try.func25, Try.ntmps25
  go_wp2_with fail
  go_at_call 14
  refine HE.out.mono ?_
  rintro e V ⟨rfl, hV⟩
  obtain ⟨h1, h2, h3, h4⟩ := H.out
  have H3 := Lib.hid (block_below h3 hV)
  have H4 := Lib.hid (block_below h4 hV)
  have HB := Lib.hid (below_all h1 hV)
  clear h1 h2 h3 h4 hV HE H
  go_wp2_with fail
  go_loopw [9] (fun i wr => i = .int .i64 0 ∧ wr = V) (fun i _ => 0)
  case atStart => exact ⟨rfl, rfl⟩
  case round =>
    obtain ⟨rfl, rfl⟩ := hrel
    have hs : ∀ j, j < 4 → wr.cell? ⟨w.heap.size + 1, j, none⟩ = some (.int .u64 0) := fun j hj => by
      rw [cell_of_row wr _ j _ 29 _ H4.out, wordC_get _ j hj]
    have s0 := hs 0 (by omega)
    have s1 := hs 1 (by omega)
    have s2 := hs 2 (by omega)
    have s3 := hs 3 (by omega)
    have hth : wr.there w.heap.size 0 (wordC fun _ => 0).size := there_block H3.out 0 4 (by simp [wordC])
    have HTH := Lib.hid hth
    clear hs hth
    go_wp2_with ((with_reducible refine g_store 29 ?_); refine wpList_store_mid rfl 29 _ _ rfl w.heap.size 0 (wordC fun _ => 0) rfl rfl HTH.out ts29 (wordC_one _) ?_)
    have g1 := setCells_whole (new := wordC fun _ => 0) H3.out rfl
    exact bodyPost_ret (results_cell_row rfl _ _ w.heap.size 29 (wordC fun _ => 0) (0, 0) _ rfl g1 tu29 rfl ts29) rfl ⟨rfl, below_grown HB.out HB.out.size (setCells_grown _ _) (by rintro _ ⟨rfl⟩; omega)⟩
/-- The operation that nobody filled. -/
def op00 : OpD := { x := fun _ => 0, f := false, v := false }
theorem build33z (w : World) : (Instr.build 33 #[]).run Try.prog w = .ok (.agg op00.cells.toArray) w := by kernel_rfl
theorem eq29z (w : World) : (binOp .eql 29 (.agg (wordC fun _ => 0)) (.agg #[.int .u64 0, .int .u64 0, .int .u64 0, .int .u64 0])).run Try.prog w = .ok (.bool true) w := by
  rw [run_eql_struct]
  have h := eq_arr4 (P := Try.prog) (w := w) (t := 29) (e := 24) (k := .u64) tu29 tu24 (by kernel_rfl) 9998 0 0 0 0 0 0 0 0
  unfold wordC
  rw [h]
  simp [Result.andThen]
theorem build29z (w : World) : (Instr.build 29 #[]).run Try.prog w = .ok (.agg (wordC fun _ => 0)) w := by kernel_rfl
set_option maxRecDepth 100000 in
set_option maxHeartbeats 4000000 in
theorem nothing_p {qv : Value} {w : World} (h : UnMade qv w) : Calls Try.prog 29 #[qv] w fun e w' => e = .returned (.bool true) ∧ Below w.heap.size w w' := by
  have HU := Lib.hid h
  have hz := eq29z
  clear h
  go_enter Try.func29, Try.ntmps29
  go_wp2_with (first
    | ((with_reducible refine g_build 33 ?_); refine wpList_build0 rfl 33 rfl _ (build33z _) ?_)
    | (go_at_call 20; refine (un_put HU.out op00 0).mono ?_; rintro _ w1 ⟨rfl, h1⟩; have U1 := Lib.hid (HU.out.below h1))
    | (go_at_call 34; refine (un_match U1.out _).mono ?_; rintro _ w2 ⟨rfl, h2⟩; have U2 := Lib.hid (U1.out.below h2))
    | (go_at_call 15; refine (un_take U2.out _).mono ?_; rintro _ w3 ⟨rfl, h3⟩; have U3 := Lib.hid (U2.out.below h3))
    | (go_at_call 14; refine (un_entries U3.out).mono ?_; rintro _ w4 ⟨rfl, h4⟩; have U4 := Lib.hid (U3.out.below h4))
    | (go_at_call 16; refine (un_len U4.out).mono ?_; rintro _ w5 ⟨rfl, h5⟩; have U5 := Lib.hid (U4.out.below h5))
    | (go_at_call 19; refine (un_put0 U5.out).mono ?_; rintro _ w6 ⟨rfl, h6⟩; have U6 := Lib.hid (U5.out.below h6))
    | (go_at_call 18; refine (un_overdue U6.out _).mono ?_; rintro _ w7 ⟨rfl, h7⟩; have U7 := Lib.hid (U6.out.below h7))
    | (go_at_call 17; refine (un_late U7.out _).mono ?_; rintro _ w8 ⟨rfl, h8⟩; have U8 := Lib.hid (U7.out.below h8))
    | (go_at_call 31; refine (un_clear U8.out).mono ?_; rintro _ w9 ⟨rfl, h9⟩; have U9 := Lib.hid (U8.out.below h9))
    | (go_at_call 25; refine (un_deposits U9.out).mono ?_; rintro _ w10 ⟨rfl, h10⟩; have U10 := Lib.hid (U9.out.below h10))
    | (go_at_call 30; refine (un_copy U10.out).mono ?_; rintro _ w11 ⟨rfl, h11⟩))
  go_ret
  exact ⟨rfl, below_all h1 (below_all h2 (below_all h3 (below_all h4 (below_all h5 (below_all h6 (below_all h7 (below_all h8 (below_all h9 (below_all h10 h11)))))))))⟩
end Go.Proofs.Ytgkjglpnnehdbaa
