/- Matches, walked. -/
import Derived.Test.YtgkjglpnnehdbaaQ5
namespace Go.Proofs.Ytgkjglpnnehdbaa
open Go.RowKit Go.KK

/-- What Matches answers, from the i-th operation on. -/
def matchGo (L : List EntD) : List OpD → Nat → Nat → Bool → Int × Int × Int
  | [], i, n, _ => (n, 0, i)
  | o :: r, i, n, free =>
    if o.f = false then matchGo L r (i + 1) n true
    else if free = true then (0, 7, i)
    else match L[n]? with
      | none => (0, 241, i)
      | some e => if o.same e.op = true then matchGo L r (i + 1) (n + 1) false else (0, 241, i)
def matchAll (L : List EntD) (ops : List OpD) : Int × Int × Int := matchGo L ops 0 0 false
def MPost (r : Int × Int × Int) (w : World) (e : Ending) (w' : World) : Prop := e = .returned (.tuple #[.int .i64 r.1, .int .i64 r.2.1, .int .i64 r.2.2]) ∧ Below w.heap.size w w'
def opRows (ops : List OpD) : List (List Value) := ops.map OpD.cells

set_option maxHeartbeats 4000000 in
theorem match_q {w : World} {b : Nat} {tk put : Int} {L : List EntD} (hq : QAt w b tk L put) (ops : List OpD) (v : Value) (hv : SlAt w v 27 (opRows ops)) :
    Calls Try.prog 34 #[.pointer (some ⟨b, 0, none⟩), v] w (MPost (matchAll L ops) w) := by
  obtain ⟨A, cap, rfl, hlen, hrows⟩ := hv
  have HM := Lib.hid (made_q hq)
  have HQ := Lib.hid hq
  have hl : (opRows ops).length = ops.length := by simp [opRows]
  rw [hl] at hlen ⊢
  have HR := Lib.hid hrows
  clear hrows hl hq
  go_enter Try.func34, Try.ntmps34
  go_wp2_with (go_at_call 32; refine HM.out.mono ?_; rintro e w' ⟨rfl, rfl⟩)
  go_loopw [7, 8, 16] (fun n f i wr => ∃ (k m : Nat) (free : Bool), k ≤ ops.length ∧ m ≤ k ∧ n = .int .i64 m ∧ f = .bool free ∧ i = .int .i64 k ∧ Below w.heap.size w wr ∧ matchGo L (ops.drop k) k m free = matchAll L ops) (fun _ _ i _ => ops.length - (intOf i).toNat)
  case atStart => exact ⟨0, 0, false, by omega, by omega, rfl, rfl, rfl, Below.refl _ _, rfl⟩
  case round =>
    obtain ⟨k, m, free, hk, hm, rfl, rfl, rfl, hB, hgo⟩ := hrel
    have HG := Lib.hid hgo
    clear hgo
    by_cases hlt : k < ops.length
    · obtain ⟨ob, off, rfl, hr, hob⟩ := HR.out k ops[k].cells (by simp [opRows, hlt])
      have hrr : wr.rangeAt ob (off + k * 27) ops[k].cells := fun j v hv => (hB.cell (World.block_lt_of_cell? w _ (hr j v hv))).trans (hr j v hv)
      have HRR := Lib.hid hrr
      have o25 := ops[k].c25
      clear hr hrr
      have hdrop : ops.drop k = ops[k] :: ops.drop (k + 1) := List.drop_eq_getElem_cons hlt
      have HD := Lib.hid hdrop
      clear hdrop
      have HQW := Lib.hid ((HQ.out.below hB).below ((Below.refl _ _).alloc (Nat.le_refl _) (.cells ops[k].cells.toArray 33)))
      cases hf : ops[k].f with
      | false =>
        rw [hf] at o25
        have HF := Lib.hid hf
        clear hf
        go_wp2_with (first
          | (refine wpList_load_mid rfl 33 _ rfl ob (off + k * 27) rfl ops[k].cells _ HRR.out tu33 rfl ts33 ?_)
          | (refine wpList_store_new rfl 33 _ _ rfl _ ops[k].cells.toArray rfl rfl ts33 rfl (all_oneCell_toArray (OpD.one _)) ?_))
        go_roundw
        case rel => exact ⟨k + 1, m, true, by omega, by omega, rfl, rfl, by go_num, hB.alloc hB.size _, by rw [← HG.out, HD.out, matchGo, if_pos HF.out]⟩
        case measure => simp [intOf]; omega
      | true =>
        rw [hf] at o25
        have HF := Lib.hid hf
        clear hf
        cases free with
        | true =>
          go_wp2_with (first
            | (refine wpList_load_mid rfl 33 _ rfl ob (off + k * 27) rfl ops[k].cells _ HRR.out tu33 rfl ts33 ?_)
            | (refine wpList_store_new rfl 33 _ _ rfl _ ops[k].cells.toArray rfl rfl ts33 rfl (all_oneCell_toArray (OpD.one _)) ?_))
          go_ret3
          exact ⟨by rw [← HG.out, HD.out, matchGo, if_neg (by rw [HF.out]; decide), if_pos rfl]; rfl, hB.alloc hB.size _⟩
        | false =>
          go_wp2_with (first
            | (refine wpList_load_mid rfl 33 _ rfl ob (off + k * 27) rfl ops[k].cells _ HRR.out tu33 rfl ts33 ?_)
            | (refine wpList_store_new rfl 33 _ _ rfl _ ops[k].cells.toArray rfl rfl ts33 rfl (all_oneCell_toArray (OpD.one _)) ?_))
          have hWn : ∀ e : ExtOf (wr.alloc (.cells ops[k].cells.toArray 33)), e.wd.cell? ⟨b, 7170, none⟩ = some (.int .i64 L.length) := fun e => (HQW.out.below e.below).cn
          have hWo := block_new wr (.cells ops[k].cells.toArray 33)
          have hWB := hB.alloc hB.size (.cells ops[k].cells.toArray 33)
          generalize wr.alloc (.cells ops[k].cells.toArray 33) = W at *
          have HWO := Lib.hid hWo
          clear hWo
          by_cases hml : m < L.length
          · have hge : ¬ L.length ≤ m := by omega
            have hx : L[m]? = some L[m] := List.getElem?_eq_getElem hml
            have HA : Hid (∀ e : ExtOf W, Calls Try.prog 33 #[.pointer (some ⟨b, 0, none⟩), .int .i64 m] e.wd fun r w' => r = .returned (.agg L[m].cells.toArray) ∧ ∃ e' : ExtOf W, w' = e'.wd) :=
              Lib.hid fun e => calls_ext e (at_q (HQW.out.below e.below) m (by omega) L[m] (by simp))
            have HS : Hid (∀ e : ExtOf W, Calls Try.prog 9 #[.agg ops[k].cells.toArray, .agg L[m].op.cells.toArray] e.wd fun r w' => r = .returned (.bool (ops[k].same L[m].op)) ∧ ∃ e' : ExtOf W, w' = e'.wd) :=
              Lib.hid fun e => calls_ext e (same_q _ _ _)
            have hfo := field_op L[m]
            have HX := Lib.hid hx
            clear hx
            refine wp_region_ext (by kernel_rfl) (by kernel_rfl) ?_
            iterate 7 (quiet_step (fail))
            refine wpQuiet_load_extg rfl 33 _ rfl wr.heap.size 0 rfl ops[k].cells _ (fun e => range_block (e.block HWO.out)) tu33 rfl ts33 ?_
            iterate 2 (quiet_step (fail))
            quiet_step ((go_at_call 33; exact HA.out _))
            quiet_step (fail)
            quiet_step ((go_at_call 9; exact HS.out _))
            iterate 3 (quiet_step (fail))
            refine wpQuiet_nil ?_
            rintro _ ⟨e, rfl⟩
            have hBe := below_all hWB e.below
            cases hs : ops[k].same L[m].op with
            | true =>
              have HSS := Lib.hid hs
              clear hs
              go_wp2_with fail
              go_roundw
              case rel => exact ⟨k + 1, m + 1, false, by omega, by omega, by go_num, rfl, by go_num, hBe, by rw [← HG.out, HD.out, matchGo, if_neg (by rw [HF.out]; decide), if_neg (by decide), HX.out]; simp only [HSS.out, if_true]⟩
              case measure => simp [intOf]; omega
            | false =>
              have HSS := Lib.hid hs
              clear hs
              go_wp2_with fail
              go_ret3
              exact ⟨by rw [← HG.out, HD.out, matchGo, if_neg (by rw [HF.out]; decide), if_neg (by decide), HX.out]; simp [HSS.out], hBe⟩
          · have hge : L.length ≤ m := by omega
            have hx : L[m]? = none := List.getElem?_eq_none hge
            have HX := Lib.hid hx
            clear hx
            refine wp_region_ext (by kernel_rfl) (by kernel_rfl) ?_
            iterate 16 (quiet_step (fail))
            refine wpQuiet_nil ?_
            rintro _ ⟨e, rfl⟩
            have hBe := below_all hWB e.below
            go_wp2_with fail
            go_ret3
            exact ⟨by rw [← HG.out, HD.out, matchGo, if_neg (by rw [HF.out]; decide), if_neg (by decide), HX.out]; rfl, hBe⟩
    · have hkk : k = ops.length := by omega
      subst hkk
      clear HR
      go_wp2_with fail
      go_ret3
      exact ⟨by rw [← HG.out, List.drop_length]; rfl, hB⟩

end Go.Proofs.Ytgkjglpnnehdbaa
