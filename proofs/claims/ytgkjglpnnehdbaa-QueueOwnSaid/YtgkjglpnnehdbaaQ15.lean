/- QueueRefuses, walked. -/
import Derived.Test.YtgkjglpnnehdbaaQ13
set_option linter.unusedVariables false
set_option linter.unusedSimpArgs false
namespace Go.Proofs.Ytgkjglpnnehdbaa
open Go.RowKit Go.KK

theorem fl46 : fl (Try.prog.fieldsOf 46) = [(false, 33, 0), (false, 24, 27)] := by kernel_rfl
theorem st46 : Try.prog.stoodInHeld 46 = false := by kernel_rfl
def EntD.eqv (a b : EntD) : Bool := a.op.eqv b.op && a.at_ == b.at_
theorem EntD.eqv_refl (a : EntD) : a.eqv a = true := by simp [EntD.eqv, OpD.eqv_refl]
theorem part46 (e : EntD) (w : World) : (part 33 e.cells.toArray 0).run Try.prog w = .ok (.agg e.op.cells.toArray) w := by
  rw [part_row tu33 rfl ts33, show e.cells.toArray.extract 0 (0 + 27) = e.op.cells.toArray from by simp [e.take]]
theorem eq46 (d : Nat) (a b : EntD) (w : World) : (Op.equalIn (d + 6) 46 (.agg a.cells.toArray) (.agg b.cells.toArray)).run Try.prog w = .ok (a.eqv b) w :=
  equal_struct (d + 5) 46 _ _ _ _ tu46 st46 fl46 (eqF_cons (part46 a w) (part46 b w) (eq33 d a.op b.op w)
    (eqF_one (part_cell tu24 rfl (by simpa using a.c27)) (part_cell tu24 rfl (by simpa using b.c27)) (eqInt (d + 4) 24 .u64 a.at_ b.at_ w tu24)))
theorem neq46 (a b : EntD) (w : World) : (binOp .neq 46 (.agg a.cells.toArray) (.agg b.cells.toArray)).run Try.prog w = .ok (.bool (!(a.eqv b))) w := by
  rw [run_neq_struct, eq46 9994]; rfl

set_option maxRecDepth 100000 in
set_option maxHeartbeats 4000000 in
theorem QueueRefuses_walk (tk : Int) (l : List StepD) (v : Value) (s : StepD) (w : World) (hv : StepsAt w v l) (hs : s.OK w) :
    Calls Try.prog 6 #[.int .u64 tk, v, .agg s.cells.toArray] w fun e w' => e = .returned (.bool true) ∧ Below w.heap.size w w' := by
  have HV : Hid (∀ W, Below w.heap.size w W → StepsAt W v l) := Lib.hid fun W hb => hv.below hb
  have HS := Lib.hid hs
  obtain ⟨⟨hn0, hn1⟩, ⟨ha0, ha1⟩, _⟩ := hs
  clear hv
  have hA := (Below.refl w.heap.size w).alloc (Nat.le_refl _) (.cells s.cells.toArray 54)
  have hO := block_new w (.cells s.cells.toArray 54)
  have HA := Lib.hid hA
  have HO := Lib.hid hO
  clear hA hO
  by_cases ht : tk < 1 ∨ 4294967296 < tk
  · have HT := Lib.hid ht
    clear ht
    go_enter Try.func6, Try.ntmps6
    go_wp2_with fail
    refine (works_q _).mono ?_
    rintro e w1 ⟨rfl, hb1⟩
    go_wp2_with fail
    refine (laid_no tk _ w1 HT.out).mono ?_
    rintro e w2 ⟨rfl, rfl⟩
    go_wp2_with fail
    go_ret
    exact ⟨rfl, below_all HA.out hb1⟩
  · have ht0 : 1 ≤ tk := by omega
    have ht1 : tk ≤ 4294967296 := by omega
    clear ht
    go_enter Try.func6, Try.ntmps6
    go_wp2_with fail
    refine (works_q _).mono ?_
    rintro e w1 ⟨rfl, hb1⟩
    have hB1 := below_all HA.out hb1
    have hO1 := block_below HO.out hb1
    go_wp2_with fail
    refine (laid_ok tk l _ w1 ht0 ht1 (HV.out _ hB1)).mono ?_
    rintro e w2 ⟨rfl, hq2, hb2⟩
    have hB2 := below_all hB1 hb2
    have hO2 := block_below hO1 hb2
    have hBs : w.heap.size ≤ w1.heap.size := hB1.size
    have hlp := laidL_len l
    generalize (laidL l).1 = L at *
    generalize (laidL l).2 = put at *
    have hput : put ≤ 4611686018427387904 := by have := hq2.len; omega
    have hput0 : 0 ≤ put := by obtain ⟨_, _, _, h⟩ := hq2; exact h.put0
    have HQ2 := Lib.hid hq2
    have HB2 := Lib.hid hB2
    have HO2 := Lib.hid hO2
    have hne : w.heap.size ≠ w1.heap.size := by have := block_lt hO1; omega
    clear hq2 hB2 hO2 hb1 hb2 hB1 hO1 hlp
    go_wp2_with fail
    refine (entries_q HQ2.out).mono ?_
    rintro e w3 ⟨av, rfl, hown, hb3⟩
    have HQ3 := Lib.hid (HQ2.out.below hb3)
    have HB3 := Lib.hid (below_all HB2.out hb3)
    have HO3 := Lib.hid (block_below HO2.out hb3)
    have HOW := Lib.hid hown
    have hgt : w2.heap.size > w1.heap.size := HQ2.out.lt
    clear hown hb3
    obtain ⟨A, cap, hav, _, hrows⟩ := own_sl HOW.out (entRows_length L) (entRows_all L)
    have HRW := Lib.hid hrows
    clear hrows
    rw [hav] at HOW ⊢
    clear hav
    rw [entRows_length] at HOW ⊢
    have hov : w3.cell? ⟨w.heap.size, 29, none⟩ = some s.ov := by rw [cell_of_row _ _ 29 _ 54 _ HO3.out]; rfl
    go_wp2_with (go_at_call 19; refine (put0_q HQ3.out).mono ?_; rintro e w' ⟨rfl, rfl⟩)
    have hsl := (HS.out.below HB3.out).2.2
    rcases take_q HQ3.out s.ops s.ov hsl with ⟨m, hm, hm1, hm2, hc⟩ | ⟨he, hc⟩
    · have HC := Lib.hid hc
      clear hc hsl hov hm hm1 hm2
      refine HC.out.mono ?_
      rintro r w4 ⟨rfl, hq4, hg4⟩
      generalize L.drop m = M at hq4
      have HQ := Lib.hid hq4
      have hMl := HQ.out.len
      have hO4 := block_grown HO3.out hg4 (fun e => hne (Option.some.inj e))
      have hB4 := below_grown HB3.out HB3.out.size hg4 (by rintro _ ⟨rfl⟩; exact hBs)
      have HB := Lib.hid hB4
      have HOP : Hid (w4.rangeAt w.heap.size 1 s.op.cells) := Lib.hid (by simpa using StepD.rop (range_block hO4))
      have hN : w4.cell? ⟨w.heap.size, 28, none⟩ = some (.int .u64 s.n) := by rw [cell_of_row _ _ 28 _ 54 _ hO4]; rfl
      clear hq4 hg4 hO4 hB4
      go_wp2_with (first
        | (go_at_call 16; refine (len_q HQ.out).mono ?_; rintro e w' ⟨rfl, rfl⟩)
        | ((with_reducible refine g_load 33 ?_); refine wpList_load_mid rfl 33 _ rfl w.heap.size 1 rfl s.op.cells _ HOP.out tu33 rfl ts33 ?_))
      rcases put_any HQ.out s.op s.n hn0 hn1 ha0 ha1 hput with ⟨he, hc⟩ | ⟨he, hc⟩
      · have HE := Lib.hid he
        have HC := Lib.hid hc
        clear he hc
        refine HC.out.mono ?_
        rintro r w9 ⟨rfl, hq9, hg9⟩
        have HQ9 := Lib.hid hq9
        have HB9 := Lib.hid (below_grown HB.out HB.out.size hg9 (by rintro _ ⟨rfl⟩; exact hBs))
        clear hq9 hg9
        go_wp2_with (first
          | (go_at_call 16; refine (len_q HQ9.out).mono ?_; rintro e w' ⟨rfl, rfl⟩)
          | (go_at_call 19; refine (put0_q HQ9.out).mono ?_; rintro e w' ⟨rfl, rfl⟩))
        go_ret
        exact ⟨rfl, HB9.out⟩
      · have hne : (putErr M s.op s.n == 0) = false := by simpa using he
        have HC := Lib.hid hc
        clear he hc
        refine HC.out.mono ?_
        rintro r w9 ⟨rfl, hb9⟩
        have HQ9 := Lib.hid (HQ.out.below hb9)
        have HB9 := Lib.hid (below_all HB.out hb9)
        clear hb9
        go_wp2_with (first
          | (go_at_call 16; refine (len_q HQ9.out).mono ?_; rintro e w' ⟨rfl, rfl⟩)
          | (go_at_call 19; refine (put0_q HQ9.out).mono ?_; rintro e w' ⟨rfl, rfl⟩))
        go_ret
        exact ⟨rfl, HB9.out⟩
    · have HC := Lib.hid hc
      have hne2 : ((matchAll L s.ops).2.1 == 0) = false := by simpa using he
      clear hc hsl hov he
      refine HC.out.mono ?_
      rintro r w4 ⟨rfl, hb4⟩
      have HQ4 := Lib.hid (HQ3.out.below hb4)
      have HB4 := Lib.hid (below_all HB3.out hb4)
      have HO4 := Lib.hid (block_below HO3.out hb4)
      go_wp2_with fail
      refine (entries_q HQ4.out).mono ?_
      rintro e w5 ⟨rv, rfl, hown5, hb5⟩
      have HQ5 := Lib.hid (HQ4.out.below hb5)
      have HB5 := Lib.hid (below_all HB4.out hb5)
      have HO5 := Lib.hid (block_below HO4.out hb5)
      have HB35 := Lib.hid (below_all hb4 hb5)
      obtain ⟨A5, cap5, hrv, _, hrows5⟩ := own_sl hown5 (entRows_length L) (entRows_all L)
      have HRW5 := Lib.hid hrows5
      rw [hrv]
      rw [entRows_length]
      clear hrows5 hown5 hrv hb4 hb5
      have hlen5 := HQ5.out.len
      go_wp2_with fail
      go_loopw [14] (fun i wr => ∃ k : Nat, k ≤ L.length ∧ i = .int .i64 k ∧ Below w5.heap.size w5 wr) (fun i _ => L.length - (intOf i).toNat)
      case atStart => exact ⟨0, by omega, rfl, Below.refl _ _⟩
      case round =>
        obtain ⟨k, hk, rfl, hBr⟩ := hrel
        by_cases hlt : k < L.length
        · have hx : L[k]? = some L[k] := List.getElem?_eq_getElem hlt
          obtain ⟨sb, off, rfl, hr, hsb⟩ := HRW.out k L[k].cells (entRows_get hx)
          obtain ⟨sb5, off5, rfl, hr5, hsb5⟩ := HRW5.out k L[k].cells (entRows_get hx)
          have HR1 : Hid (∀ e : ExtOf wr, e.wd.rangeAt sb (off + k * 28) L[k].cells) := Lib.hid fun e => e.range fun j v hv => (hBr.cell (Nat.lt_of_lt_of_le hsb HB35.out.size)).trans ((HB35.out.cell (by exact hsb)).trans (hr j v hv))
          have HR2 : Hid (∀ e : ExtOf wr, e.wd.rangeAt sb5 (off5 + k * 28) L[k].cells) := Lib.hid fun e => e.range fun j v hv => (hBr.cell (by exact hsb5)).trans (hr5 j v hv)
          have hnq := neq46 L[k] L[k]
          have hrf := L[k].eqv_refl
          have HBR := Lib.hid hBr
          clear hr hr5 hx hBr
          go_wp2_with fail
          refine wp_region_ext (by kernel_rfl) (by kernel_rfl) ?_
          iterate 3 (quiet_step (fail))
          refine wpQuiet_load_ext rfl 46 _ rfl sb5 (off5 + k * 28) rfl L[k].cells _ HR2.out tu46 rfl ts46 ?_
          iterate 3 (quiet_step (fail))
          refine wpQuiet_load_ext rfl 46 _ rfl sb (off + k * 28) rfl L[k].cells _ HR1.out tu46 rfl ts46 ?_
          quiet_step (fail)
          refine wpQuiet_nil ?_
          rintro _ ⟨e, rfl⟩
          go_wp2_with fail
          go_roundw
          case rel => exact ⟨k + 1, by omega, by go_num, below_all HBR.out e.below⟩
          case measure => simp [intOf]; omega
        · have HQ := Lib.hid (HQ5.out.below hBr)
          have hO6 := block_below HO5.out hBr
          have HB := Lib.hid (below_all HB5.out hBr)
          have HOP : Hid (wr.rangeAt w.heap.size 1 s.op.cells) := Lib.hid (by simpa using StepD.rop (range_block hO6))
          have hN : wr.cell? ⟨w.heap.size, 28, none⟩ = some (.int .u64 s.n) := by rw [cell_of_row _ _ 28 _ 54 _ hO6]; rfl
          clear hBr hO6
          go_wp2_with (first
            | (go_at_call 16; refine (len_q HQ.out).mono ?_; rintro e w' ⟨rfl, rfl⟩)
            | ((with_reducible refine g_load 33 ?_); refine wpList_load_mid rfl 33 _ rfl w.heap.size 1 rfl s.op.cells _ HOP.out tu33 rfl ts33 ?_))
          rcases put_any HQ.out s.op s.n hn0 hn1 ha0 ha1 hput with ⟨he, hc⟩ | ⟨he, hc⟩
          · have HE := Lib.hid he
            have HC := Lib.hid hc
            clear he hc
            refine HC.out.mono ?_
            rintro r w9 ⟨rfl, hq9, hg9⟩
            have HQ9 := Lib.hid hq9
            have HB9 := Lib.hid (below_grown HB.out HB.out.size hg9 (by rintro _ ⟨rfl⟩; exact hBs))
            clear hq9 hg9
            go_wp2_with (first
              | (go_at_call 16; refine (len_q HQ9.out).mono ?_; rintro e w' ⟨rfl, rfl⟩)
              | (go_at_call 19; refine (put0_q HQ9.out).mono ?_; rintro e w' ⟨rfl, rfl⟩))
            go_ret
            exact ⟨rfl, HB9.out⟩
          · have hne : (putErr L s.op s.n == 0) = false := by simpa using he
            have HC := Lib.hid hc
            clear he hc
            refine HC.out.mono ?_
            rintro r w9 ⟨rfl, hb9⟩
            have HQ9 := Lib.hid (HQ.out.below hb9)
            have HB9 := Lib.hid (below_all HB.out hb9)
            clear hb9
            go_wp2_with (first
              | (go_at_call 16; refine (len_q HQ9.out).mono ?_; rintro e w' ⟨rfl, rfl⟩)
              | (go_at_call 19; refine (put0_q HQ9.out).mono ?_; rintro e w' ⟨rfl, rfl⟩))
            go_ret
            exact ⟨rfl, HB9.out⟩

end Go.Proofs.Ytgkjglpnnehdbaa
