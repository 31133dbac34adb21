/- One step of QueuePlays, walked: what comes ahead of the switch. -/
import Derived.Test.YtgkjglpnnehdbaaQ30
import Derived.Deep.CutRange
set_option linter.unusedVariables false
namespace Go.Proofs.Ytgkjglpnnehdbaa
open Go.RowKit Go.KK

theorem tu54' : Try.prog.underlying 54 = some (.struct (Try.prog.fieldsOf 54)) := by kernel_rfl
theorem ts54 : (Try.prog.info? 54).map (·.size) = some 30 := by kernel_rfl
theorem opRows_one (l : List OpD) : ∀ r ∈ opRows l, ∀ u ∈ r, u.oneCell' = true := fun r hr u hu => by
  obtain ⟨o, _, rfl⟩ := List.mem_map.1 hr; exact o.one u hu
theorem QAt.p0 {w : World} {b : Nat} {tk put : Int} {L : List EntD} (h : QAt w b tk L put) : 0 ≤ put := by obtain ⟨c, fr, _, hc⟩ := h; exact hc.put0
theorem QAt.tk0 {w : World} {b : Nat} {tk put : Int} {L : List EntD} (h : QAt w b tk L put) : 1 ≤ tk := by obtain ⟨c, fr, _, hc⟩ := h; exact hc.tk0
theorem QAt.tk1 {w : World} {b : Nat} {tk put : Int} {L : List EntD} (h : QAt w b tk L put) : tk ≤ 4294967296 := by obtain ⟨c, fr, _, hc⟩ := h; exact hc.tk1
/-- Take, whatever it is given. -/
theorem take_u {w : World} {b : Nat} {tk put : Int} {L : List EntD} (hq : QAt w b tk L put) (ops : List OpD) (v : Value) (hv : SlAt w v 27 (opRows ops)) :
    Calls Try.prog 15 #[.pointer (some ⟨b, 0, none⟩), v] w fun e w' => e = .returned (.tuple #[.int .i64 (matchAll L ops).1, .int .i64 (matchAll L ops).2.1, .int .i64 (matchAll L ops).2.2]) ∧ w.grownBy w' (some b) ∧ QAt w' b tk (takenL L ops) put := by
  unfold takenL
  rcases take_q hq ops v hv with ⟨m, hm, h1, h2, hc⟩ | ⟨hn, hc⟩
  · refine hc.mono ?_
    rintro e w' ⟨rfl, hq', hg⟩
    rw [h1, h2, if_pos rfl]
    exact ⟨rfl, hg, by simpa using hq'⟩
  · refine hc.mono ?_
    rintro e w' ⟨rfl, hb⟩
    rw [if_neg hn]
    have h0 : (matchAll L ops).1 = 0 := matchGo_no L ops 0 0 false hn
    rw [h0]
    exact ⟨rfl, grown_of_below hb _, hq.below hb⟩
/-- A slice that is read in each world that holds the blocks, but for block b, as w does. -/
def SlOff (b : Nat) (w : World) (v : Value) (sz : Nat) (rows : List (List Value)) : Prop := ∀ X : World, (∀ i, i < w.heap.size → i ≠ b → X.heap[i]? = w.heap[i]?) → SlAt X v sz rows
theorem SlOff.here {b : Nat} {w : World} {v : Value} {sz : Nat} {rows : List (List Value)} (h : SlOff b w v sz rows) : SlAt w v sz rows := h w fun _ _ _ => rfl
theorem SlOff.below {b : Nat} {w w' : World} {v : Value} {sz : Nat} {rows : List (List Value)} (h : SlOff b w v sz rows) (hb : Below w.heap.size w w') : SlOff b w' v sz rows :=
  fun X hX => h X fun i hi hne => (hX i (Nat.lt_of_lt_of_le hi hb.size) hne).trans (hb.block i hi)
theorem SlOff.grown {b : Nat} {w w' : World} {v : Value} {sz : Nat} {rows : List (List Value)} (h : SlOff b w v sz rows) (hg : w.grownBy w' (some b)) : SlOff b w' v sz rows :=
  fun X hX => h X fun i hi hne => (hX i (Nat.lt_of_lt_of_le hi hg.size) hne).trans (hg.block i hi fun e => hne (Option.some.inj e))
theorem SlAt.off {b : Nat} {w0 w : World} {v : Value} {sz : Nat} {rows : List (List Value)} (h : SlAt w0 v sz rows) (hb : w0.heap.size ≤ b) (hw : Below w0.heap.size w0 w) : SlOff b w v sz rows := by
  intro X hX
  obtain ⟨A, cap, h1, h2, h3⟩ := h
  refine ⟨A, cap, h1, h2, fun i r hi => ?_⟩
  obtain ⟨g, off, ha, hr, hl⟩ := h3 i r hi
  have e : X.heap[g]? = w0.heap[g]? := (hX g (Nat.lt_of_lt_of_le hl hw.size) (by omega)).trans (hw.block g hl)
  have hgX : g < X.heap.size := by
    rw [Array.getElem?_eq_getElem hl] at e
    exact (Array.getElem?_eq_some_iff.1 e).1
  exact ⟨g, off, ha, fun j u hu => (World.cell?_of_block (w := w0) (w' := X) e).trans (hr j u hu), hgX⟩
theorem SOwn.off {b B : Nat} {w : World} {e : TypeId} {sz : Nat} {v : Value} {n : Nat} {rows : List (List Value)} (h : SOwn w B e sz v n rows.flatten) (hn : rows.length = n) (hl : ∀ r ∈ rows, r.length = sz) (hb : b < B) : SlOff b w v sz rows := by
  intro X hX
  exact (h.keep (w' := X) fun g cur hg hB => hX g (block_lt hg) (by omega)).sl hn hl
/-- Behind region 4: what is taken, and a copy of it. -/
def Does4 (b : Nat) (s : StepD) (w : World) (p : Value) (wx : World) : Prop :=
  ∃ O : List OpD, SlOff b wx p 27 (opRows O) ∧ O.length ≤ s.ops.length + 3 ∧ Below w.heap.size w wx ∧ wx.heap[w.heap.size]? = some (.cells s.cells.toArray 54 (0, 0))
/-- What a step leaves. -/
def DoesPost (B : Nat) (r : Nat) (tk put : Int) (w : World) (e : Ending) (w' : World) : Prop :=
  ∃ b' L' put', e = .returned (.tuple #[.pointer (some ⟨b', 0, none⟩), .bool true]) ∧ B ≤ b' ∧ QAt w' b' tk L' put' ∧ RAt B w' r tk L' put' ∧ put' ≤ put + 1 ∧ Below B w w'
set_option maxRecDepth 100000 in
set_option maxHeartbeats 4000000 in
theorem does_p {B b r : Nat} {w : World} {tk put : Int} {L : List EntD} (hb : B ≤ b) (hq : QAt w b tk L put) (hr : RAt B w r tk L put) (hp : put ≤ 4611686018427387904) (s : StepD) (w0 : World) (hwb : w0.heap.size ≤ b) (hw0 : Below w0.heap.size w0 w) (hs : s.OK w0) (hsm : (s.ops.length + 3) * 200 ≤ 140737488355328) :
    Calls Try.prog 23 #[.pointer (some ⟨b, 0, none⟩), .pointer (some ⟨r, 0, none⟩), .agg s.cells.toArray] w (DoesPost B r tk put w) := by
  have HQ := Lib.hid hq
  have HR := Lib.hid hr
  have HB := Lib.hid hb
  have HS := Lib.hid hs
  have HSM := Lib.hid hsm
  have HW0 := Lib.hid hw0
  have HWB := Lib.hid hwb
  have hbw : b < w.heap.size := hq.lt
  have HBL := Lib.hid hbw
  have h0w : w0.heap.size ≤ w.heap.size := hw0.size
  have H0W := Lib.hid h0w
  have hW1 := (Below.refl w.heap.size w).alloc (Nat.le_refl _) (.cells s.cells.toArray 54)
  have hWo := block_new w (.cells s.cells.toArray 54)
  have HW1 := Lib.hid hW1
  have HWO := Lib.hid hWo
  have c2 : s.cells[28]? = some (.int .u64 s.n) := rfl
  have c3 : s.cells[29]? = some s.ov := rfl
  clear hq hr hb hs hsm hW1 hWo hw0 hwb hbw h0w
  go_enter Try.func23, Try.ntmps23
  go_upto_if 31 with (first
    | ((with_reducible refine g_load 54 ?_); refine wpList_load_row rfl 54 _ rfl w.heap.size rfl 54 s.cells.toArray (0, 0) _ HWO.out tu54' rfl ts54 ?_)
    | (go_at_call 36; refine (kind_p s _).mono ?_; rintro e w1 ⟨rfl, hb1⟩))
  have hW2 := below_all HW1.out hb1
  have hWo2 := block_below HWO.out hb1
  have HW2 := Lib.hid hW2
  have HWO2 := Lib.hid hWo2
  clear hb1 hW2 hWo2
  go_cut [8] from 29 to 38 (fun p wx => Does4 b s w p wx)
  case first =>
    by_cases hk : kindI s.what = 3
    · have h28 : ∀ e : ExtOf w1, e.wd.cell? ⟨w.heap.size, 28, none⟩ = some (.int .u64 s.n) := fun e => by rw [cell_of_row _ _ _ _ _ _ (e.block HWO2.out)]; simpa using c2
      have h29 : ∀ e : ExtOf w1, e.wd.cell? ⟨w.heap.size, 29, none⟩ = some s.ov := fun e => by rw [cell_of_row _ _ _ _ _ _ (e.block HWO2.out)]; simpa using c3
      clear c2 c3
      go_wp2_with fail
      refine wp_region_headany (fun w' => ∃ e : ExtOf w1, w' = e.wd) 7 [0, 1, 2, 4, 5] 3 (by kernel_rfl) (by kernel_rfl) (fun d _ _ _ _ h => by cases d <;> exact h) ⟨⟨w1.drew, (Below.refl _ _).drew⟩, rfl⟩ ?_
      simp only [List.map_cons, List.map_nil, List.getD_cons_zero, List.getD_cons_succ]
      iterate 5 (((with_reducible refine wpHead_step (fun K hK => ?_)); go_simp; refine hK _ ?_; clear hK K))
      refine wpHead_nil ?_
      have hWd : Below w1.heap.size w1 w1.drew := (Below.refl _ _).drew
      have hRd := HR.out.below (below_all HW2.out hWd)
      have hds : w1.drew.heap.size = w1.heap.size := rfl
      generalize w1.drew = V0 at *
      clear h28 h29
      refine wpAnyT_ready (rs := [3]) (by kernel_rfl) (by decide) ?_
      refine AllT.cons rfl ?_ AllT.nil
      refine wpList_plain rfl (fun K hK => ?_)
      go_simp
      go_at_call 37
      refine (head_r hRd s.n HS.out.1.1 HS.out.1.2).mono ?_
      rintro e V ⟨v, hops, rfl, hh3, hown, hV⟩
      have hWV := below_all hWd hV
      refine hK _ _ ?_
      clear hK K
      refine wpList_end ⟨fun _ _ => IsExt.of hWV, ?_⟩
      refine wpAnyT_ready (rs := [6]) (by kernel_rfl) (by decide) ?_
      refine AllT.cons rfl ?_ AllT.nil
      have hsl : SlAt V s.ov 27 (opRows s.ops) := HS.out.2.2.below (HW0.out.trans ((below_all HW2.out hWV).mono H0W.out))
      have hsrc := hsl.src (P := Try.prog) (opRows_all _) (opRows_one _) tu44'
      rw [opRows_length] at hsrc
      have hsm := HSM.out
      refine wpList_append_sown rfl _ _ 44 44 rfl V0.heap.size 33 _ 27 200 tu44' info33 rfl (by decide) v hops.length (opRows hops).flatten rfl (SOwn.of_own hown) _ _ _ rfl hsrc (by unfold maxLen; omega) (by omega) hV.size (fun t => t == 33) rfl ?_
      intro ov V2 hs2 hf2 _
      have hW2' := hWV.trans (hf2.below (Nat.le_of_eq hds.symm) (Nat.le_trans (Nat.le_of_eq hds.symm) hV.size))
      have hsl2 : SlOff b V2 ov 27 (opRows (hops ++ s.ops)) := by
        have h := hs2
        rw [show (opRows hops).flatten ++ (opRows s.ops).flatten = (opRows (hops ++ s.ops)).flatten from by simp [opRows]] at h
        exact SOwn.off h (by simp [opRows]) (opRows_all _) (by have := HBL.out; have := HW2.out.size; omega)
      refine wpList_end ⟨fun _ _ => IsExt.of hW2', ?_⟩
      refine wpAnyT_ready (rs := [7]) (by kernel_rfl) (by decide) ?_
      refine AllT.cons rfl ?_ AllT.nil
      refine wpList_plain rfl (fun K hK => ?_)
      go_simp
      refine hK _ _ ?_
      clear hK K
      refine wpList_end ⟨fun h _ => absurd rfl h, ?_⟩
      refine wpAnyT_done (by kernel_rfl) ?_
      have hD : Does4 b s w ov V2 := ⟨hops ++ s.ops, hsl2, by simp; omega, below_all HW2.out hW2', block_below HWO2.out hW2'⟩
      have HD := Lib.hid hD
      clear hD hsl2 hW2' hs2 hf2 hsrc hsl hsm hown hWV hV hRd
      go_wp2_with fail
      go_meet
      exact HD.out
    · have hD : Does4 b s w s.ov w1 := ⟨s.ops, SlAt.off HS.out.2.2 HWB.out (HW0.out.trans (HW2.out.mono H0W.out)), by omega, HW2.out, HWO2.out⟩
      have HD := Lib.hid hD
      clear hD
      go_wp2_with fail
      go_meet
      exact HD.out
  case rest =>
    obtain ⟨O, hO, hOl, hWc, hWoc⟩ := hcut
    have HWC := Lib.hid hWc
    have HWOC := Lib.hid hWoc
    have HO := Lib.hid hO
    have hsm := HSM.out
    have HK : Hid (∀ W, Calls Try.prog 36 #[.agg s.cells.toArray] W fun e w' => e = .returned (.int .i64 (kindI s.what)) ∧ Below W.heap.size W w') := Lib.hid (kind_p s)
    have hkin := kindI_in s.what
    generalize kindI s.what = kd at *
    have hO1 : SlAt (wc.alloc (.cells #[] 33)) u8 27 (opRows O) := (hO.below ((Below.refl _ _).alloc (Nat.le_refl _) _)).here
    have hsrc := hO1.src (P := Try.prog) (opRows_all _) (opRows_one _) tu44'
    rw [opRows_length] at hsrc
    have hown : SOwn (wc.alloc (.cells #[] 33)) wc.heap.size 33 27 (.slice (some ⟨wc.heap.size, 0, none⟩) 0 0) 0 [] := ⟨by simp, _, 0, rfl, by simp, by simp, .inl rfl⟩
    have hbs : wc.heap.size ≤ (wc.alloc (.cells #[] 33)).heap.size := by simp
    have HSRC := Lib.hid hsrc
    have HOWN := Lib.hid hown
    have HBS := Lib.hid hbs
    clear HWO HW1 HWO2 HW2 hO hWc hWoc hO1 hsrc hown hbs
    go_wp2_with (at_builtin; refine wpList_append_sown rfl _ _ 44 44 rfl wc.heap.size 33 _ 27 200 tu44' info33 rfl (by decide) _ 0 [] rfl HOWN.out _ _ _ rfl HSRC.out (by unfold maxLen; omega) (by omega) HBS.out (fun t => t == 33) rfl ?_)
    intro ov V hs2 hf2 _
    have hWV : Below w.heap.size w V := HWC.out.trans (((Below.refl wc.heap.size wc).alloc (Nat.le_refl _) _).trans (hf2.below (Nat.le_refl _) HBS.out) |>.mono HWC.out.size)
    have hV0 : Below wc.heap.size wc V := ((Below.refl wc.heap.size wc).alloc (Nat.le_refl _) _).trans (hf2.below (Nat.le_refl _) HBS.out)
    have hWoV := block_below HWOC.out hV0
    have hOV := HO.out.below hV0
    have hPV : SlAt V ov 27 (opRows O) := by
      have h : SOwn V wc.heap.size 33 27 ov O.length (opRows O).flatten := by simpa using hs2
      exact h.sl (opRows_length _) (opRows_all _)
    have HWV := Lib.hid hWV
    have HWOV := Lib.hid hWoV
    have HOV := Lib.hid hOV
    have HPV := Lib.hid hPV
    clear hWV hV0 hWoV hOV hPV hs2 hf2 HSRC HOWN HBS HO HWOC HWC hsm
    go_wp2_with ((with_reducible refine g_load 54 ?_); refine wpList_load_row rfl 54 _ rfl w.heap.size rfl 54 s.cells.toArray (0, 0) _ HWOV.out tu54' rfl ts54 ?_)
    go_at_call 36
    refine (HK.out _).mono ?_
    rintro e V2 ⟨rfl, hb2⟩
    have hW2 := below_all HWV.out hb2
    have HW2 := Lib.hid hW2
    have HWO2 := Lib.hid (block_below HWOV.out hb2)
    have HO2 := Lib.hid (HOV.out.below hb2)
    have HP2 := Lib.hid (HPV.out.below hb2)
    have HQ2 := Lib.hid (HQ.out.below hW2)
    have HR2 := Lib.hid (HR.out.below hW2)
    have hbw : b < w.heap.size := HQ.out.lt
    have hBw : B ≤ w.heap.size := Nat.le_of_lt (Nat.lt_of_le_of_lt HB.out hbw)
    have HBV := Lib.hid (Nat.le_trans hBw hW2.size)
    have HBW : Hid (Below B w V2) := Lib.hid (hW2.mono hBw)
    have HN := Lib.hid (fun (e : Int) W => num_q e W)
    clear hb2 hW2 HWV HWOV HOV HPV HQ HR HK c2 c3
    have hkd : kd = 0 ∨ kd = 1 ∨ kd = 2 ∨ kd = 3 ∨ kd = 4 ∨ kd = 5 ∨ kd = 6 := by omega
    clear hkin
    have hput0 : 0 ≤ put := HQ2.out.p0
    have hbne : b ≠ w.heap.size := by omega
    rcases hkd with rfl | rfl | rfl | rfl | rfl | rfl | rfl
    · -- Put
      have HOP2 := Lib.hid (show V2.rangeAt w.heap.size 1 s.op.cells from by have := StepD.rop (s := s) (range_block HWO2.out); rwa [Nat.zero_add] at this)
      have hn2 : V2.cell? ⟨w.heap.size, 28, none⟩ = some (.int .u64 s.n) := by rw [cell_of_row _ _ _ _ _ _ HWO2.out]; rfl
      go_wp2_with ((with_reducible refine g_load 33 ?_); refine wpList_load_mid rfl 33 _ rfl w.heap.size 1 rfl s.op.cells _ HOP2.out tu33 rfl ts33 ?_)
      clear hn2
      rcases put_any HQ2.out s.op s.n HS.out.1.1 HS.out.1.2 HS.out.2.1.1 HS.out.2.1.2 hp with ⟨h0, hc⟩ | ⟨h0, hc⟩
      · refine hc.mono ?_
        rintro e V3 ⟨rfl, hq3, hg3⟩
        have hB3 : Below B w V3 := HBW.out.grown hg3 HBV.out (by rintro _ ⟨rfl⟩; exact HB.out)
        have hwo3 := block_grown HWO2.out hg3 (fun e => hbne (Option.some.inj e).symm)
        have HOP3 := Lib.hid (show V3.rangeAt w.heap.size 1 s.op.cells from by have := StepD.rop (s := s) (range_block hwo3); rwa [Nat.zero_add] at this)
        have hn3 : V3.cell? ⟨w.heap.size, 28, none⟩ = some (.int .u64 s.n) := by rw [cell_of_row _ _ _ _ _ _ hwo3]; rfl
        have HR3 := Lib.hid (HR2.out.q HQ2.out hg3)
        have HQ3 := Lib.hid hq3
        have HB3 := Lib.hid hB3
        have HV3 := Lib.hid (Nat.le_trans HBV.out hg3.size)
        have H0 := Lib.hid h0
        clear hc h0 hq3 hg3 hB3 hwo3
        go_wp2_with ((with_reducible refine g_load 33 ?_); refine wpList_load_mid rfl 33 _ rfl w.heap.size 1 rfl s.op.cells _ HOP3.out tu33 rfl ts33 ?_)
        clear hn3
        rcases rput_any HR3.out HV3.out s.op s.n HS.out.1.1 HS.out.1.2 HS.out.2.1.1 HS.out.2.1.2 hput0 hp with ⟨_, hc⟩ | ⟨h1, _⟩
        · refine hc.mono ?_
          rintro e V4 ⟨rfl, hr4, hf4⟩
          have HF4 := Lib.hid hf4
          have HR4 := Lib.hid hr4
          clear hc hf4 hr4
          go_wp2_with (go_at_call 22; refine (HN.out _ _).mono ?_; rintro e w' ⟨rfl, rfl⟩)
          go_ret2
          exact ⟨b, L ++ [⟨s.op, s.n⟩], put + 1, rfl, HB.out, HQ3.out.frm HF4.out, HR4.out, by omega, HB3.out.trans (HF4.out.below (Nat.le_refl _) HV3.out)⟩
        · exact absurd H0.out h1
      · refine hc.mono ?_
        rintro e V3 ⟨rfl, hb3⟩
        have hwo3 := block_below HWO2.out hb3
        have HOP3 := Lib.hid (show V3.rangeAt w.heap.size 1 s.op.cells from by have := StepD.rop (s := s) (range_block hwo3); rwa [Nat.zero_add] at this)
        have hn3 : V3.cell? ⟨w.heap.size, 28, none⟩ = some (.int .u64 s.n) := by rw [cell_of_row _ _ _ _ _ _ hwo3]; rfl
        have HR3 := Lib.hid (HR2.out.below hb3)
        have HQ3 := Lib.hid (HQ2.out.below hb3)
        have HB3 : Hid (Below B w V3) := Lib.hid (HBW.out.trans (hb3.mono HBV.out))
        have HV3 := Lib.hid (Nat.le_trans HBV.out hb3.size)
        have H0 := Lib.hid h0
        clear hc h0 hb3 hwo3
        go_wp2_with ((with_reducible refine g_load 33 ?_); refine wpList_load_mid rfl 33 _ rfl w.heap.size 1 rfl s.op.cells _ HOP3.out tu33 rfl ts33 ?_)
        clear hn3
        rcases rput_any HR3.out HV3.out s.op s.n HS.out.1.1 HS.out.1.2 HS.out.2.1.1 HS.out.2.1.2 hput0 hp with ⟨h1, _⟩ | ⟨_, hc⟩
        · exact absurd h1 H0.out
        · refine hc.mono ?_
          rintro e V4 ⟨rfl, hb4⟩
          have HB4 := Lib.hid hb4
          clear hc hb4
          go_wp2_with (go_at_call 22; refine (HN.out _ _).mono ?_; rintro e w' ⟨rfl, rfl⟩)
          go_ret2
          exact ⟨b, L, put, rfl, HB.out, HQ3.out.below HB4.out, HR3.out.below HB4.out, by omega, HB3.out.trans (HB4.out.mono HV3.out)⟩
    · -- Matches
      go_wp2_with fail
      refine (match_q HQ2.out O _ HP2.out).mono ?_
      rintro e V3 ⟨rfl, hb3⟩
      have HB3 := Lib.hid hb3
      have HO3 := Lib.hid (HO2.out.below hb3).here
      have HR3 := Lib.hid (HR2.out.below hb3)
      clear hb3
      go_wp2_with fail
      refine (rmatch HR3.out O _ HO3.out).mono ?_
      rintro e V4 ⟨rfl, hb4⟩
      have HB4 := Lib.hid hb4
      clear hb4
      go_wp2_with (go_at_call 22; refine (HN.out _ _).mono ?_; rintro e w' ⟨rfl, rfl⟩)
      go_ret2
      exact ⟨b, L, put, rfl, HB.out, (HQ2.out.below HB3.out).below HB4.out, HR3.out.below HB4.out, by omega, HBW.out.trans ((below_all HB3.out HB4.out).mono HBV.out)⟩
    · go_wp2_with fail
      refine (take_u HQ2.out O _ HP2.out).mono ?_
      rintro e V3 ⟨rfl, hg3, hq3⟩
      have hB3 : Below B w V3 := HBW.out.grown hg3 HBV.out (by rintro _ ⟨rfl⟩; exact HB.out)
      have HO3 := Lib.hid (HO2.out.grown hg3).here
      have HR3 := Lib.hid (HR2.out.q HQ2.out hg3)
      have HQ3 := Lib.hid hq3
      have HB3 := Lib.hid hB3
      have HV3 := Lib.hid (Nat.le_trans HBV.out hg3.size)
      clear hq3 hg3 hB3
      go_wp2_with fail
      refine (rtake HR3.out HV3.out O _ HO3.out).mono ?_
      rintro e V4 ⟨rfl, hf4, hr4⟩
      have HF4 := Lib.hid hf4
      have HR4 := Lib.hid hr4
      clear hf4 hr4
      go_wp2_with (go_at_call 22; refine (HN.out _ _).mono ?_; rintro e w' ⟨rfl, rfl⟩)
      go_ret2
      exact ⟨b, takenL L O, put, rfl, HB.out, HQ3.out.frm HF4.out, HR4.out, by omega, HB3.out.trans (HF4.out.below (Nat.le_refl _) HV3.out)⟩
    · go_wp2_with fail
      refine (take_u HQ2.out O _ HP2.out).mono ?_
      rintro e V3 ⟨rfl, hg3, hq3⟩
      have hB3 : Below B w V3 := HBW.out.grown hg3 HBV.out (by rintro _ ⟨rfl⟩; exact HB.out)
      have HO3 := Lib.hid (HO2.out.grown hg3).here
      have HR3 := Lib.hid (HR2.out.q HQ2.out hg3)
      have HQ3 := Lib.hid hq3
      have HB3 := Lib.hid hB3
      have HV3 := Lib.hid (Nat.le_trans HBV.out hg3.size)
      clear hq3 hg3 hB3
      go_wp2_with fail
      refine (rtake HR3.out HV3.out O _ HO3.out).mono ?_
      rintro e V4 ⟨rfl, hf4, hr4⟩
      have HF4 := Lib.hid hf4
      have HR4 := Lib.hid hr4
      clear hf4 hr4
      go_wp2_with (go_at_call 22; refine (HN.out _ _).mono ?_; rintro e w' ⟨rfl, rfl⟩)
      go_ret2
      exact ⟨b, takenL L O, put, rfl, HB.out, HQ3.out.frm HF4.out, HR4.out, by omega, HB3.out.trans (HF4.out.below (Nat.le_refl _) HV3.out)⟩
    · -- Clear
      go_wp2_with fail
      refine (clear_q HQ2.out).mono ?_
      rintro e V3 ⟨v, rfl, hown3, hg3, hq3⟩
      have hB3 : Below B w V3 := HBW.out.grown hg3 HBV.out (by rintro _ ⟨rfl⟩; exact HB.out)
      have HR3 := Lib.hid (HR2.out.q HQ2.out hg3)
      have HQ3 := Lib.hid hq3
      have HB3 := Lib.hid hB3
      have HV3 := Lib.hid (Nat.le_trans HBV.out hg3.size)
      have HO3 := Lib.hid hown3
      clear hq3 hg3 hB3 hown3
      go_wp2_with fail
      refine (rclear HV3.out HR3.out).mono ?_
      rintro e V4 ⟨u, rfl, hf4, ho4, hr4⟩
      have hv4 : SlAt V4 v 28 (entRows L) := ((SOwn.of_own HO3.out).keep fun g cur hg _ => hf4.block g (block_lt hg) (.inr fun c t fz e => by rw [hg] at e; cases e; rfl)).sl (entRows_length L) (entRows_all L)
      have HE4 := Lib.hid (sameE hv4 (ho4.sl (entRows_length L) (entRows_all L)))
      have HF4 := Lib.hid hf4
      have HR4 := Lib.hid hr4
      clear hf4 hr4 ho4 hv4
      go_wp2_with fail
      refine HE4.out.mono ?_
      rintro e V5 ⟨rfl, hb5⟩
      have HB5 := Lib.hid hb5
      clear hb5
      go_wp2_with fail
      go_ret2
      exact ⟨b, [], put, rfl, HB.out, (HQ3.out.frm HF4.out).below HB5.out, HR4.out.below HB5.out, by omega, (HB3.out.trans (HF4.out.below (Nat.le_refl _) HV3.out)).trans (HB5.out.mono (Nat.le_trans HV3.out HF4.out.size))⟩
    · -- a copy
      have hnn := ne_nil
      go_wp2_with fail
      refine (copy_q HQ2.out).mono ?_
      rintro e V3 ⟨b', rfl, hb', hb3, hq3⟩
      have hne : b' ≠ b := by have := HQ2.out.lt; omega
      have hBb : B ≤ b' := Nat.le_trans HBV.out hb'
      have HB3 := Lib.hid hb3
      have HQ3 := Lib.hid hq3
      have HR3 := Lib.hid (HR2.out.below hb3)
      have HQb := Lib.hid (HQ2.out.below hb3)
      clear hq3 hb3
      go_wp2_with fail
      refine (clear_q HQb.out).mono ?_
      rintro e V4 ⟨v, rfl, _, hg4, _⟩
      have HG4 := Lib.hid hg4
      clear hg4
      go_wp2_with fail
      go_ret2
      have hB3 : Below B w V3 := HBW.out.trans (HB3.out.mono HBV.out)
      exact ⟨b', L, put, rfl, hBb, HQ3.out.grown HG4.out (fun e => hne (Option.some.inj e)), HR3.out.q HQb.out HG4.out, by omega, hB3.grown HG4.out (Nat.le_trans HBV.out HB3.out.size) (by rintro _ ⟨rfl⟩; exact HB.out)⟩
    · -- looks
      have hn2 : ∀ e : ExtOf V2, e.wd.cell? ⟨w.heap.size, 28, none⟩ = some (.int .u64 s.n) := fun e => by rw [cell_of_row _ _ _ _ _ _ (e.block HWO2.out)]; rfl
      have HOQ : Hid (∀ e : ExtOf V2, Calls Try.prog 18 #[.pointer (some ⟨b, 0, none⟩), .int .u64 s.n] e.wd fun r w' => r = .returned (.bool (oldB L s.n tk)) ∧ ∃ e' : ExtOf V2, w' = e'.wd) := Lib.hid fun e => calls_ext e (overdue_q (HQ2.out.below e.below) _ HS.out.1.1 HS.out.1.2)
      have HOR : Hid (∀ e : ExtOf V2, Calls Try.prog 27 #[.pointer (some ⟨r, 0, none⟩), .int .u64 s.n] e.wd fun r w' => r = .returned (.bool (oldB L s.n tk)) ∧ ∃ e' : ExtOf V2, w' = e'.wd) := Lib.hid fun e => calls_ext e ((roverdue (HR2.out.below e.below) _ HS.out.1.1 HS.out.1.2).mono fun _ _ ⟨h1, h2⟩ => ⟨h1, h2 ▸ Below.refl _ _⟩)
      have HLQ : Hid (∀ e : ExtOf V2, Calls Try.prog 17 #[.pointer (some ⟨b, 0, none⟩), .int .u64 s.n] e.wd fun r w' => r = .returned (.bool (oldB L s.n (2 * tk))) ∧ ∃ e' : ExtOf V2, w' = e'.wd) := Lib.hid fun e => calls_ext e (late_q (HQ2.out.below e.below) _ HS.out.1.1 HS.out.1.2)
      have HLR : Hid (∀ e : ExtOf V2, Calls Try.prog 28 #[.pointer (some ⟨r, 0, none⟩), .int .u64 s.n] e.wd fun r w' => r = .returned (.bool (oldB L s.n (2 * tk))) ∧ ∃ e' : ExtOf V2, w' = e'.wd) := Lib.hid fun e => calls_ext e ((rlate (HR2.out.below e.below) (HQ2.out.tk0) (HQ2.out.tk1) _ HS.out.1.1 HS.out.1.2).mono fun _ _ ⟨h1, h2⟩ => ⟨h1, h2 ▸ Below.refl _ _⟩)
      go_wp2_with fail
      refine wp_region_ext (by kernel_rfl) (by kernel_rfl) ?_
      iterate 4 (quiet_step (fail))
      quiet_step ((go_at_call 18; exact HOQ.out _))
      iterate 3 (quiet_step (fail))
      quiet_step ((go_at_call 27; exact HOR.out _))
      iterate 5 (quiet_step (fail))
      quiet_step ((go_at_call 17; exact HLQ.out _))
      iterate 3 (quiet_step (fail))
      quiet_step ((go_at_call 28; exact HLR.out _))
      iterate 4 (quiet_step (fail))
      refine wpQuiet_nil ?_
      rintro _ ⟨e, rfl⟩
      clear hn2
      go_wp2_with fail
      go_ret2
      exact ⟨b, L, put, rfl, HB.out, HQ2.out.below e.below, HR2.out.below e.below, by omega, HBW.out.trans (e.below.mono HBV.out)⟩
end Go.Proofs.Ytgkjglpnnehdbaa
