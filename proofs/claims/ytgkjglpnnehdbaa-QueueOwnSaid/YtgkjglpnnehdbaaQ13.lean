/- QueueDue: the plain facts, and the walk. -/
import Derived.Test.YtgkjglpnnehdbaaQ12
set_option linter.unusedVariables false
set_option linter.unusedSimpArgs false
namespace Go.Proofs.Ytgkjglpnnehdbaa
open Go.RowKit Go.KK

/-- The entries came in the order of their ticks. -/
def Rising (L : List EntD) : Prop := ∀ i a b, L[i]? = some a → L[i + 1]? = some b → a.at_ ≤ b.at_
theorem putErr_zero {L : List EntD} {o : OpD} {now : Int} (h : putErr L o now = 0) : ∀ x, L.getLast? = some x → x.at_ ≤ now := by
  intro x hx
  unfold putErr at h
  rw [hx] at h
  by_cases hlt : now < x.at_
  · simp only [hlt, decide_true, if_true] at h
    split at h
    · omega
    · split at h <;> omega
  · omega
theorem laid_rising (l : List StepD) : Rising (laidL l).1 := by
  have h : ∀ (l : List StepD) (q : List EntD × Int), Rising q.1 → Rising (l.foldl putStep q).1 := by
    intro l
    induction l with
    | nil => intro q hq; exact hq
    | cons s r ih =>
      intro q hq
      rw [List.foldl_cons]
      refine ih _ ?_
      unfold putStep
      split
      · rename_i he
        intro i a b ha hb
        simp only [] at ha hb
        by_cases hi : i + 1 < q.1.length
        · rw [List.getElem?_append_left (by omega)] at ha
          rw [List.getElem?_append_left hi] at hb
          exact hq i a b ha hb
        · have hlast : i + 1 = q.1.length := by
            have := (List.getElem?_eq_some_iff.1 hb).1
            simp at this; omega
          rw [List.getElem?_append_left (by omega)] at ha
          rw [List.getElem?_append_right (by omega)] at hb
          simp [hlast] at hb
          subst hb
          refine putErr_zero he a ?_
          rw [List.getLast?_eq_getElem?, ← ha]
          congr 1; omega
      · exact hq
  exact h l _ (fun i a b ha _ => by simp at ha)
theorem old_mono {L : List EntD} {now t by_ : Int} (h : oldB L now by_ = true) (ht : now ≤ t) : oldB L t by_ = true := by
  cases L with
  | nil => simp [oldB] at h
  | cons e r =>
    simp [oldB] at h ⊢
    omega
theorem old_late {L : List EntD} {now tk : Int} (h : oldB L now (2 * tk) = true) (h0 : 0 ≤ tk) : oldB L now tk = true := by
  cases L with
  | nil => simp [oldB] at h
  | cons e r =>
    simp [oldB] at h ⊢
    omega

set_option maxHeartbeats 4000000 in
theorem QueueDue_walk (tk : Int) (l : List StepD) (v : Value) (now more : Int) (w : World) (hv : StepsAt w v l) (hn0 : 0 ≤ now) (hn1 : now ≤ 18446744073709551615) (hm0 : 0 ≤ more) (hm1 : more ≤ 18446744073709551615) :
    Calls Try.prog 5 #[.int .u64 tk, v, .int .u64 now, .int .u64 more] w fun e w' => e = .returned (.bool true) ∧ Below w.heap.size w w' := by
  by_cases ht : tk < 1 ∨ 4294967296 < tk
  · have HV := Lib.hid hv
    have HT := Lib.hid ht
    clear hv ht
    go_enter Try.func5, Try.ntmps5
    go_wp2_with fail
    refine (works_q _).mono ?_
    rintro e w1 ⟨rfl, hb1⟩
    go_wp2_with fail
    refine (laid_no tk _ w1 HT.out).mono ?_
    rintro e w2 ⟨rfl, rfl⟩
    go_wp2_with fail
    go_ret
    exact ⟨rfl, hb1⟩
  · have HV := Lib.hid hv
    have ht0 : 1 ≤ tk := by omega
    have ht1 : tk ≤ 4294967296 := by omega
    clear hv ht
    go_enter Try.func5, Try.ntmps5
    go_wp2_with fail
    refine (works_q _).mono ?_
    rintro e w1 ⟨rfl, hb1⟩
    go_wp2_with fail
    refine (laid_ok tk l _ w1 ht0 ht1 (HV.out.below hb1)).mono ?_
    rintro e w2 ⟨rfl, hq2, hb2⟩
    have hB2 := below_all hb1 hb2
    have HR := Lib.hid (laid_rising l)
    generalize (laidL l).1 = L at *
    generalize (laidL l).2 = put at *
    have HQ2 := Lib.hid hq2
    have HB2 := Lib.hid hB2
    clear hq2 hb1 hb2 hB2
    go_wp2_with fail
    refine (entries_q HQ2.out).mono ?_
    rintro e w3 ⟨av, rfl, hown, hb3⟩
    have hq3 := HQ2.out.below hb3
    have HB3 := Lib.hid (below_all HB2.out hb3)
    have HA := Lib.hid (own_sl hown (entRows_length L) (entRows_all L))
    have hlen := hq3.len
    have HQ3 := Lib.hid hq3
    clear hown hb3 hq3
    obtain ⟨A, cap, rfl, _, hrows⟩ := HA.out
    rw [entRows_length]
    have HRW := Lib.hid hrows
    clear hrows HA
    go_wp2_with fail
    go_loopw [11] (fun i wr => ∃ m : Nat, m + 1 ≤ L.length + 1 ∧ i = .int .i64 ((m : Int) + 1) ∧ Below w3.heap.size w3 wr) (fun i _ => L.length + 1 - (intOf i).toNat)
    case atStart => exact ⟨0, by omega, rfl, Below.refl _ _⟩
    case round =>
      obtain ⟨m, hm, rfl, hB⟩ := hrel
      by_cases hlt : m + 1 < L.length
      · obtain ⟨sb, off, rfl, hr1, hsb⟩ := HRW.out (m + 1) L[m + 1].cells (entRows_get (List.getElem?_eq_getElem hlt))
        obtain ⟨sb', off', he', hr0, _⟩ := HRW.out m (L[m]'(by omega)).cells (entRows_get (List.getElem?_eq_getElem (by omega)))
        cases he'
        have c1 : ∀ e : ExtOf wr, e.wd.cell? ⟨sb, off + (m + 1) * 28 + 27, none⟩ = some (.int .u64 L[m + 1].at_) := fun e => e.cell ((hB.cell (by exact hsb)).trans (hr1 27 _ L[m + 1].c27))
        have c0 : ∀ e : ExtOf wr, e.wd.cell? ⟨sb, off + m * 28 + 27, none⟩ = some (.int .u64 (L[m]'(by omega)).at_) := fun e => e.cell ((hB.cell (by exact hsb)).trans (hr0 27 _ (L[m]'(by omega)).c27))
        have hs := HR.out m (L[m]'(by omega)) L[m + 1] (List.getElem?_eq_getElem (by omega)) (List.getElem?_eq_getElem hlt)
        have hs' : ¬ L[m + 1].at_ < (L[m]'(by omega)).at_ := by omega
        have hp1 : (0 : Int) ≤ (m : Int) + 1 := by omega
        have hw1 : IntKind.i64.wrap (m : Int) = (m : Int) := IntWalk.i64_in _ (by omega)
        have hml : m < L.length := by omega
        have HB := Lib.hid hB
        clear hr1 hr0 hs hB
        go_wp2_with fail
        refine wp_region_ext (by kernel_rfl) (by kernel_rfl) ?_
        iterate 12 (quiet_step (fail))
        refine wpQuiet_nil ?_
        rintro _ ⟨e, rfl⟩
        clear hw1 hp1 c0 c1
        go_wp2_with fail
        go_roundw
        case rel => exact ⟨m + 1, by omega, by go_num, below_all HB.out e.below⟩
        case measure => simp [intOf]; omega
      · have HB := Lib.hid hB
        clear hB
        have HO : Hid (∀ (t : Int) (W : World), 0 ≤ t → t ≤ 18446744073709551615 → Below w3.heap.size w3 W → Calls Try.prog 18 #[.pointer (some ⟨w1.heap.size, 0, none⟩), .int .u64 t] W fun r w' => r = .returned (.bool (oldB L t tk)) ∧ Below w3.heap.size w3 w') :=
          Lib.hid fun t W a b hb => (overdue_q (HQ3.out.below hb) t a b).mono fun _ _ ⟨x, y⟩ => ⟨x, below_all hb y⟩
        have HL : Hid (∀ (t : Int) (W : World), 0 ≤ t → t ≤ 18446744073709551615 → Below w3.heap.size w3 W → Calls Try.prog 17 #[.pointer (some ⟨w1.heap.size, 0, none⟩), .int .u64 t] W fun r w' => r = .returned (.bool (oldB L t (2 * tk))) ∧ Below w3.heap.size w3 w') :=
          Lib.hid fun t W a b hb => (late_q (HQ3.out.below hb) t a b).mono fun _ _ ⟨x, y⟩ => ⟨x, below_all hb y⟩
        have hnil : (L.length : Int) = 0 → oldB L now tk = false := fun hz => by
          have : L = [] := List.length_eq_zero_iff.1 (by omega)
          rw [this]; rfl
        have HN := Lib.hid hnil
        have Hba := Lib.hid (fun h : oldB L now (2 * tk) = true => old_late h (by omega))
        clear hnil
        by_cases hle : now ≤ more
        · have Hac := Lib.hid (fun h : oldB L now tk = true => old_mono h hle)
          have Hbd := Lib.hid (fun h : oldB L now (2 * tk) = true => old_mono h hle)
          cases hb : oldB L now (2 * tk)
          · cases ha : oldB L now tk
            · go_wp2_with (first | (go_at_call 18; refine (HO.out _ _ (by omega) (by omega) (by first | exact HB.out | assumption)).mono ?_; rintro e w' ⟨rfl, hbX⟩) | (go_at_call 17; refine (HL.out _ _ (by omega) (by omega) (by first | exact HB.out | assumption)).mono ?_; rintro e w' ⟨rfl, hbX⟩))
              all_goals (go_ret; exact ⟨rfl, below_all HB3.out hbX⟩)

            · have hc := Hac.out ha
              have hz : ¬ L.length = 0 := fun h => by have := HN.out (by omega); rw [ha] at this; cases this
              go_wp2_with (first | (go_at_call 18; refine (HO.out _ _ (by omega) (by omega) (by first | exact HB.out | assumption)).mono ?_; rintro e w' ⟨rfl, hbX⟩) | (go_at_call 17; refine (HL.out _ _ (by omega) (by omega) (by first | exact HB.out | assumption)).mono ?_; rintro e w' ⟨rfl, hbX⟩))
              all_goals (go_ret; exact ⟨rfl, below_all HB3.out hbX⟩)

          · have ha := Hba.out hb
            have hc := Hac.out ha
            have hd := Hbd.out hb
            have hz : ¬ L.length = 0 := fun h => by have := HN.out (by omega); rw [ha] at this; cases this
            go_wp2_with (first | (go_at_call 18; refine (HO.out _ _ (by omega) (by omega) (by first | exact HB.out | assumption)).mono ?_; rintro e w' ⟨rfl, hbX⟩) | (go_at_call 17; refine (HL.out _ _ (by omega) (by omega) (by first | exact HB.out | assumption)).mono ?_; rintro e w' ⟨rfl, hbX⟩))
            all_goals (go_ret; exact ⟨rfl, below_all HB3.out hbX⟩)

        · have hle' : more < now := by omega
          clear hle
          cases hb : oldB L now (2 * tk)
          · cases ha : oldB L now tk
            · go_wp2_with (first | (go_at_call 18; refine (HO.out _ _ (by omega) (by omega) (by first | exact HB.out | assumption)).mono ?_; rintro e w' ⟨rfl, hbX⟩) | (go_at_call 17; refine (HL.out _ _ (by omega) (by omega) (by first | exact HB.out | assumption)).mono ?_; rintro e w' ⟨rfl, hbX⟩))
              all_goals (go_ret; exact ⟨rfl, below_all HB3.out hbX⟩)

            · have hz : ¬ L.length = 0 := fun h => by have := HN.out (by omega); rw [ha] at this; cases this
              go_wp2_with (first | (go_at_call 18; refine (HO.out _ _ (by omega) (by omega) (by first | exact HB.out | assumption)).mono ?_; rintro e w' ⟨rfl, hbX⟩) | (go_at_call 17; refine (HL.out _ _ (by omega) (by omega) (by first | exact HB.out | assumption)).mono ?_; rintro e w' ⟨rfl, hbX⟩))
              all_goals (go_ret; exact ⟨rfl, below_all HB3.out hbX⟩)

          · have ha := Hba.out hb
            have hz : ¬ L.length = 0 := fun h => by have := HN.out (by omega); rw [ha] at this; cases this
            go_wp2_with (first | (go_at_call 18; refine (HO.out _ _ (by omega) (by omega) (by first | exact HB.out | assumption)).mono ?_; rintro e w' ⟨rfl, hbX⟩) | (go_at_call 17; refine (HL.out _ _ (by omega) (by omega) (by first | exact HB.out | assumption)).mono ?_; rintro e w' ⟨rfl, hbX⟩))
            all_goals (go_ret; exact ⟨rfl, below_all HB3.out hbX⟩)


end Go.Proofs.Ytgkjglpnnehdbaa
