/- The page's queue: Matches, walked. -/
import Derived.Test.YtgkjglpnnehdbaaQ18
set_option linter.unusedVariables false
namespace Go.Proofs.Ytgkjglpnnehdbaa
open Go.RowKit Go.KK

theorem RAt.ent {B : Nat} {w : World} {r : Nat} {tk N : Int} {L : List EntD} {A : Option Addr} {cap : Nat} (h : RAt B w r tk L N) (ha : w.cell? ⟨r, 1, none⟩ = some (.slice A L.length cap)) {i : Nat} {e : EntD} (he : L[i]? = some e) :
    ∃ g off, A = some ⟨g, off, none⟩ ∧ w.rangeAt g (off + i * 28) e.cells ∧ g < w.heap.size := by
  obtain ⟨A', cap', _, h1, _, _, _, _, h2⟩ := h.open
  rw [ha] at h1
  cases h1
  exact h2 i e he
theorem range_take {w : World} {b o n : Nat} {cs : List Value} (h : w.rangeAt b o cs) : w.rangeAt b o (cs.take n) := fun j v hv => h j v (by
  rw [List.getElem?_take] at hv
  split at hv
  · exact hv
  · simp at hv)

set_option maxHeartbeats 4000000 in
theorem rmatch {B : Nat} {w : World} {r : Nat} {tk N : Int} {L : List EntD} (h : RAt B w r tk L N) (ops : List OpD) (v : Value) (hv : SlAt w v 27 (opRows ops)) :
    Calls Try.prog 39 #[.pointer (some ⟨r, 0, none⟩), v] w (MPost (matchAll L ops) w) := by
  obtain ⟨A, cap, rfl, hlen, hrows⟩ := hv
  obtain ⟨RA, rcap, _, hc1, _, hL, _, _, hent⟩ := h.open
  have hl : (opRows ops).length = ops.length := by simp [opRows]
  rw [hl] at hlen ⊢
  have HR := Lib.hid hrows
  have HE := Lib.hid hent
  have HC := Lib.hid hc1
  clear hrows hl h hent hc1
  go_enter Try.func39, Try.ntmps39
  go_wp2
  go_loopw [7, 8] (fun n i wr => ∃ (k m : Nat), k ≤ ops.length ∧ m ≤ k ∧ n = .int .i64 m ∧ i = .int .i64 k ∧ Below w.heap.size w wr ∧ matchGo L (ops.drop k) k m (decide (m < k)) = matchAll L ops) (fun _ i _ => ops.length - (intOf i).toNat)
  case atStart => exact ⟨0, 0, by omega, by omega, rfl, rfl, Below.refl _ _, rfl⟩
  case round =>
    obtain ⟨k, m, hk, hm, rfl, rfl, hB, hgo⟩ := hrel
    have HG := Lib.hid hgo
    clear hgo
    have hc1 : ∀ e : ExtOf wr, e.wd.cell? ⟨r, 1, none⟩ = some (.slice RA L.length rcap) := fun e => e.cell ((hB.cell (World.block_lt_of_cell? w _ HC.out)).trans HC.out)
    have HC1 := Lib.hid hc1
    clear hc1
    by_cases hlt : k < ops.length
    · obtain ⟨ob, off, rfl, hr, hob⟩ := HR.out k ops[k].cells (by simp [opRows, hlt])
      have hrr : wr.rangeAt ob (off + k * 27) ops[k].cells := fun j v hv => (hB.cell (World.block_lt_of_cell? w _ (hr j v hv))).trans (hr j v hv)
      have o25 : wr.cell? ⟨ob, off + k * 27 + 25, none⟩ = some (.bool ops[k].f) := hrr 25 _ ops[k].c25
      have HRR := Lib.hid hrr
      clear hr hrr
      have hdrop : ops.drop k = ops[k] :: ops.drop (k + 1) := List.drop_eq_getElem_cons hlt
      have HD := Lib.hid hdrop
      clear hdrop
      cases hf : ops[k].f with
      | false =>
        rw [hf] at o25
        have HF := Lib.hid hf
        clear hf
        go_wp2_with fail
        go_roundw
        case rel => exact ⟨k + 1, m, by omega, by omega, rfl, by go_num, hB, by rw [← HG.out, HD.out, matchGo, if_pos HF.out, decide_eq_true (by omega : m < k + 1)]⟩
        case measure => simp [intOf]; omega
      | true =>
        rw [hf] at o25
        have HF := Lib.hid hf
        clear hf
        by_cases hmk : m < k
        · go_wp2_with fail
          go_ret3
          exact ⟨by rw [← HG.out, HD.out, matchGo, if_neg (by rw [HF.out]; decide), if_pos (decide_eq_true hmk)]; rfl, hB⟩
        · obtain rfl : m = k := by omega
          have hmm : ¬ (m : Int) < m := by omega
          go_wp2_with fail
          clear o25
          have hc1 := HC1.out
          by_cases hml : m < L.length
          · have hge : ¬ L.length ≤ m := by omega
            have hx : L[m]? = some L[m] := List.getElem?_eq_getElem hml
            obtain ⟨g, goff, rfl, hgr, hgl⟩ := HE.out m L[m] hx
            have HGR : Hid (∀ e : ExtOf wr, e.wd.rangeAt g (goff + m * 28) L[m].op.cells) := Lib.hid fun e => e.range (fun j v hv => (hB.cell (World.block_lt_of_cell? w _ (range_take (n := 27) hgr j v hv))).trans (range_take (n := 27) hgr j v hv))
            have HRX : Hid (∀ e : ExtOf wr, e.wd.rangeAt ob (off + m * 27) ops[m].cells) := Lib.hid fun e => e.range HRR.out
            have HS : Hid (∀ e : ExtOf wr, Calls Try.prog 10 #[.agg ops[m].cells.toArray, .agg L[m].op.cells.toArray] e.wd fun r w' => r = .returned (.bool (ops[m].same L[m].op)) ∧ ∃ e' : ExtOf wr, w' = e'.wd) :=
              Lib.hid fun e => calls_ext e (same_r _ _ _)
            have HX := Lib.hid hx
            clear hx hgr
            refine wp_region_ext (by kernel_rfl) (by kernel_rfl) ?_
            iterate 11 (quiet_step (fail))
            refine wpQuiet_load_extg rfl 33 _ rfl ob (off + m * 27) rfl ops[m].cells _ (fun e => HRX.out e) tu33 rfl ts33 ?_
            iterate 7 (quiet_step (fail))
            refine wpQuiet_load_extg rfl 33 _ rfl g (goff + m * 28) rfl L[m].op.cells _ (fun e => HGR.out e) tu33 rfl ts33 ?_
            quiet_step ((go_at_call 10; exact HS.out _))
            iterate 2 (quiet_step (fail))
            refine wpQuiet_nil ?_
            rintro _ ⟨e, rfl⟩
            have hBe := below_all hB e.below
            clear hc1
            cases hs : ops[m].same L[m].op with
            | true =>
              have HSS := Lib.hid hs
              clear hs
              go_wp2_with fail
              go_roundw
              case rel => exact ⟨m + 1, m + 1, by omega, by omega, by go_num, by go_num, hBe, by rw [← HG.out, HD.out, matchGo, if_neg (by rw [HF.out]; decide), if_neg (by simp), HX.out]; simp only [HSS.out, if_true, Nat.lt_irrefl, decide_false]⟩
              case measure => simp [intOf]; omega
            | false =>
              have HSS := Lib.hid hs
              clear hs
              go_wp2_with fail
              go_ret3
              exact ⟨by rw [← HG.out, HD.out, matchGo, if_neg (by rw [HF.out]; decide), if_neg (by simp), HX.out]; simp [HSS.out], hBe⟩
          · have hge : L.length ≤ m := by omega
            have hx : L[m]? = none := List.getElem?_eq_none hge
            have HX := Lib.hid hx
            clear hx
            refine wp_region_ext (by kernel_rfl) (by kernel_rfl) ?_
            iterate 8 (((with_reducible refine wpQuiet_step (fun K hK => ?_)); go_simp; with_reducible refine hK _ ?_; clear hK K))
            iterate 15 (((with_reducible refine wpQuiet_step (fun K hK => ?_)); go_simp; with_reducible refine hK _ ?_; clear hK K))
            refine wpQuiet_nil ?_
            rintro _ ⟨e, rfl⟩
            have hBe := below_all hB e.below
            clear hc1
            go_wp2_with fail
            go_ret3
            exact ⟨by rw [← HG.out, HD.out, matchGo, if_neg (by rw [HF.out]; decide), if_neg (by simp), HX.out]; rfl, hBe⟩
    · have hkk : k = ops.length := by omega
      subst hkk
      clear HR
      go_wp2_with fail
      go_ret3
      exact ⟨by rw [← HG.out, List.drop_length]; rfl, hB⟩
end Go.Proofs.Ytgkjglpnnehdbaa
