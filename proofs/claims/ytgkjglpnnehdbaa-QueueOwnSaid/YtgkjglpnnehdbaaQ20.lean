/- The page's queue: Take, walked. -/
import Derived.Test.YtgkjglpnnehdbaaQ19
set_option linter.unusedVariables false
namespace Go.Proofs.Ytgkjglpnnehdbaa
open Go.RowKit Go.KK

theorem entRows_drop (L : List EntD) (k : Nat) : (entRows (L.drop k)).flatten = (entRows L).flatten.drop (k * 28) := by
  induction L generalizing k with
  | nil => simp [entRows]
  | cons e L ih =>
    cases k with
    | zero => simp
    | succ k =>
      rw [List.drop_succ_cons, ih]
      simp only [entRows, List.map_cons, List.flatten_cons]
      have h1 : (k + 1) * 28 = 28 + k * 28 := by omega
      have h2 : e.cells.drop (28 + k * 28) = [] := List.drop_eq_nil_of_le (by rw [e.length]; omega)
      rw [h1, List.drop_append, h2, List.nil_append, e.length]
      congr 1
      omega
def takenL (L : List EntD) (ops : List OpD) : List EntD := if (matchAll L ops).2.1 = 0 then L.drop (matchAll L ops).1.toNat else L
set_option maxHeartbeats 400000 in
theorem rtake {B : Nat} {w : World} {r : Nat} {tk N : Int} {L : List EntD} (h : RAt B w r tk L N) (hB : B ≤ w.heap.size) (ops : List OpD) (v : Value) (hv : SlAt w v 27 (opRows ops)) :
    Calls Try.prog 40 #[.pointer (some ⟨r, 0, none⟩), v] w fun e w' => e = .returned (.tuple #[.int .i64 (matchAll L ops).1, .int .i64 (matchAll L ops).2.1, .int .i64 (matchAll L ops).2.2]) ∧ Frm B RT w w' ∧ RAt B w' r tk (takenL L ops) N := by
  have H := Lib.hid (rmatch h ops v hv)
  have HR := Lib.hid h
  have HO := Lib.hid (matchGo_ok L ops 0 0 false (Nat.zero_le _))
  have hL : L.length ≤ 256 := by obtain ⟨_, _, _, _, h4, _⟩ := h; exact h4
  unfold takenL
  clear h hv
  change Hid ((matchAll L ops).2.1 = 0 → ∃ m : Nat, (matchAll L ops).1 = m ∧ m ≤ L.length) at HO
  generalize matchAll L ops = x at *
  obtain ⟨x1, x2, x3⟩ := x
  simp only [] at HO ⊢
  by_cases hx : x2 = 0
  · obtain ⟨m, rfl, hm⟩ := HO.out hx
    subst hx
    clear HO
    go_enter Try.func40, Try.ntmps40
    go_wp2_with fail
    go_at_call 39
    refine H.out.mono ?_
    rintro e W ⟨rfl, hW⟩
    obtain ⟨RA, rcap, hc0, hc1, hc2, _, hok, hs, _⟩ := (HR.out.below hW).open
    have hb : W.heap[r]? = some (.cells #[.int .u64 tk, .slice RA L.length rcap, .int .i64 N] 67 (0, 0)) ∧ B ≤ r := by
      obtain ⟨v, h1, h2, _⟩ := HR.out.below hW
      rw [cell_of_row _ r 1 _ _ _ h1] at hc1
      cases hc1
      exact ⟨h1, h2⟩
    have hfz : ∀ j, W.frozen? ⟨r, j, none⟩ = false := fun j => frozen_of_row _ r j _ 67 hb.1
    have HB := Lib.hid hb
    have HS := Lib.hid hs
    have HW := Lib.hid hW
    have HOK := Lib.hid hok
    clear hb hs hW hc0 hc2 hok
    have hfin : ∀ sv, sv = .slice (if rcap = m then RA else RA.map (·.add (m * 28))) (L.length - m) (rcap - m) → Frm B RT w (W.setCell ⟨r, 1, none⟩ sv) ∧ RAt B (W.setCell ⟨r, 1, none⟩ sv) r tk (L.drop m) N := fun sv hsv => by
      refine ⟨(Frm.of_below HW.out).trans (Frm.of_grown (setCell_grown _ _ _) HB.out.2 HB.out.1 rfl), _, heap_setCell_same _ _ _ _ _ _ HB.out.1, HB.out.2, ?_, ?_, ?_⟩
      · have := (HS.out.drop m hm).grown (setCell_grown r 1 sv) HB.out.1 (by decide)
        rw [← hsv] at this
        simpa [entRows_drop] using this
      · simp; omega
      · exact fun e he => HOK.out e (List.mem_of_mem_drop he)
    have HFIN := Lib.hid hfin
    clear hfin
    by_cases hcm : rcap = m
    · go_wp2_with fail
      go_ret3
      exact ⟨rfl, HFIN.out _ (by rw [if_pos hcm]; try rw [hcm, Nat.sub_self])⟩
    · go_wp2_with fail
      go_ret3
      exact ⟨rfl, HFIN.out _ (by rw [if_neg hcm])⟩
  · rw [if_neg hx]
    clear HO
    go_enter Try.func40, Try.ntmps40
    go_wp2_with fail
    go_at_call 39
    refine H.out.mono ?_
    rintro e W ⟨rfl, hW⟩
    have HW := Lib.hid hW
    clear hW
    go_wp2_with fail
    go_ret3
    exact ⟨rfl, Frm.of_below HW.out, HR.out.below HW.out⟩
end Go.Proofs.Ytgkjglpnnehdbaa
