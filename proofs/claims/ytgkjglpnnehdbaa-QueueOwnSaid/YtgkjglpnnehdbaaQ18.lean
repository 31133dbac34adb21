/- The page's queue: Overdue, Late, Entries, Clear, walked. -/
import Derived.Test.YtgkjglpnnehdbaaQ17
set_option linter.unusedVariables false
namespace Go.Proofs.Ytgkjglpnnehdbaa
open Go.RowKit Go.KK

theorem RAt.tk {B : Nat} {w : World} {r : Nat} {tk N : Int} {L : List EntD} (h : RAt B w r tk L N) : w.cell? ⟨r, 0, none⟩ = some (.int .u64 tk) := by
  obtain ⟨_, _, h0, _⟩ := h.open; exact h0
set_option maxHeartbeats 400000 in
theorem roverdue {B : Nat} {w : World} {r : Nat} {tk N : Int} {L : List EntD} (h : RAt B w r tk L N) (now : Int) (hn0 : 0 ≤ now) (hn1 : now ≤ 18446744073709551615) :
    Calls Try.prog 27 #[.pointer (some ⟨r, 0, none⟩), .int .u64 now] w fun e w' => e = .returned (.bool (oldB L now tk)) ∧ w = w' := by
  have H := Lib.hid (rold h now tk hn0 hn1)
  have h0 := h.tk
  clear h
  go_enter Try.func27, Try.ntmps27
  go_wp2_with (go_at_call 44; refine H.out.mono ?_; rintro e w' ⟨rfl, rfl⟩)
  go_ret
  exact ⟨rfl, rfl⟩
set_option maxHeartbeats 400000 in
theorem rlate {B : Nat} {w : World} {r : Nat} {tk N : Int} {L : List EntD} (h : RAt B w r tk L N) (ht0 : 1 ≤ tk) (ht1 : tk ≤ 4294967296) (now : Int) (hn0 : 0 ≤ now) (hn1 : now ≤ 18446744073709551615) :
    Calls Try.prog 28 #[.pointer (some ⟨r, 0, none⟩), .int .u64 now] w fun e w' => e = .returned (.bool (oldB L now (2 * tk))) ∧ w = w' := by
  have H := Lib.hid (rold h now (2 * tk) hn0 hn1)
  have h0 := h.tk
  have hw : IntKind.u64.wrap (2 * tk) = 2 * tk := IntWalk.u64_in _ (by omega)
  clear h
  go_enter Try.func28, Try.ntmps28
  go_wp2_with (go_at_call 44; refine H.out.mono ?_; rintro e w' ⟨rfl, rfl⟩)
  go_ret
  exact ⟨rfl, rfl⟩

theorem tu65 : Try.prog.underlying 65 = some (.slice 83) := by kernel_rfl
theorem tu83 : Try.prog.underlying 83 = some (.struct (Try.prog.fieldsOf 83)) := by kernel_rfl
theorem ts83 : (Try.prog.info? 83).map (·.size) = some 28 := by kernel_rfl
theorem info83 : (Try.prog.info? 83).map (fun i => (i.zero, i.size, i.bytes)) = some (some (.agg z46.toArray), 28, 208) := by kernel_rfl
theorem entRows_one (L : List EntD) : ∀ u ∈ (entRows L).flatten, u.oneCell' = true := fun u hu => by
  obtain ⟨r, hr, hu⟩ := List.mem_flatten.1 hu
  obtain ⟨e, _, rfl⟩ := List.mem_map.1 hr
  exact e.one u hu
set_option maxHeartbeats 400000 in
theorem rentries {B : Nat} {w : World} {r : Nat} {tk N : Int} {L : List EntD} (h : RAt B w r tk L N) :
    Calls Try.prog 45 #[.pointer (some ⟨r, 0, none⟩)] w fun e w' => ∃ v, e = .returned v ∧ Below w.heap.size w w' ∧ SOwn w' w.heap.size 83 28 v L.length (entRows L).flatten := by
  obtain ⟨A, cap, h0, h1, h2, h3, h4, h5, h6⟩ := h.open
  have HS := Lib.hid (h5.src tu65 (entRows_one L))
  clear h h4 h5 h6
  go_enter Try.func45, Try.ntmps45
  go_wp2_with (at_builtin; refine wpList_append_sown rfl _ _ 65 65 rfl w.heap.size 83 _ 28 208 tu65 info83 rfl (by decide) (.slice none 0 0) 0 [] rfl (SOwn.nil _ _ _ _) _ _ _ rfl HS.out (by unfold maxLen; omega) (by omega) (Nat.le_refl _) RT rfl ?_; intro v w' hv hf _; have HV := Lib.hid hv; have HF := Lib.hid hf; clear hv hf)
  go_ret
  refine ⟨v, rfl, HF.out.below (Nat.le_refl _) (Nat.le_refl _), by simpa using HV.out⟩
set_option maxHeartbeats 400000 in
theorem rclear {B : Nat} {w : World} (hB : B ≤ w.heap.size) {r : Nat} {tk N : Int} {L : List EntD} (h : RAt B w r tk L N) :
    Calls Try.prog 41 #[.pointer (some ⟨r, 0, none⟩)] w fun e w' => ∃ v, e = .returned v ∧ Frm B RT w w' ∧ SOwn w' w.heap.size 83 28 v L.length (entRows L).flatten ∧ RAt B w' r tk [] N := by
  have H := Lib.hid (rentries h)
  have HR := Lib.hid h
  clear h
  go_enter Try.func41, Try.ntmps41
  go_wp2_with fail
  go_at_call 45
  refine H.out.mono ?_
  rintro e W ⟨v, rfl, hw, hv⟩
  obtain ⟨_, _, _, hc, _⟩ := (HR.out.below hw).open
  have hfz : ∀ j, W.frozen? ⟨r, j, none⟩ = false := by obtain ⟨_, h1, _⟩ := HR.out.below hw; exact fun j => frozen_of_row _ r j _ 67 h1
  have HW := Lib.hid hw
  have HV := Lib.hid hv
  clear hw hv
  go_wp2_with fail
  go_ret
  obtain ⟨u, h1, h2, h3, h4, h5⟩ := HR.out.below HW.out
  have hg := setCell_grown (w := W) r 1 (.slice none 0 0)
  have hs : (W.setCell ⟨r, 1, none⟩ (.slice none 0 0)).heap[r]? = some (.cells #[.int .u64 tk, .slice none 0 0, .int .i64 N] 67 (0, 0)) := heap_setCell_same _ _ _ _ _ _ h1
  refine ⟨v, rfl, (Frm.of_below HW.out).trans (Frm.of_grown hg h2 h1 rfl), HV.out.grown hg h1 (by decide), _, hs, h2, SOwn.nil _ _ _ _, by simp, by simp⟩
end Go.Proofs.Ytgkjglpnnehdbaa
