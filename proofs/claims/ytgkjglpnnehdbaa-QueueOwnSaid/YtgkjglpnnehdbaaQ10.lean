/- QueueSame, walked: true, and what was there is as it was. -/
import Derived.Test.YtgkjglpnnehdbaaQ8
import Derived.Test.YtgkjglpnnehdbaaQ9
namespace Go.Proofs.Ytgkjglpnnehdbaa
open Go.RowKit Go.KK

set_option maxHeartbeats 1000000 in
theorem QueueSame_walk (a b : OpD) (w : World) : Calls Try.prog 3 #[.agg a.cells.toArray, .agg b.cells.toArray] w fun e w' => e = .returned (.bool true) ∧ Below w.heap.size w w' := by
  have HS : Hid (∀ (x y : OpD) (W : World) (e : ExtOf W), Calls Try.prog 9 #[.agg x.cells.toArray, .agg y.cells.toArray] e.wd fun r w' => r = .returned (.bool (x.same y)) ∧ ∃ e' : ExtOf W, w' = e'.wd) := Lib.hid fun x y W e => calls_ext e (same_q _ _ _)
  have HR : Hid (∀ (x y : OpD) (W : World) (e : ExtOf W), Calls Try.prog 10 #[.agg x.cells.toArray, .agg y.cells.toArray] e.wd fun r w' => r = .returned (.bool (x.same y)) ∧ ∃ e' : ExtOf W, w' = e'.wd) := Lib.hid fun x y W e => calls_ext e (same_r _ _ _)
  have HW : Hid (∀ (W : World) (e : ExtOf W), Calls Try.prog 11 #[] e.wd fun r w' => r = .returned (.bool true) ∧ ∃ e' : ExtOf W, w' = e'.wd) := Lib.hid fun W e => calls_ext e (works_q _)
  have hr := a.same_refl
  go_enter Try.func3, Try.ntmps3
  go_wp2_with fail
  have hA := heap_alloc2_old w (.cells a.cells.toArray 33) (.cells b.cells.toArray 33)
  have hB := heap_alloc2_new w (.cells a.cells.toArray 33) (.cells b.cells.toArray 33)
  have hBel : Below w.heap.size w ((w.alloc (.cells a.cells.toArray 33)).alloc (.cells b.cells.toArray 33)) := ((Below.refl _ _).alloc (Nat.le_refl _) _).alloc (by simp) _
  generalize (w.alloc (.cells a.cells.toArray 33)).alloc (.cells b.cells.toArray 33) = W at *
  have HA := Lib.hid fun e : ExtOf W => range_block (e.block hA)
  have HB := Lib.hid fun e : ExtOf W => range_block (e.block hB)
  clear hA hB
  refine wp_region_ext (by kernel_rfl) (by kernel_rfl) ?_
  refine wpQuiet_load_ext rfl 33 _ rfl w.heap.size 0 rfl a.cells _ HA.out tu33 rfl ts33 ?_
  refine wpQuiet_load_ext rfl 33 _ rfl (w.heap.size + 1) 0 rfl b.cells _ HB.out tu33 rfl ts33 ?_
  quiet_step ((go_at_call 9; exact HS.out _ _ _ _))
  refine wpQuiet_load_ext rfl 33 _ rfl w.heap.size 0 rfl a.cells _ HA.out tu33 rfl ts33 ?_
  refine wpQuiet_load_ext rfl 33 _ rfl (w.heap.size + 1) 0 rfl b.cells _ HB.out tu33 rfl ts33 ?_
  quiet_step ((go_at_call 10; exact HR.out _ _ _ _))
  iterate 2 (quiet_step (fail))
  refine wpQuiet_load_extg rfl 33 _ rfl w.heap.size 0 rfl a.cells _ HA.out tu33 rfl ts33 ?_
  refine wpQuiet_load_extg rfl 33 _ rfl w.heap.size 0 rfl a.cells _ HA.out tu33 rfl ts33 ?_
  quiet_step ((go_at_call 9; exact HS.out _ _ _ _))
  iterate 2 (quiet_step (fail))
  quiet_step ((go_at_call 11; exact HW.out _ _))
  iterate 2 (quiet_step (fail))
  refine wpQuiet_nil ?_
  rintro _ ⟨e, rfl⟩
  go_wp2_with fail
  go_ret
  exact ⟨rfl, below_all hBel e.below⟩

section
variable {H : Type} {enc : TypeId × Value → H} {w : World} {base b2 : Nat} {spare : Nat → Bool} {held : Bool} {r : Reach} {v : Value} {d : DataW H} {p : List MemPlace}
theorem agg_form {P : Program} {t : TypeId} {fs : Array Field} (hu : P.underlying t = some (.struct fs)) (hv : Value.okWide P w r base t v) : ∃ cs, v = .agg cs := by
  unfold Value.okWide at hv
  rw [hu] at hv
  obtain ⟨cs, h, _⟩ := hv
  exact ⟨cs, h⟩
theorem op_arg (hv : Value.okWide Try.prog w r base 33 v) (h : DataW.Trod enc Try.prog w b2 spare held 33 v d p) : ∃ o : OpD, v = .agg o.cells.toArray ∧ 0 ≤ o.x 3 ∧ o.x 3 ≤ 18446744073709551615 := by
  obtain ⟨cs, rfl⟩ := agg_form tu33 hv
  obtain ⟨fuel, h⟩ := h
  obtain ⟨o, ho, h3⟩ := op_open h
  exact ⟨o, by rw [← ho]; simp [Value.cells], h3⟩
end
end Go.Proofs.Ytgkjglpnnehdbaa
