/- Same, the program's and the page's, walked. -/
import Derived.Test.YtgkjglpnnehdbaaQ2
namespace Go.Proofs.Ytgkjglpnnehdbaa
open Go.RowKit Go.KK

theorem OpD.set26 (a : OpD) (v : Bool) : a.cells.set 26 (.bool v) = OpD.cells { a with v := v } := rfl
set_option maxHeartbeats 400000 in
theorem same_q (a b : OpD) (w : World) : Calls Try.prog 9 #[.agg a.cells.toArray, .agg b.cells.toArray] w fun e w' => e = .returned (.bool (a.same b)) ∧ Below w.heap.size w w' := by
  have a26 := a.c26
  have b26 := b.c26
  have sa := a.set26 false
  have sb := b.set26 false
  have he := eql33 { a with v := false } { b with v := false }
  go_enter Try.func9, Try.ntmps9
  go_wp2_with (first
    | (refine wpList_load_row rfl 33 _ rfl w.heap.size rfl 33 (OpD.cells { a with v := false }).toArray (0, 0) _ (heap_alloc2_old _ _ _) tu33 rfl ts33 ?_)
    | (refine wpList_load_row rfl 33 _ rfl (w.heap.size + 1) rfl 33 (OpD.cells { b with v := false }).toArray (0, 0) _ (heap_alloc2_new _ _ _) tu33 rfl ts33 ?_))
  go_ret
  exact ⟨rfl, ((Below.refl _ _).alloc (Nat.le_refl _) _).alloc (by simp) _⟩

set_option maxHeartbeats 400000 in
theorem same_r (a b : OpD) (w : World) : Calls Try.prog 10 #[.agg a.cells.toArray, .agg b.cells.toArray] w fun e w' => e = .returned (.bool (a.same b)) ∧ Below w.heap.size w w' := by
  have a26 := a.c26
  have b26 := b.c26
  have sa := a.set26 b.v
  have he := eql33 { a with v := b.v } b
  have hs := a.same_set b
  go_enter Try.func10, Try.ntmps10
  go_wp2_with (first
    | (refine wpList_load_row rfl 33 _ rfl w.heap.size rfl 33 (OpD.cells { a with v := b.v }).toArray (0, 0) _ (heap_alloc2_old _ _ _) tu33 rfl ts33 ?_)
    | (refine wpList_load_row rfl 33 _ rfl (w.heap.size + 1) rfl 33 b.cells.toArray (0, 0) _ (heap_alloc2_new _ _ _) tu33 rfl ts33 ?_))
  go_ret
  exact ⟨rfl, ((Below.refl _ _).alloc (Nat.le_refl _) _).alloc (by simp) _⟩

end Go.Proofs.Ytgkjglpnnehdbaa
