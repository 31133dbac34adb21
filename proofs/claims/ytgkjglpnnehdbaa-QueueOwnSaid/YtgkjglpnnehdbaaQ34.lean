/- A queue that no call made answers so; walked. -/
import Derived.Test.YtgkjglpnnehdbaaQ28
import Derived.Test.YtgkjglpnnehdbaaQ8
set_option linter.unusedVariables false
namespace Go.Proofs.Ytgkjglpnnehdbaa
open Go.RowKit Go.KK

theorem z73_0 : z73[0]? = some (.int .u64 0) := by kernel_rfl
/-- No call made it: 'made' says no, in every world that extends w. -/
def UnMade (qv : Value) (w : World) : Prop := ∀ W, Below w.heap.size w W → Calls Try.prog 32 #[qv] W fun e w' => e = .returned (.bool false) ∧ W = w'
theorem UnMade.below {qv : Value} {w w' : World} (h : UnMade qv w) (hb : Below w.heap.size w w') : UnMade qv w' := fun W hW => h W (below_all hb hW)
theorem unmade_nil (w : World) : UnMade (.pointer none) w := fun W _ => made_nil W
theorem unmade_zero {w : World} {b : Nat} (hb : w.heap[b]? = some (.cells z73 73 (0, 0))) : UnMade (.pointer (some ⟨b, 0, none⟩)) w := fun W hW => by
  have := made_cell b 0 W (by rw [cell_of_row W b 0 _ 73 _ (block_below hb hW)]; exact z73_0)
  simpa using this

set_option maxHeartbeats 400000 in
theorem un_entries {qv : Value} {w : World} (h : UnMade qv w) : Calls Try.prog 14 #[qv] w fun e w' => e = .returned (.slice none 0 0) ∧ Below w.heap.size w w' := by
  have HM := Lib.hid (h w (Below.refl _ _))
  clear h
  go_enter Try.func14, Try.ntmps14
  go_wp2_with (go_at_call 32; refine HM.out.mono ?_; rintro e w' ⟨rfl, rfl⟩)
  go_ret
  exact ⟨rfl, Below.refl _ _⟩
set_option maxHeartbeats 400000 in
theorem un_put {qv : Value} {w : World} (h : UnMade qv w) (o : OpD) (now : Int) : Calls Try.prog 20 #[qv, .agg o.cells.toArray, .int .u64 now] w fun e w' => e = .returned (.tuple #[.int .i64 0, .int .i64 2]) ∧ Below w.heap.size w w' := by
  have HM := Lib.hid (h (w.alloc (.cells o.cells.toArray 33)) ((Below.refl _ _).alloc (Nat.le_refl _) _))
  clear h
  go_enter Try.func20, Try.ntmps20
  go_wp2_with (go_at_call 32; refine HM.out.mono ?_; rintro e w' ⟨rfl, rfl⟩)
  go_ret2
  exact ⟨rfl, (Below.refl _ _).alloc (Nat.le_refl _) _⟩
set_option maxHeartbeats 400000 in
theorem un_match {qv : Value} {w : World} (h : UnMade qv w) (v : Value) : Calls Try.prog 34 #[qv, v] w fun e w' => e = .returned (.tuple #[.int .i64 0, .int .i64 2, .int .i64 0]) ∧ Below w.heap.size w w' := by
  have HM := Lib.hid (h w (Below.refl _ _))
  clear h
  go_enter Try.func34, Try.ntmps34
  go_wp2_with (go_at_call 32; refine HM.out.mono ?_; rintro e w' ⟨rfl, rfl⟩)
  go_ret3
  exact ⟨rfl, Below.refl _ _⟩
set_option maxHeartbeats 400000 in
theorem un_take {qv : Value} {w : World} (h : UnMade qv w) (v : Value) : Calls Try.prog 15 #[qv, v] w fun e w' => e = .returned (.tuple #[.int .i64 0, .int .i64 2, .int .i64 0]) ∧ Below w.heap.size w w' := by
  have HM := Lib.hid (un_match h v)
  clear h
  go_enter Try.func15, Try.ntmps15
  go_wp2_with fail
  go_at_call 34
  refine HM.out.mono ?_
  rintro e W ⟨rfl, hW⟩
  have HW := Lib.hid hW
  clear hW
  go_wp2_with fail
  go_ret3
  exact ⟨rfl, HW.out⟩
set_option maxHeartbeats 400000 in
theorem un_len {qv : Value} {w : World} (h : UnMade qv w) : Calls Try.prog 16 #[qv] w fun e w' => e = .returned (.int .i64 0) ∧ Below w.heap.size w w' := by
  have HM := Lib.hid (h w (Below.refl _ _))
  clear h
  go_enter Try.func16, Try.ntmps16
  go_wp2_with (go_at_call 32; refine HM.out.mono ?_; rintro e w' ⟨rfl, rfl⟩)
  go_ret
  exact ⟨rfl, Below.refl _ _⟩
set_option maxHeartbeats 400000 in
theorem un_put0 {qv : Value} {w : World} (h : UnMade qv w) : Calls Try.prog 19 #[qv] w fun e w' => e = .returned (.int .i64 0) ∧ Below w.heap.size w w' := by
  have HM := Lib.hid (h w (Below.refl _ _))
  clear h
  go_enter Try.func19, Try.ntmps19
  go_wp2_with (go_at_call 32; refine HM.out.mono ?_; rintro e w' ⟨rfl, rfl⟩)
  go_ret
  exact ⟨rfl, Below.refl _ _⟩
set_option maxHeartbeats 400000 in
theorem un_copy {qv : Value} {w : World} (h : UnMade qv w) : Calls Try.prog 30 #[qv] w fun e w' => e = .returned (.pointer none) ∧ Below w.heap.size w w' := by
  have HM := Lib.hid (h w (Below.refl _ _))
  clear h
  go_enter Try.func30, Try.ntmps30
  go_wp2_with (go_at_call 32; refine HM.out.mono ?_; rintro e w' ⟨rfl, rfl⟩)
  go_ret
  exact ⟨rfl, Below.refl _ _⟩
end Go.Proofs.Ytgkjglpnnehdbaa
