/- The page's example: works() holds, in whatever world. -/
import Derived.Test.YtgkjglpnnehdbaaQ7
namespace Go.Proofs.Ytgkjglpnnehdbaa
open Go.RowKit Go.KK

theorem take_q {w : World} {b : Nat} {tk put : Int} {L : List EntD} (hq : QAt w b tk L put) (ops : List OpD) (v : Value) (hv : SlAt w v 27 (opRows ops)) :
    (∃ m : Nat, m ≤ L.length ∧ (matchAll L ops).1 = m ∧ (matchAll L ops).2.1 = 0 ∧ Calls Try.prog 15 #[.pointer (some ⟨b, 0, none⟩), v] w (TakePost b tk put L m (matchAll L ops).2.2 w)) ∨
    ((matchAll L ops).2.1 ≠ 0 ∧ Calls Try.prog 15 #[.pointer (some ⟨b, 0, none⟩), v] w (TakeNo (matchAll L ops) w)) := by
  by_cases h : (matchAll L ops).2.1 = 0
  · obtain ⟨m, h1, h2⟩ := matchGo_ok L ops 0 0 false (by omega) h
    exact .inl ⟨m, h2, h1, h, take_ok hq ops v hv m _ (by unfold matchAll at h ⊢; rw [← h1, ← h]) h2⟩
  · exact .inr ⟨h, take_no hq ops v hv h⟩

/-- The example's operation. -/
def op0 (v : Bool) : OpD := { x := fun i => if i = 0 then 2 else if i = 3 then 3 else 0, f := true, v := v }
def ent0 : EntD := ⟨op0 false, 5⟩
set_option maxHeartbeats 400000 in
theorem num_q (e : Int) (w : World) : Calls Try.prog 22 #[.int .i64 e] w fun r w' => r = .returned (.int .i64 e) ∧ w = w' := by
  go_enter Try.func22, Try.ntmps22
  go_wp2
  go_ret
  exact ⟨rfl, rfl⟩
theorem build33 (w : World) : (Instr.build 33 #[(0, .int .i64 2), (3, .int .u64 3), (7, .bool true)]).run Try.prog w = .ok (.agg (op0 false).cells.toArray) w := by
  simp [go_sem]
  rfl
/-- A slice of one operation. -/
theorem bslice44 (o : OpD) (w : World) : (Instr.buildSlice 44 1 #[(0, .agg o.cells.toArray)]).run Try.prog w = .ok (.slice (some ⟨w.heap.size, 0, none⟩) 1 1) (w.alloc (.cells o.cells.toArray 33)) := by
  unfold OpD.cells
  simp [go_sem]
theorem ne_nil (w : World) (g : Nat) : (binOp .eql 37 (.pointer (some ⟨g, 0, none⟩)) (.pointer none)).run Try.prog w = .ok (.bool false) w := by
  simp [go_sem]
set_option maxHeartbeats 1000000 in
theorem works_q (w : World) : Calls Try.prog 11 #[] w fun e w' => e = .returned (.bool true) ∧ Below w.heap.size w w' := by
  go_enter Try.func11, Try.ntmps11
  go_wp2_with fail
  refine (new_ok 10 w (by omega) (by omega)).mono ?_
  rintro e w1 ⟨rfl, hq1, hb1⟩
  go_wp2_with (first
    | (go_at_call 22; refine (num_q _ _).mono ?_; rintro e w' ⟨rfl, rfl⟩)
    | ((with_reducible refine g_build 33 ?_); refine wpList_build3 rfl 33 0 3 7 _ _ _ rfl _ (build33 _) ?_)
    | ((with_reducible refine g_store 33 ?_); refine wpList_store_new rfl 33 _ _ rfl _ (op0 false).cells.toArray rfl rfl ts33 rfl (all_oneCell_toArray (OpD.one _)) ?_)
    | ((with_reducible refine g_load 33 ?_); refine wpList_load_row rfl 33 _ rfl w1.heap.size rfl 33 (op0 false).cells.toArray (0, 0) _ (block_new w1 _) tu33 rfl ts33 ?_))
  have hB2 := (Below.refl w1.heap.size w1).alloc (Nat.le_refl _) (.cells (op0 false).cells.toArray 33)
  have hO2 := block_new w1 (.cells (op0 false).cells.toArray 33)
  have hlt := hq1.lt
  have hq2 := hq1.below hB2
  generalize w1.alloc (.cells (op0 false).cells.toArray 33) = w2 at *
  refine (put_ok hq2 (op0 false) 5 (by omega) (by omega) (by decide) (by decide) (by omega) (by decide) (by decide) rfl rfl (by simp) (by simp)).mono ?_
  rintro e w3 ⟨rfl, hq3, hg3⟩
  have hO3 := block_grown hO2 hg3 (fun e => by have := Option.some.inj e; omega)
  have hB3 : Below w.heap.size w w3 := (below_all hb1 hB2).grown hg3 (Nat.le_trans hb1.size hB2.size) (by rintro _ ⟨rfl⟩; exact Nat.le_refl _)
  have HO3 := Lib.hid hO3
  have HB3 := Lib.hid hB3
  clear hB2 hO2 hb1 hq1 hq2 hg3 hO3 hB3
  have e15 : oldB ([] ++ [⟨op0 false, 5⟩]) 15 10 = true := by decide
  have e14 : oldB ([] ++ [⟨op0 false, 5⟩]) 14 10 = false := by decide
  have e25 : oldB ([] ++ [⟨op0 false, 5⟩]) 25 (2 * 10) = true := by decide
  have e24 : oldB ([] ++ [⟨op0 false, 5⟩]) 24 (2 * 10) = false := by decide
  have HQ3 := Lib.hid hq3
  clear hq3
  go_wp2_with fail
  have hc := overdue_q HQ3.out 15 (by omega) (by omega)
  rw [e15] at hc
  refine hc.mono ?_
  clear hc
  rintro e w4 ⟨rfl, hb4⟩
  have HQ4 := Lib.hid (HQ3.out.below hb4)
  go_wp2_with fail
  have hc := overdue_q HQ4.out 14 (by omega) (by omega)
  rw [e14] at hc
  refine hc.mono ?_
  clear hc
  rintro e w5 ⟨rfl, hb5⟩
  have HQ5 := Lib.hid (HQ4.out.below hb5)
  go_wp2_with fail
  have hc := late_q HQ5.out 25 (by omega) (by omega)
  rw [e25] at hc
  refine hc.mono ?_
  clear hc
  rintro e w6 ⟨rfl, hb6⟩
  have HQ6 := Lib.hid (HQ5.out.below hb6)
  go_wp2_with fail
  have hc := late_q HQ6.out 24 (by omega) (by omega)
  rw [e24] at hc
  refine hc.mono ?_
  clear hc
  rintro e w7 ⟨rfl, hb7⟩
  have HQ7 := Lib.hid (HQ6.out.below hb7)
  have hb37 := below_all (below_all (below_all hb4 hb5) hb6) hb7
  have hO7 := block_below HO3.out hb37
  have HB7 := Lib.hid (below_all HB3.out hb37)
  have h26 : w7.cell? ⟨w1.heap.size, 26, none⟩ = some (.bool false) := by rw [cell_of_row _ _ 26 _ 33 _ hO7]; rfl
  have hf26 : w7.frozen? ⟨w1.heap.size, 26, none⟩ = false := frozen_of_row _ _ 26 _ 33 hO7
  clear hb4 hb5 hb6 hb7 hb37
  have hO8 : (w7.setCell ⟨w1.heap.size, 26, none⟩ (.bool true)).heap[w1.heap.size]? = some (.cells (op0 true).cells.toArray 33 (0, 0)) := heap_setCell_same w7 _ 26 _ 33 _ hO7
  have HO8 := Lib.hid hO8
  clear hO7 hO8
  go_wp2_with (first
    | ((with_reducible refine g_load 33 ?_); refine wpList_load_row rfl 33 _ rfl w1.heap.size rfl 33 (op0 true).cells.toArray (0, 0) _ HO8.out tu33 rfl ts33 ?_)
    | ((with_reducible refine g_bslice 44 ?_); refine wpList_bslice1 rfl 44 1 0 _ rfl _ (bslice44 _ _) ?_))
  have hlt7 : w.heap.size ≠ w1.heap.size := by omega
  have hB8 := setCell_grown (w := w7) w1.heap.size 26 (.bool true)
  have hq8 := HQ7.out.grown hB8 (fun e => hlt7 (Option.some.inj e))
  have hz8 : (w7.setCell ⟨w1.heap.size, 26, none⟩ (.bool true)).heap.size = w7.heap.size := by simp
  have hB8' : Below w.heap.size w (w7.setCell ⟨w1.heap.size, 26, none⟩ (.bool true)) := HB7.out.grown hB8 HB7.out.size (by rintro _ ⟨rfl⟩; omega)
  clear hB8
  generalize w7.setCell ⟨w1.heap.size, 26, none⟩ (.bool true) = w8 at *
  rw [← hz8]
  clear HO8 h26 hf26
  have hB9 := (Below.refl w8.heap.size w8).alloc (Nat.le_refl _) (.cells (op0 true).cells.toArray 33)
  have hO9 := block_new w8 (.cells (op0 true).cells.toArray 33)
  have hq9 := hq8.below hB9
  have hlt9 := hq8.lt
  generalize w8.alloc (.cells (op0 true).cells.toArray 33) = w9 at *
  have hv : SlAt w9 (.slice (some ⟨w8.heap.size, 0, none⟩) 1 1) 27 (opRows [op0 true]) := ⟨_, 1, rfl, by simp [opRows], fun i r hi => by
    have h0 : i = 0 := by have := (List.getElem?_eq_some_iff.1 hi).1; simp [opRows] at this; exact this
    subst h0
    simp [opRows] at hi
    subst hi
    exact ⟨_, 0, rfl, by simpa using range_block hO9, block_lt hO9⟩⟩
  refine (take_ok hq9 [op0 true] _ hv 1 1 (by decide) (by simp)).mono ?_
  rintro e w10 ⟨rfl, hq10, hg10⟩
  have hB10 : Below w.heap.size w w10 := (below_all hB8' hB9).grown hg10 (Nat.le_trans hB8'.size hB9.size) (by rintro _ ⟨rfl⟩; exact Nat.le_refl _)
  have HQ := Lib.hid hq10
  have HB := Lib.hid hB10
  clear hq10 hB10 hg10 hv hB9 hO9 hq9 hlt9 hq8 hB8' hz8 hlt7
  go_wp2_with (first
    | (go_at_call 22; refine (num_q _ _).mono ?_; rintro e w' ⟨rfl, rfl⟩)
    | (go_at_call 16; refine (len_q HQ.out).mono ?_; rintro e w' ⟨rfl, rfl⟩)
    | (go_at_call 19; refine (put0_q HQ.out).mono ?_; rintro e w' ⟨rfl, rfl⟩))
  go_ret
  exact ⟨rfl, HB.out⟩

end Go.Proofs.Ytgkjglpnnehdbaa
