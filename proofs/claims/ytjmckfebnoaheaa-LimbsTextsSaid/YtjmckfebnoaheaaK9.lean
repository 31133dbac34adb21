/- Words: more laws at one operation. No premise. -/
import Derived.Test.YtjmckfebnoaheaaK8
set_option linter.unusedVariables false
namespace Go.KK
open Go.RowKit
/-- 'arr[l:]' of an array behind a pointer, l below its length. -/
theorem sliceAt_low {P : Program} {t e : TypeId} {n sz : Nat} (hu : P.underlying t = some (.array n e)) (hs : (P.info? e).map (·.size) = some sz) (b o l : Nat) (hl : l < n) (w : World) :
    (Instr.sliceAt t (.pointer (some ⟨b, o, none⟩)) (some (.int .i64 l)) none none).run P w = .ok (.slice (some ⟨b, o + l * sz, none⟩) (n - l) (n - l)) w := by
  have hb : (Instr.sliceBound (.int .i64 l) n .sliceB).run P w = .ok l w := by
    unfold Instr.sliceBound
    simp [asIntOf]
    intro h
    omega
  have hne : ¬ n = l := by omega
  simp only [Instr.sliceAt, run_underlying hu, Instr.sureAddr, Instr.sliceBounds, Sem.run_bind, Sem.run_pure, Result.andThen_ok, hb, size_run hs, Option.isSome, Bool.false_eq_true, if_false, if_neg hne, Addr.add_mid]
section
variable {P : Program} {ops : Array Oper} {Q : Exit → Act → World → Prop} {a : Act} {w w0 : World} {op : Oper} {rest : List Oper}
/-- 'index t x i', its run known. -/
theorem wpList_index (hgd : op.guard = none) (t : TypeId) (x i : Operand) (ho : op.op = .index t x i) (v : Value)
    (hr : (Instr.index t (a.eval x) (a.eval i)).run P w = .ok v w) (h : wpList P ops Q rest (a.put op.dst v) w) : wpList P ops Q (op :: rest) a w :=
  wpList_plain hgd fun _ hK => by
    unfold Oper.wp execOp
    simp only [ho, Sem.run_bind, hr, Result.andThen_ok, Sem.run_pure, Oper.upon]
    exact hK _ _ h
/-- 'build', its run known. -/
theorem wpList_buildN (hgd : op.guard = none) (t : TypeId) (ps : Array (Nat × Operand)) (ps' : Array (Nat × Value)) (ho : op.op = .build t ps) (hp : ps.map (fun (i, x) => (i, a.eval x)) = ps') (v : Value)
    (hr : (Instr.build t ps').run P w = .ok v w) (h : wpList P ops Q rest (a.put op.dst v) w) : wpList P ops Q (op :: rest) a w :=
  wpList_plain hgd fun _ hK => by
    subst hp
    unfold Oper.wp execOp
    simp only [ho, Sem.run_bind, hr, Result.andThen_ok, Sem.run_pure, Oper.upon]
    exact hK _ _ h
theorem wpList_buildNg (hw : Region.wanted op (yielded ops a.tmps) = true) (t : TypeId) (ps : Array (Nat × Operand)) (ps' : Array (Nat × Value)) (ho : op.op = .build t ps) (hp : ps.map (fun (i, x) => (i, a.eval x)) = ps') (v : Value)
    (hr : (Instr.build t ps').run P w = .ok v w) (h : wpList P ops Q rest (a.put op.dst v) w) : wpList P ops Q (op :: rest) a w := by
  subst hp
  unfold wpList
  rw [if_pos hw]
  refine .inl ?_
  unfold Oper.wp execOp
  simp only [ho, Sem.run_bind, hr, Result.andThen_ok, Sem.run_pure, Oper.upon]
  exact h
/-- 'alloc t' of an array or struct, its zero known. -/
theorem wpList_alloc_zero (hgd : op.guard = none) (t : TypeId) (ho : op.op = .alloc t) (z : Array Value) (hz : ∀ w, (zeroValue t).run P w = .ok (.agg z) w)
    (h : wpList P ops Q rest (a.put op.dst (.pointer (some ⟨w.heap.size, 0, none⟩))) (w.alloc (.cells z t))) : wpList P ops Q (op :: rest) a w :=
  wpList_plain hgd fun _ hK => by
    unfold Oper.wp execOp
    simp only [ho]
    simp [go_sem, hz]
    exact hK _ _ h
theorem g_index {rest : List Oper} {d : Option Tmp} {x i : Operand} {ty : TypeId} {p : String} {af : Array Edge} {gd : Option (Nat × Bool)} (t : TypeId)
    (h : wpList P ops Q ({ dst := d, op := .index t x i, type := ty, pos := p, after := af, guard := gd } :: rest) a w) : wpList P ops Q ({ dst := d, op := .index t x i, type := ty, pos := p, after := af, guard := gd } :: rest) a w := h
end
end Go.KK
