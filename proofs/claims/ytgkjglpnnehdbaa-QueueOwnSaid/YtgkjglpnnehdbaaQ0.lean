/- The queue's data: operations, entries, a queue's block. No premise. -/
import Derived.Test.YtgkjglpnnehdbaaProg
import Derived.Test.YtgkjglpnnehdbaaK0
import Derived.IntWalk
namespace Go.Proofs.Ytgkjglpnnehdbaa
open Go.RowKit Go.KK

/-- An operation: 25 numbers, forced, void. -/
structure OpD where
  x : Nat → Int
  f : Bool
  v : Bool
def OpD.cells (o : OpD) : List Value :=
  [.int .i64 (o.x 0), .int .u32 (o.x 1), .int .u32 (o.x 2), .int .u64 (o.x 3), .int .u64 (o.x 4),
   .int .u64 (o.x 5), .int .u64 (o.x 6), .int .u64 (o.x 7), .int .u64 (o.x 8), .int .u64 (o.x 9), .int .u64 (o.x 10), .int .u64 (o.x 11), .int .u64 (o.x 12),
   .int .u64 (o.x 13), .int .u64 (o.x 14), .int .u64 (o.x 15), .int .u64 (o.x 16), .int .u64 (o.x 17), .int .u64 (o.x 18), .int .u64 (o.x 19), .int .u64 (o.x 20),
   .int .u64 (o.x 21), .int .u64 (o.x 22), .int .u64 (o.x 23), .int .u64 (o.x 24), .bool o.f, .bool o.v]
theorem OpD.length (o : OpD) : o.cells.length = 27 := rfl
theorem OpD.c0 (o : OpD) : o.cells[0]? = some (.int .i64 (o.x 0)) := rfl
theorem OpD.c3 (o : OpD) : o.cells[3]? = some (.int .u64 (o.x 3)) := rfl
theorem OpD.c25 (o : OpD) : o.cells[25]? = some (.bool o.f) := rfl
theorem OpD.c26 (o : OpD) : o.cells[26]? = some (.bool o.v) := rfl
theorem OpD.one (o : OpD) : ∀ v ∈ o.cells, v.oneCell' = true := by
  intro v hv
  simp only [OpD.cells, List.mem_cons, List.not_mem_nil, or_false] at hv
  rcases hv with h | h | h | h | h | h | h | h | h | h | h | h | h | h | h | h | h | h | h | h | h | h | h | h | h | h | h <;> (subst h; rfl)
def eq4 (x y : Nat → Int) (i : Nat) : Bool := x i == y i && (x (i + 1) == y (i + 1) && (x (i + 2) == y (i + 2) && x (i + 3) == y (i + 3)))
/-- Go's == on two operations. -/
def OpD.eqv (a b : OpD) : Bool :=
  a.x 0 == b.x 0 && (a.x 1 == b.x 1 && (a.x 2 == b.x 2 && (a.x 3 == b.x 3 && (a.x 4 == b.x 4 && ((eq4 a.x b.x 5 && eq4 a.x b.x 9) && (((eq4 a.x b.x 13 && eq4 a.x b.x 17) && eq4 a.x b.x 21) && (a.f == b.f && a.v == b.v)))))))
theorem OpD.eqv_refl (a : OpD) : a.eqv a = true := by simp [OpD.eqv, eq4]
/-- But for Void. -/
def OpD.same (a b : OpD) : Bool := OpD.eqv { a with v := false } { b with v := false }
theorem OpD.same_set (a b : OpD) : OpD.eqv { a with v := b.v } b = a.same b := by simp [OpD.same, OpD.eqv]
theorem OpD.same_refl (a : OpD) : a.same a = true := OpD.eqv_refl _

structure EntD where
  op : OpD
  at_ : Int
def EntD.cells (e : EntD) : List Value := e.op.cells ++ [.int .u64 e.at_]
theorem EntD.length (e : EntD) : e.cells.length = 28 := rfl
theorem EntD.c27 (e : EntD) : e.cells[27]? = some (.int .u64 e.at_) := rfl
theorem EntD.take (e : EntD) : e.cells.take 27 = e.op.cells := rfl
theorem EntD.one (e : EntD) : ∀ v ∈ e.cells, v.oneCell' = true := by
  intro v hv
  rcases List.mem_append.1 hv with h | h
  · exact e.op.one v h
  · simp only [List.mem_singleton] at h; subst h; rfl

/-- The tick is a uint64, and so is the amount. -/
def EntD.OK (e : EntD) : Prop := (0 ≤ e.at_ ∧ e.at_ ≤ 18446744073709551615) ∧ (0 ≤ e.op.x 3 ∧ e.op.x 3 ≤ 18446744073709551615)

/-- The cells of a queue's object. -/
structure QC (c : Array Value) (tk : Int) (fr : Nat) (L : List EntD) (put : Int) : Prop where
  size : c.size = 7172
  one : ∀ v ∈ c.toList, v.oneCell' = true
  tk0 : 1 ≤ tk
  tk1 : tk ≤ 4294967296
  h0 : c[0]? = some (.int .u64 tk)
  hf : c[7169]? = some (.int .i64 fr)
  hn : c[7170]? = some (.int .i64 L.length)
  hp : c[7171]? = some (.int .i64 put)
  frl : fr < 256
  len : L.length ≤ 256
  ok : ∀ e ∈ L, e.OK
  put0 : 0 ≤ put
  ent : ∀ i e, L[i]? = some e → ∀ j, j < 28 → c[1 + (fr + i) % 256 * 28 + j]? = e.cells[j]?

/-- A queue lies in block b. -/
def QAt (w : World) (b : Nat) (tk : Int) (L : List EntD) (put : Int) : Prop := ∃ c fr, w.heap[b]? = some (.cells c 73 (0, 0)) ∧ QC c tk fr L put
theorem QAt.below {w w' : World} {b : Nat} {tk put : Int} {L : List EntD} (h : QAt w b tk L put) (hb : Below w.heap.size w w') : QAt w' b tk L put := by
  obtain ⟨c, fr, h1, h2⟩ := h; exact ⟨c, fr, block_below h1 hb, h2⟩
theorem QAt.grown {w w' : World} {b : Nat} {tk put : Int} {L : List EntD} (h : QAt w b tk L put) {row : Option Nat} (hg : w.grownBy w' row) (hne : some b ≠ row) : QAt w' b tk L put := by
  obtain ⟨c, fr, h1, h2⟩ := h; exact ⟨c, fr, block_grown h1 hg hne, h2⟩
theorem QAt.lt {w : World} {b : Nat} {tk put : Int} {L : List EntD} (h : QAt w b tk L put) : b < w.heap.size := by
  obtain ⟨c, fr, h1, h2⟩ := h; exact block_lt h1
theorem QAt.cn {w : World} {b : Nat} {tk put : Int} {L : List EntD} (h : QAt w b tk L put) : w.cell? ⟨b, 7170, none⟩ = some (.int .i64 L.length) := by
  obtain ⟨c, fr, h1, h2⟩ := h; rw [cell_of_row w b 7170 c 73 _ h1]; exact h2.hn
theorem QAt.len {w : World} {b : Nat} {tk put : Int} {L : List EntD} (h : QAt w b tk L put) : L.length ≤ 256 := by
  obtain ⟨c, fr, h1, h2⟩ := h; exact h2.len
theorem QC.range {w : World} {b : Nat} {c : Array Value} {tk : Int} {fr : Nat} {L : List EntD} {put : Int} (hb : w.heap[b]? = some (.cells c 73 (0, 0))) (hq : QC c tk fr L put) {i : Nat} {e : EntD} (hi : L[i]? = some e) :
    w.rangeAt b (1 + (fr + i) % 256 * 28) e.cells := fun j v hv => by
  rw [cell_of_row w b _ c 73 _ hb, hq.ent i e hi j (by have := (List.getElem?_eq_some_iff.1 hv).1; rw [EntD.length] at this; exact this)]
  exact hv

/-- Is the head so far beyond its tick? -/
def oldB (L : List EntD) (now by_ : Int) : Bool := match L with
  | [] => false
  | e :: _ => decide (e.at_ ≤ now) && decide (by_ ≤ now - e.at_)
theorem oldB_lt {x : EntD} {L : List EntD} {now by_ : Int} (h : now < x.at_) : oldB (x :: L) now by_ = false := by simp [oldB]; omega
theorem wrap_mod (fr i : Nat) (h : fr < 256) (h' : i < 256) : (IntKind.i64.wrap ((fr : Int) + i)).tmod 256 = (((fr + i) % 256 : Nat) : Int) := by
  rw [IntWalk.i64_in _ (by omega), Int.tmod_eq_emod_of_nonneg (by omega)]
  omega

/-! ### The types -/
theorem tu33 : Try.prog.underlying 33 = some (.struct (Try.prog.fieldsOf 33)) := by kernel_rfl
theorem tu46 : Try.prog.underlying 46 = some (.struct (Try.prog.fieldsOf 46)) := by kernel_rfl
theorem tu73 : Try.prog.underlying 73 = some (.struct (Try.prog.fieldsOf 73)) := by kernel_rfl
theorem ts33 : (Try.prog.info? 33).map (·.size) = some 27 := by kernel_rfl
theorem ts46 : (Try.prog.info? 46).map (·.size) = some 28 := by kernel_rfl
theorem ts73 : (Try.prog.info? 73).map (·.size) = some 7172 := by kernel_rfl

theorem tu24 : Try.prog.underlying 24 = some (.int .u64) := by kernel_rfl
theorem f46_1 : ((Try.prog.fieldsOf 46)[1]?).map (fun f => (f.type, f.offset)) = some (24, 27) := by kernel_rfl
theorem f46_0 : ((Try.prog.fieldsOf 46)[0]?).map (fun f => (f.type, f.offset)) = some (33, 0) := by kernel_rfl
theorem field_at (e : EntD) (w : World) : (Instr.field 46 (.agg e.cells.toArray) 1).run Try.prog w = .ok (.int .u64 e.at_) w :=
  field_cell tu46 f46_1 tu24 rfl (by simpa using e.c27)
theorem field_op (e : EntD) (w : World) : (Instr.field 46 (.agg e.cells.toArray) 0).run Try.prog w = .ok (.agg e.op.cells.toArray) w :=
  (field_row tu46 f46_0 tu33 rfl ts33).trans (by rw [show e.cells.toArray.extract 0 (0 + 27) = e.op.cells.toArray from by simp [e.take]])
/-- A new queue's cells, the ticks 0. -/
noncomputable def z73 : Array Value := match (Try.prog.info? 73).bind (·.zero) with | some (.agg c) => c | _ => #[]
theorem z73_size : z73.size = 7172 := by kernel_rfl
theorem z73_info : (Try.prog.info? 73).bind (·.zero) = some (.agg z73) := by kernel_rfl
theorem z73_one : z73.toList.all (·.oneCell') = true := by kernel_rfl
theorem z73_7169 : z73[7169]? = some (.int .i64 0) := by kernel_rfl
theorem z73_7170 : z73[7170]? = some (.int .i64 0) := by kernel_rfl
theorem z73_7171 : z73[7171]? = some (.int .i64 0) := by kernel_rfl
theorem zero73 (w : World) : (zeroValue 73).run Try.prog w = .ok (.agg z73) w := by
  have h := z73_info
  cases hq : Try.prog.info? 73 with
  | none => simp [hq] at h
  | some i => simp [hq] at h; simp [zeroValue, typeInfo, hq, h]
theorem z73_ne : ¬ z73 = #[] := fun h => by have := z73_size; rw [h] at this; simp at this
theorem zq_qc (tk : Int) (h0 : 1 ≤ tk) (h1 : tk ≤ 4294967296) : QC (z73.setIfInBounds 0 (.int .u64 tk)) tk 0 [] 0 where
  size := by simp [z73_size]
  one := by
    intro v hv
    simp only [Array.toList_setIfInBounds] at hv
    rcases List.mem_or_eq_of_mem_set hv with h | h
    · exact List.all_eq_true.1 z73_one v h
    · subst h; rfl
  tk0 := h0
  tk1 := h1
  h0 := by simp [z73_size]
  hf := by simp [z73_7169]
  hn := by simp [z73_7170]
  hp := by simp [z73_7171]
  frl := by omega
  len := by simp
  ok := by simp
  put0 := by omega
  ent := by simp
attribute [irreducible] z73
end Go.Proofs.Ytgkjglpnnehdbaa
