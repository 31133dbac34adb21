/- Go's == on operations; Same, the program's and the page's. -/
import Derived.Test.YtgkjglpnnehdbaaQ1
namespace Go.Proofs.Ytgkjglpnnehdbaa
open Go.RowKit Go.KK

theorem tu22 : Try.prog.underlying 22 = some (.int .i64) := by kernel_rfl
theorem tu23 : Try.prog.underlying 23 = some (.int .u32) := by kernel_rfl
theorem tu4 : Try.prog.underlying 4 = some .bool := by kernel_rfl
theorem tu26 : Try.prog.underlying 26 = some (.array 4 24) := by kernel_rfl
theorem tu29 : Try.prog.underlying 29 = some (.array 4 24) := by kernel_rfl
theorem tu28 : Try.prog.underlying 28 = some (.struct (Try.prog.fieldsOf 28)) := by kernel_rfl
theorem tu31 : Try.prog.underlying 31 = some (.struct (Try.prog.fieldsOf 31)) := by kernel_rfl
theorem ts24 : (Try.prog.info? 24).map (·.size) = some 1 := by kernel_rfl
theorem ts26 : (Try.prog.info? 26).map (·.size) = some 4 := by kernel_rfl
theorem ts29 : (Try.prog.info? 29).map (·.size) = some 4 := by kernel_rfl
theorem ts28 : (Try.prog.info? 28).map (·.size) = some 8 := by kernel_rfl
theorem ts31 : (Try.prog.info? 31).map (·.size) = some 12 := by kernel_rfl
/-- The fields of the three structs: name, type, place. -/
def fl (fs : Array Field) : List (Bool × Nat × Nat) := fs.toList.map fun f => (f.name == "_", f.type, f.offset)
theorem fl33 : fl (Try.prog.fieldsOf 33) = [(false, 22, 0), (false, 23, 1), (false, 23, 2), (false, 24, 3), (false, 24, 4), (false, 28, 5), (false, 31, 13), (false, 4, 25), (false, 4, 26)] := by kernel_rfl
theorem fl28 : fl (Try.prog.fieldsOf 28) = [(false, 26, 0), (false, 26, 4)] := by kernel_rfl
theorem fl31 : fl (Try.prog.fieldsOf 31) = [(false, 28, 0), (false, 29, 8)] := by kernel_rfl
theorem st33 : Try.prog.stoodInHeld 33 = false := by kernel_rfl
theorem st28 : Try.prog.stoodInHeld 28 = false := by kernel_rfl
theorem st31 : Try.prog.stoodInHeld 31 = false := by kernel_rfl

/-- A struct held against another, field by field. -/
def eqF (P : Program) (d : Nat) (xs ys : Array Value) : List (Bool × Nat × Nat) → Sem Bool
  | [] => pure true
  | (u, t, o) :: r => if u = true then eqF P d xs ys r else do
      let a ← part t xs o
      let b ← part t ys o
      let q ← Op.equalIn d t a b
      if (!q) = true then pure false else eqF P d xs ys r
theorem eqFields_eq (P : Program) (d : Nat) (xs ys : Array Value) (fs : List Field) : Op.eqFields d xs ys fs = eqF P d xs ys (fs.map fun f => (f.name == "_", f.type, f.offset)) := by
  induction fs with
  | nil => rfl
  | cons f fs ih =>
    simp only [Op.eqFields, List.map_cons, eqF, ih]
    by_cases h : f.name = "_" <;> simp [h]
theorem eqF_cons {P : Program} {d : Nat} {xs ys : Array Value} {t o : Nat} {r : List (Bool × Nat × Nat)} {w : World} {a b : Value} {q s : Bool} (ha : (part t xs o).run P w = .ok a w) (hb : (part t ys o).run P w = .ok b w)
    (he : (Op.equalIn d t a b).run P w = .ok q w) (hr : (eqF P d xs ys r).run P w = .ok s w) : (eqF P d xs ys ((false, t, o) :: r)).run P w = .ok (q && s) w := by
  simp only [eqF, Bool.false_eq_true, if_false, Sem.run_bind, ha, hb, he, Result.andThen_ok]
  cases q <;> simp [hr]
theorem eqF_one {P : Program} {d : Nat} {xs ys : Array Value} {t o : Nat} {w : World} {a b : Value} {q : Bool} (ha : (part t xs o).run P w = .ok a w) (hb : (part t ys o).run P w = .ok b w)
    (he : (Op.equalIn d t a b).run P w = .ok q w) : (eqF P d xs ys [(false, t, o)]).run P w = .ok q w := by
  have := eqF_cons (r := []) ha hb he (s := true) (by simp [eqF])
  rwa [Bool.and_true] at this
theorem equal_struct {P : Program} {w : World} (d : Nat) (t : TypeId) (xs ys : Array Value) (l : List (Bool × Nat × Nat)) (q : Bool) (hu : P.underlying t = some (.struct (P.fieldsOf t))) (hs : P.stoodInHeld t = false) (hl : fl (P.fieldsOf t) = l)
    (h : (eqF P d xs ys l).run P w = .ok q w) : (Op.equalIn (d + 1) t (.agg xs) (.agg ys)).run P w = .ok q w := by
  rw [run_equalIn_struct w d t xs ys hu hs, eqFields_eq P, show (P.fieldsOf t).toList.map (fun f => (f.name == "_", f.type, f.offset)) = l from hl]
  exact h

def arr4 (x : Nat → Int) (i : Nat) : Array Value := #[.int .u64 (x i), .int .u64 (x (i + 1)), .int .u64 (x (i + 2)), .int .u64 (x (i + 3))]
def arr8 (x : Nat → Int) (i : Nat) : Array Value := #[.int .u64 (x i), .int .u64 (x (i + 1)), .int .u64 (x (i + 2)), .int .u64 (x (i + 3)), .int .u64 (x (i + 4)), .int .u64 (x (i + 5)), .int .u64 (x (i + 6)), .int .u64 (x (i + 7))]
def arr12 (x : Nat → Int) (i : Nat) : Array Value := #[.int .u64 (x i), .int .u64 (x (i + 1)), .int .u64 (x (i + 2)), .int .u64 (x (i + 3)), .int .u64 (x (i + 4)), .int .u64 (x (i + 5)), .int .u64 (x (i + 6)), .int .u64 (x (i + 7)), .int .u64 (x (i + 8)), .int .u64 (x (i + 9)), .int .u64 (x (i + 10)), .int .u64 (x (i + 11))]
theorem eq26 (d : Nat) (x y : Nat → Int) (i : Nat) (w : World) : (Op.equalIn (d + 2) 26 (.agg (arr4 x i)) (.agg (arr4 y i))).run Try.prog w = .ok (eq4 x y i) w := eq_arr4 tu26 tu24 ts24 d _ _ _ _ _ _ _ _
theorem eq29 (d : Nat) (x y : Nat → Int) (i : Nat) (w : World) : (Op.equalIn (d + 2) 29 (.agg (arr4 x i)) (.agg (arr4 y i))).run Try.prog w = .ok (eq4 x y i) w := eq_arr4 tu29 tu24 ts24 d _ _ _ _ _ _ _ _
theorem eq28 (d : Nat) (x y : Nat → Int) (i : Nat) (w : World) : (Op.equalIn (d + 3) 28 (.agg (arr8 x i)) (.agg (arr8 y i))).run Try.prog w = .ok (eq4 x y i && eq4 x y (i + 4)) w :=
  equal_struct (d + 2) 28 _ _ _ _ tu28 st28 fl28 (eqF_cons (a := .agg (arr4 x i)) (b := .agg (arr4 y i)) (part_row tu26 rfl ts26) (part_row tu26 rfl ts26) (eq26 d x y i w)
    (eqF_one (a := .agg (arr4 x (i + 4))) (b := .agg (arr4 y (i + 4))) (part_row tu26 rfl ts26) (part_row tu26 rfl ts26) (eq26 d x y (i + 4) w)))
theorem eq31 (d : Nat) (x y : Nat → Int) (i : Nat) (w : World) : (Op.equalIn (d + 4) 31 (.agg (arr12 x i)) (.agg (arr12 y i))).run Try.prog w = .ok ((eq4 x y i && eq4 x y (i + 4)) && eq4 x y (i + 8)) w :=
  equal_struct (d + 3) 31 _ _ _ _ tu31 st31 fl31 (eqF_cons (a := .agg (arr8 x i)) (b := .agg (arr8 y i)) (part_row tu28 rfl ts28) (part_row tu28 rfl ts28) (eq28 d x y i w)
    (eqF_one (a := .agg (arr4 x (i + 8))) (b := .agg (arr4 y (i + 8))) (part_row tu29 rfl ts29) (part_row tu29 rfl ts29) (eq29 (d + 1) x y (i + 8) w)))
theorem eqInt (d : Nat) (t : TypeId) (k : IntKind) (a b : Int) (w : World) (h : Try.prog.underlying t = some (.int k)) : (Op.equalIn (d + 1) t (.int k a) (.int k b)).run Try.prog w = .ok (a == b) w := run_equalIn_int w d t k k a b h
theorem eq33 (d : Nat) (a b : OpD) (w : World) : (Op.equalIn (d + 5) 33 (.agg a.cells.toArray) (.agg b.cells.toArray)).run Try.prog w = .ok (a.eqv b) w :=
  equal_struct (d + 4) 33 _ _ _ _ tu33 st33 fl33
    (eqF_cons (part_cell tu22 rfl rfl) (part_cell tu22 rfl rfl) (eqInt (d + 3) 22 .i64 (a.x 0) (b.x 0) w tu22)
    (eqF_cons (part_cell tu23 rfl rfl) (part_cell tu23 rfl rfl) (eqInt (d + 3) 23 .u32 (a.x 1) (b.x 1) w tu23)
    (eqF_cons (part_cell tu23 rfl rfl) (part_cell tu23 rfl rfl) (eqInt (d + 3) 23 .u32 (a.x 2) (b.x 2) w tu23)
    (eqF_cons (part_cell tu24 rfl rfl) (part_cell tu24 rfl rfl) (eqInt (d + 3) 24 .u64 (a.x 3) (b.x 3) w tu24)
    (eqF_cons (part_cell tu24 rfl rfl) (part_cell tu24 rfl rfl) (eqInt (d + 3) 24 .u64 (a.x 4) (b.x 4) w tu24)
    (eqF_cons (a := .agg (arr8 a.x 5)) (b := .agg (arr8 b.x 5)) (part_row tu28 rfl ts28) (part_row tu28 rfl ts28) (eq28 (d + 1) a.x b.x 5 w)
    (eqF_cons (a := .agg (arr12 a.x 13)) (b := .agg (arr12 b.x 13)) (part_row tu31 rfl ts31) (part_row tu31 rfl ts31) (eq31 d a.x b.x 13 w)
    (eqF_cons (part_cell tu4 rfl rfl) (part_cell tu4 rfl rfl) (run_equalIn_bool w (d + 3) 4 a.f b.f tu4)
    (eqF_one (part_cell tu4 rfl rfl) (part_cell tu4 rfl rfl) (run_equalIn_bool w (d + 3) 4 a.v b.v tu4))))))))))
theorem eql33 (a b : OpD) (w : World) : (binOp .eql 33 (.agg a.cells.toArray) (.agg b.cells.toArray)).run Try.prog w = .ok (.bool (a.eqv b)) w := by
  rw [run_eql_struct, eq33 9995]; rfl
theorem neq33 (a b : OpD) (w : World) : (binOp .neq 33 (.agg a.cells.toArray) (.agg b.cells.toArray)).run Try.prog w = .ok (.bool (!(a.eqv b))) w := by
  rw [run_neq_struct, eq33 9995]; rfl

end Go.Proofs.Ytgkjglpnnehdbaa
