/- Lists of steps among a call's arguments, opened. No premise. -/
import Derived.Test.YtgkjglpnnehdbaaQ10
import Derived.Test.YtgkjglpnnehdbaaQ12
set_option linter.unusedVariables false
namespace Go.Proofs.Ytgkjglpnnehdbaa
open Go.RowKit Go.KK

theorem choose_rows {α : Type} {f : α → List Value} {p : α → Prop} : ∀ (rows : List (List Value)), (∀ r ∈ rows, ∃ s, r = f s ∧ p s) → ∃ l : List α, rows = l.map f ∧ ∀ s ∈ l, p s := by
  intro rows
  induction rows with
  | nil => intro _; exact ⟨[], rfl, by simp⟩
  | cons r rest ih =>
    intro h
    obtain ⟨s, rfl, hs⟩ := h r (by simp)
    obtain ⟨l, rfl, hl⟩ := ih (fun x hx => h x (by simp [hx]))
    exact ⟨s :: l, rfl, fun x hx => by
      rcases List.mem_cons.1 hx with rfl | hx
      · exact hs
      · exact hl x hx⟩
theorem tu54 : Try.prog.underlying 54 = some (.struct (Try.prog.fieldsOf 54)) := by kernel_rfl
theorem tu36 : Try.prog.underlying 36 = some (.slice 54) := by kernel_rfl
theorem tu44 : Try.prog.underlying 44 = some (.slice 33) := by kernel_rfl
theorem tu3 : Try.prog.underlying 3 = some (.int .i64) := by kernel_rfl
theorem tc54 : Try.prog.cellsOf 54 = 30 := by kernel_rfl
theorem tc3 : Try.prog.cellsOf 3 = 1 := by kernel_rfl
theorem tc44 : Try.prog.cellsOf 44 = 1 := by kernel_rfl
theorem ff54_0 : ((Try.prog.fieldsOf 54)[0]?).map (fun f : Field => (f.type, f.offset)) = some (3, 0) := by kernel_rfl
theorem ff54_1 : ((Try.prog.fieldsOf 54)[1]?).map (fun f : Field => (f.type, f.offset)) = some (33, 1) := by kernel_rfl
theorem ff54_2 : ((Try.prog.fieldsOf 54)[2]?).map (fun f : Field => (f.type, f.offset)) = some (24, 28) := by kernel_rfl
theorem ff54_3 : ((Try.prog.fieldsOf 54)[3]?).map (fun f : Field => (f.type, f.offset)) = some (44, 29) := by kernel_rfl

section
variable {H : Type} {enc : TypeId × Value → H} {w : World} {base b2 : Nat} {spare : Nat → Bool} {held : Bool} {fuel : Nat} {cs : List Value} {x : DataW H × List MemPlace} {r : Reach} {v : Value} {d : DataW H} {p : List MemPlace}
theorem ops_open (h : DataW.trod enc Try.prog w base spare held fuel 44 cs = some x) : ∃ v ops, cs = [v] ∧ SlAt w v 27 (opRows ops) := by
  obtain ⟨v, rows, rfl, hs, hr⟩ := slice_open tu44 (by rw [tc33]; omega) h
  rw [tc33] at hs
  obtain ⟨l, rfl, _⟩ := choose_rows (f := OpD.cells) (p := fun _ => True) rows (fun r hr' => by
    obtain ⟨n, y, hy⟩ := hr r hr'
    obtain ⟨o, ho, _⟩ := op_open hy
    exact ⟨o, ho, trivial⟩)
  exact ⟨v, l, rfl, hs⟩
theorem step_open (h : DataW.trod enc Try.prog w base spare held fuel 54 cs = some x) : ∃ s : StepD, cs = s.cells ∧ s.OK w := by
  obtain ⟨n, hf⟩ := field_open tu54 h
  have hl := length_open tu54 h
  rw [tc54] at hl
  obtain ⟨y0, h0⟩ := hf 0 3 0 ff54_0
  obtain ⟨y1, h1⟩ := hf 1 33 1 ff54_1
  obtain ⟨y2, h2⟩ := hf 2 24 28 ff54_2
  obtain ⟨y3, h3⟩ := hf 3 44 29 ff54_3
  obtain ⟨n0, e0, w0⟩ := int_open tu3 h0
  obtain ⟨o, e1, ho⟩ := op_open h1
  obtain ⟨n2, e2, w2⟩ := int_open tu24 h2
  obtain ⟨ov, ops, e3, hs⟩ := ops_open h3
  rw [tc3] at e0
  rw [tc33] at e1
  rw [tc24] at e2
  rw [tc44] at e3
  refine ⟨⟨n0, o, n2, ov, ops⟩, ?_, wf_u64 w2, ho, hs⟩
  have s := drop_split cs 0 1
  rw [e0, drop_split cs (0 + 1) 27, e1, drop_split cs (0 + 1 + 27) 1, e2, drop_split cs (0 + 1 + 27 + 1) 1, e3, show cs.drop (0 + 1 + 27 + 1 + 1) = [] from List.drop_of_length_le (by omega)] at s
  exact s
theorem steps_arg (hv : Value.okWide Try.prog w r base 36 v) (h : DataW.Trod enc Try.prog w b2 spare held 36 v d p) : ∃ l : List StepD, StepsAt w v l := by
  obtain ⟨a, len, cap, rfl⟩ := WideShapes.okWide_slice tu36 hv
  obtain ⟨fuel, h⟩ := h
  obtain ⟨v, rows, hc, hs, hr⟩ := slice_open tu36 (by rw [tc54]; omega) h
  simp [Value.cells] at hc
  subst hc
  rw [tc54] at hs
  obtain ⟨l, rfl, hl⟩ := choose_rows (f := StepD.cells) (p := fun s => s.OK w) rows (fun r hr' => by
    obtain ⟨n, y, hy⟩ := hr r hr'
    exact step_open hy)
  exact ⟨l, hs, hl⟩
theorem step_arg (hv : Value.okWide Try.prog w r base 54 v) (h : DataW.Trod enc Try.prog w b2 spare held 54 v d p) : ∃ s : StepD, v = .agg s.cells.toArray ∧ s.OK w := by
  obtain ⟨cs, rfl⟩ := agg_form tu54 hv
  obtain ⟨fuel, h⟩ := h
  obtain ⟨s, hs, hok⟩ := step_open h
  exact ⟨s, by rw [← hs]; simp [Value.cells], hok⟩
end
end Go.Proofs.Ytgkjglpnnehdbaa
