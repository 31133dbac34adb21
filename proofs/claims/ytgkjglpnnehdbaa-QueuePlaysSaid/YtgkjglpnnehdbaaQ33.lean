/- Steps as an argument, with their sizes. -/
import Derived.Test.YtgkjglpnnehdbaaQ14
import Derived.Test.YtgkjglpnnehdbaaK7
set_option linter.unusedVariables false
namespace Go.Proofs.Ytgkjglpnnehdbaa
open Go.RowKit Go.KK
theorem tb33 : Try.prog.bytesOf 33 = 200 := by kernel_rfl
theorem tb54 : 1 ≤ Try.prog.bytesOf 54 := of_decide_eq_true (by kernel_rfl)
section
variable {H : Type} {enc : TypeId × Value → H} {w : World} {base b2 : Nat} {spare : Nat → Bool} {held : Bool} {fuel : Nat} {cs : List Value} {x : DataW H × List MemPlace} {r : Reach} {v : Value} {d : DataW H} {p : List MemPlace} {R : Nat}
theorem ops_open_w (h : DataW.trod enc Try.prog w base spare held fuel 44 cs = some x) (hR : ∀ n ∈ x.1.weights Try.prog 44, n ≤ R) : ∃ v ops, cs = [v] ∧ SlAt w v 27 (opRows ops) ∧ ops.length * 200 ≤ R := by
  obtain ⟨v, rows, rfl, hs, hb, hr⟩ := slice_open_w tu44 (by rw [tc33]; omega) h hR
  rw [tc33] at hs
  rw [tb33] at hb
  obtain ⟨l, rfl, _⟩ := choose_rows (f := OpD.cells) (p := fun _ => True) rows (fun r hr' => by
    obtain ⟨n, y, hy, _⟩ := hr r hr'
    obtain ⟨o, ho, _⟩ := op_open hy
    exact ⟨o, ho, trivial⟩)
  exact ⟨v, l, rfl, hs, by simpa using hb⟩
theorem step_open_w (h : DataW.trod enc Try.prog w base spare held fuel 54 cs = some x) (hR : ∀ n ∈ x.1.weights Try.prog 54, n ≤ R) : ∃ s : StepD, cs = s.cells ∧ s.OK w ∧ s.ops.length * 200 ≤ R := by
  obtain ⟨n, hf⟩ := field_open_w tu54 h hR
  have hl := length_open tu54 h
  rw [tc54] at hl
  obtain ⟨y0, h0, _⟩ := hf 0 3 0 ff54_0
  obtain ⟨y1, h1, _⟩ := hf 1 33 1 ff54_1
  obtain ⟨y2, h2, _⟩ := hf 2 24 28 ff54_2
  obtain ⟨y3, h3, hR3⟩ := hf 3 44 29 ff54_3
  obtain ⟨n0, e0, w0⟩ := int_open tu3 h0
  obtain ⟨o, e1, ho⟩ := op_open h1
  obtain ⟨n2, e2, w2⟩ := int_open tu24 h2
  obtain ⟨ov, ops, e3, hs, hb⟩ := ops_open_w h3 hR3
  rw [tc3] at e0
  rw [tc33] at e1
  rw [tc24] at e2
  rw [tc44] at e3
  refine ⟨⟨n0, o, n2, ov, ops⟩, ?_, ⟨wf_u64 w2, ho, hs⟩, hb⟩
  have s := drop_split cs 0 1
  rw [e0, drop_split cs (0 + 1) 27, e1, drop_split cs (0 + 1 + 27) 1, e2, drop_split cs (0 + 1 + 27 + 1) 1, e3, show cs.drop (0 + 1 + 27 + 1 + 1) = [] from List.drop_of_length_le (by omega)] at s
  exact s
theorem steps_arg_w (hv : Value.okWide Try.prog w r base 36 v) (h : DataW.Trod enc Try.prog w b2 spare held 36 v d p) (hR : ∀ n ∈ d.weights Try.prog 36, n ≤ R) : ∃ l : List StepD, StepsAt w v l ∧ l.length ≤ R ∧ ∀ s ∈ l, s.ops.length * 200 ≤ R := by
  obtain ⟨a, len, cap, rfl⟩ := WideShapes.okWide_slice tu36 hv
  obtain ⟨fuel, h⟩ := h
  obtain ⟨v, rows, hc, hs, hb, hr⟩ := slice_open_w tu36 (by rw [tc54]; omega) h hR
  simp [Value.cells] at hc
  subst hc
  rw [tc54] at hs
  have hlen : rows.length ≤ R := Nat.le_trans (Nat.le_mul_of_pos_right _ tb54) hb
  obtain ⟨l, rfl, hl⟩ := choose_rows (f := StepD.cells) (p := fun s => s.OK w ∧ s.ops.length * 200 ≤ R) rows (fun r hr' => by
    obtain ⟨n, y, hy, hy2⟩ := hr r hr'
    exact step_open_w hy hy2)
  exact ⟨l, ⟨hs, fun s h => (hl s h).1⟩, by simpa using hlen, fun s h => (hl s h).2⟩
end
theorem steps_sizes {R : Nat} (hR : R ≤ 140737488351232) {l : List StepD} (h : ∀ s ∈ l, s.ops.length * 200 ≤ R) : ∀ s ∈ l, (s.ops.length + 3) * 200 ≤ 140737488355328 := fun s hs => by
  have := h s hs; omega
end Go.Proofs.Ytgkjglpnnehdbaa
