/- Numbers as arguments. No premise. -/
import Derived.Test.YtjmckfebnoaheaaB0
import Derived.Test.YtjmckfebnoaheaaK1
import Derived.ProofKit
set_option linter.unusedVariables false
namespace Go.Proofs.Ytjmckfebnoaheaa
open Go.RowKit Go.KK Go.Lm
theorem tc22 : Try.prog.cellsOf 22 = 1 := by kernel_rfl
theorem tc24 : Try.prog.cellsOf 24 = 4 := by kernel_rfl
section
variable {H : Type} {enc : TypeId × Value → H} {w : World} {base b2 : Nat} {spare : Nat → Bool} {held : Bool} {r : Reach} {v : Value} {d : DataW H} {p : List MemPlace}
theorem agg_form_arr {P : Program} {t e : TypeId} {n : Nat} (hu : P.underlying t = some (.array n e)) (hv : Value.okWide P w r base t v) : ∃ cs, v = .agg cs := by
  unfold Value.okWide at hv
  rw [hu] at hv
  obtain ⟨cs, h, _⟩ := hv
  exact ⟨cs, h⟩
theorem word_arg (hv : Value.okWide Try.prog w r base 24 v) (h : DataW.Trod enc Try.prog w b2 spare held 24 v d p) : ∃ n, v = .agg (W n) ∧ 0 ≤ n ∧ n < R256 := by
  obtain ⟨cs, rfl⟩ := agg_form_arr tu24 hv
  obtain ⟨fuel, h⟩ := h
  obtain ⟨a, b, c, d, ho, w0, w1, w2, w3⟩ := arr4_open tu24 tu22 tc22 tc24 h
  obtain ⟨n, h0, h1, hn⟩ := word_of a b c d (wf_u64 w0) (wf_u64 w1) (wf_u64 w2) (wf_u64 w3)
  refine ⟨n, ?_, h0, h1⟩
  rw [← hn]
  simp [Value.cells] at ho
  rw [← Array.toList_inj.1 (show cs.toList = #[Value.int .u64 a, .int .u64 b, .int .u64 c, .int .u64 d].toList from ho)]
end
end Go.Proofs.Ytjmckfebnoaheaa
