/-
  No cell of these rows narrows 'for every input' (looked for: loops, veiled, ifaces, maps, wideKeys, modest, calm, conditions, laid).
  DERIVED. THE GIVEN ROWS OF THIS SEAT. 6 by the template 'for every input the law returns true; each argument reads behind the call as it read before'; 0 by the template 'total and deterministic' (their statements: YtjmckfebnoaheaaTotals.lean).
  GIVEN WITH THE SEED: the statements are not yours to turn. If you find one false, say at which input.
  Laid BY PROGRAM, IN A SANDBOX (cutbox-rows.mjs): the forced cells as the released guide's own fill.sh prints them over the translation 21082d3760b0acc9… (all of the seat's roots in one cut). By AI agents, Wed Nov 11 2026. No macro, syntax, notation, axiom, sorry.
-/
import Derived.Test.YtjmckfebnoaheaaChecked
import GoSem.Claim
import GoSem.ClaimJoined
import GoSem.ClaimMapViews
import Derived.JoinedTies
import Derived.KernelRfl
namespace Go.Proofs.Ytjmckfebnoaheaa
/- THE CELL 'sum', in the pinned program and in every row, IS THE sha256 OF THE DUMP (.gsa) THAT YtjmckfebnoaheaaProg.lean LOADS. Nothing in Lean hashes anything: it is a label: what it is worth is what the hold of that sum in a sandbox is worth. -/
noncomputable def Try.pinned : Pinned := { name := "ytjmckfebnoaheaa", sum := "21082d3760b0acc94e25ee520d9286df39b82d0c76624adc3413331949ab25f8", checked := Try.checked }
namespace Rows
def none {H : Type} : Left H := { results := [], args := [] }

/-- 'causewaylaw01.LimbsSums': WHATEVER THE INPUT: true; the input reads as it did. -/
def limbsSumsSpec : ChangeSpec := { name := "limbsSums", fn := fun _ => fun
  | [d1, d2] => { results := [.lit (.bool true)], args := [d1, d2] }
  | _ => none }
def limbsSumsRow : OpenClaim := { program := "ytjmckfebnoaheaa", sum := "21082d3760b0acc94e25ee520d9286df39b82d0c76624adc3413331949ab25f8", func := "causeway/causewaylaw01.LimbsSums", spec := "limbsSums", inPlace := ["math/bits.Add64", "math/bits.Sub64"], named := ["math/bits.divideError", "math/bits.overflowError"], apart := false }
def LimbsSumsSaid : Prop := limbsSumsRow.holds Try.pinned (OpenSpec.ofChange limbsSumsSpec)

/-- ITS FALSE NEIGHBOUR: 'it returns false'. Refute it at one input. -/
def limbsSumsWrong : ChangeSpec := { name := "limbsSums", fn := fun _ => fun
  | [d1, d2] => { results := [.lit (.bool false)], args := [d1, d2] }
  | _ => none }
def LimbsSumsWrongFalsely : Prop := limbsSumsRow.holds Try.pinned (OpenSpec.ofChange limbsSumsWrong)

/-- 'causewaylaw01.LimbsRests': WHATEVER THE INPUT: true; the input reads as it did. -/
def limbsRestsSpec : ChangeSpec := { name := "limbsRests", fn := fun _ => fun
  | [d1, d2, d3, d4] => { results := [.lit (.bool true)], args := [d1, d2, d3, d4] }
  | _ => none }
def limbsRestsRow : OpenClaim := { program := "ytjmckfebnoaheaa", sum := "21082d3760b0acc94e25ee520d9286df39b82d0c76624adc3413331949ab25f8", func := "causeway/causewaylaw01.LimbsRests", spec := "limbsRests", inPlace := ["math/bits.Sub64", "math/bits.Add64"], named := ["math/bits.divideError", "math/bits.overflowError"], apart := false }
def LimbsRestsSaid : Prop := limbsRestsRow.holds Try.pinned (OpenSpec.ofChange limbsRestsSpec)

/-- ITS FALSE NEIGHBOUR: 'it returns false'. Refute it at one input. -/
def limbsRestsWrong : ChangeSpec := { name := "limbsRests", fn := fun _ => fun
  | [d1, d2, d3, d4] => { results := [.lit (.bool false)], args := [d1, d2, d3, d4] }
  | _ => none }
def LimbsRestsWrongFalsely : Prop := limbsRestsRow.holds Try.pinned (OpenSpec.ofChange limbsRestsWrong)

/-- 'causewaylaw01.LimbsRing': WHATEVER THE INPUT: true; the input reads as it did. -/
def limbsRingSpec : ChangeSpec := { name := "limbsRing", fn := fun _ => fun
  | [d1, d2, d3] => { results := [.lit (.bool true)], args := [d1, d2, d3] }
  | _ => none }
def limbsRingRow : OpenClaim := { program := "ytjmckfebnoaheaa", sum := "21082d3760b0acc94e25ee520d9286df39b82d0c76624adc3413331949ab25f8", func := "causeway/causewaylaw01.LimbsRing", spec := "limbsRing", inPlace := ["math/bits.Add64", "math/bits.Sub64"], named := ["math/bits.divideError", "math/bits.overflowError"], apart := false }
def LimbsRingSaid : Prop := limbsRingRow.holds Try.pinned (OpenSpec.ofChange limbsRingSpec)

/-- ITS FALSE NEIGHBOUR: 'it returns false'. Refute it at one input. -/
def limbsRingWrong : ChangeSpec := { name := "limbsRing", fn := fun _ => fun
  | [d1, d2, d3] => { results := [.lit (.bool false)], args := [d1, d2, d3] }
  | _ => none }
def LimbsRingWrongFalsely : Prop := limbsRingRow.holds Try.pinned (OpenSpec.ofChange limbsRingWrong)

/-- 'causewaylaw01.LimbsShifts': WHATEVER THE INPUT: true; the input reads as it did. -/
def limbsShiftsSpec : ChangeSpec := { name := "limbsShifts", fn := fun _ => fun
  | [d1, d2] => { results := [.lit (.bool true)], args := [d1, d2] }
  | _ => none }
def limbsShiftsRow : OpenClaim := { program := "ytjmckfebnoaheaa", sum := "21082d3760b0acc94e25ee520d9286df39b82d0c76624adc3413331949ab25f8", func := "causeway/causewaylaw01.LimbsShifts", spec := "limbsShifts", inPlace := ["math/bits.Add64", "math/bits.Sub64"], named := ["math/bits.divideError", "math/bits.overflowError"], apart := false }
def LimbsShiftsSaid : Prop := limbsShiftsRow.holds Try.pinned (OpenSpec.ofChange limbsShiftsSpec)

/-- ITS FALSE NEIGHBOUR: 'it returns false'. Refute it at one input. -/
def limbsShiftsWrong : ChangeSpec := { name := "limbsShifts", fn := fun _ => fun
  | [d1, d2] => { results := [.lit (.bool false)], args := [d1, d2] }
  | _ => none }
def LimbsShiftsWrongFalsely : Prop := limbsShiftsRow.holds Try.pinned (OpenSpec.ofChange limbsShiftsWrong)

/-- 'causewaylaw01.LimbsTexts': WHATEVER THE INPUT: true; the input reads as it did. -/
def limbsTextsSpec : ChangeSpec := { name := "limbsTexts", fn := fun _ => fun
  | [d1, d2, d3] => { results := [.lit (.bool true)], args := [d1, d2, d3] }
  | _ => none }
def limbsTextsRow : OpenClaim := { program := "ytjmckfebnoaheaa", sum := "21082d3760b0acc94e25ee520d9286df39b82d0c76624adc3413331949ab25f8", func := "causeway/causewaylaw01.LimbsTexts", spec := "limbsTexts", inPlace := ["math/bits.Add64", "math/bits.Sub64"], named := ["math/bits.divideError", "math/bits.overflowError"], apart := false }
def LimbsTextsSaid : Prop := limbsTextsRow.holds Try.pinned (OpenSpec.ofChange limbsTextsSpec)

/-- ITS FALSE NEIGHBOUR: 'it returns false'. Refute it at one input. -/
def limbsTextsWrong : ChangeSpec := { name := "limbsTexts", fn := fun _ => fun
  | [d1, d2, d3] => { results := [.lit (.bool false)], args := [d1, d2, d3] }
  | _ => none }
def LimbsTextsWrongFalsely : Prop := limbsTextsRow.holds Try.pinned (OpenSpec.ofChange limbsTextsWrong)

/-- 'causewaylaw01.LimbsBack': WHATEVER THE INPUT: true; the input reads as it did. -/
def limbsBackSpec : ChangeSpec := { name := "limbsBack", fn := fun _ => fun
  | [d1, d2] => { results := [.lit (.bool true)], args := [d1, d2] }
  | _ => none }
def limbsBackRow : OpenClaim := { program := "ytjmckfebnoaheaa", sum := "21082d3760b0acc94e25ee520d9286df39b82d0c76624adc3413331949ab25f8", func := "causeway/causewaylaw01.LimbsBack", spec := "limbsBack", inPlace := ["math/bits.Add64", "math/bits.Sub64"], named := ["math/bits.divideError", "math/bits.overflowError"], apart := false }
def LimbsBackSaid : Prop := limbsBackRow.holds Try.pinned (OpenSpec.ofChange limbsBackSpec)

/-- ITS FALSE NEIGHBOUR: 'it returns false'. Refute it at one input. -/
def limbsBackWrong : ChangeSpec := { name := "limbsBack", fn := fun _ => fun
  | [d1, d2] => { results := [.lit (.bool false)], args := [d1, d2] }
  | _ => none }
def LimbsBackWrongFalsely : Prop := limbsBackRow.holds Try.pinned (OpenSpec.ofChange limbsBackWrong)

/- THE SECOND FORM. 'bulk': how many values and letters a reading holds, each counted each time it is reached (what is shared counts as often as it is met; a slice's spare places count too). A statement '..UptoSaid' is the law's where the arguments, and the package variables that the reading takes, are together of bulk at most 1048576: NARROWER than '..Said'. Prove '..Said' where nothing that the law and all that it calls make is longer than what came in: it says more and counts as full. Else prove '..UptoSaid'. A law counts once. -/
mutual
def uptoBulk {H : Type} : DataW H → Nat
  | .lit (.string bytes) => bytes.length + 1
  | .lit _ => 1
  | .nil => 1
  | .ptr d => uptoBulk d + 1
  | .slice elems spare => uptoBulkAll elems + uptoBulkAll spare + 1
  | .agg parts => uptoBulkAll parts + 1
  | .iface _ d => uptoBulk d + 1
  | .map entries => uptoBulkEntries entries + 1
  | .held _ => 1
def uptoBulkAll {H : Type} : List (DataW H) → Nat
  | [] => 0
  | d :: r => uptoBulk d + uptoBulkAll r
def uptoBulkEntries {H : Type} : List (Lit × DataW H) → Nat
  | [] => 0
  | x :: r => uptoBulkEntry x + uptoBulkEntries r
def uptoBulkEntry {H : Type} : Lit × DataW H → Nat
  | (.string bytes, d) => bytes.length + uptoBulk d + 1
  | (_, d) => uptoBulk d + 1
 end
def uptoSmall : (H : Type) → List (DataW H) → Bool := fun _ ds => decide (uptoBulkAll ds ≤ 1048576)
def OpenSpec.upto (s : _root_.Go.ChangeSpec) : _root_.Go.OpenSpec := { _root_.Go.OpenSpec.ofChange s with cond := some uptoSmall }

/-- 'causewaylaw01.LimbsSums', WHERE WHAT IT READS IS OF BULK AT MOST 1048576: true; the input reads as it did. -/
def limbsSumsUptoRow : OpenClaim := { program := "ytjmckfebnoaheaa", sum := "21082d3760b0acc94e25ee520d9286df39b82d0c76624adc3413331949ab25f8", func := "causeway/causewaylaw01.LimbsSums", spec := "limbsSums", inPlace := ["math/bits.Add64", "math/bits.Sub64"], named := ["math/bits.divideError", "math/bits.overflowError"], apart := false, narrowed := true }
def LimbsSumsUptoSaid : Prop := limbsSumsUptoRow.holds Try.pinned (OpenSpec.upto limbsSumsSpec)

/-- 'causewaylaw01.LimbsRests', WHERE WHAT IT READS IS OF BULK AT MOST 1048576: true; the input reads as it did. -/
def limbsRestsUptoRow : OpenClaim := { program := "ytjmckfebnoaheaa", sum := "21082d3760b0acc94e25ee520d9286df39b82d0c76624adc3413331949ab25f8", func := "causeway/causewaylaw01.LimbsRests", spec := "limbsRests", inPlace := ["math/bits.Sub64", "math/bits.Add64"], named := ["math/bits.divideError", "math/bits.overflowError"], apart := false, narrowed := true }
def LimbsRestsUptoSaid : Prop := limbsRestsUptoRow.holds Try.pinned (OpenSpec.upto limbsRestsSpec)

/-- 'causewaylaw01.LimbsRing', WHERE WHAT IT READS IS OF BULK AT MOST 1048576: true; the input reads as it did. -/
def limbsRingUptoRow : OpenClaim := { program := "ytjmckfebnoaheaa", sum := "21082d3760b0acc94e25ee520d9286df39b82d0c76624adc3413331949ab25f8", func := "causeway/causewaylaw01.LimbsRing", spec := "limbsRing", inPlace := ["math/bits.Add64", "math/bits.Sub64"], named := ["math/bits.divideError", "math/bits.overflowError"], apart := false, narrowed := true }
def LimbsRingUptoSaid : Prop := limbsRingUptoRow.holds Try.pinned (OpenSpec.upto limbsRingSpec)

/-- 'causewaylaw01.LimbsShifts', WHERE WHAT IT READS IS OF BULK AT MOST 1048576: true; the input reads as it did. -/
def limbsShiftsUptoRow : OpenClaim := { program := "ytjmckfebnoaheaa", sum := "21082d3760b0acc94e25ee520d9286df39b82d0c76624adc3413331949ab25f8", func := "causeway/causewaylaw01.LimbsShifts", spec := "limbsShifts", inPlace := ["math/bits.Add64", "math/bits.Sub64"], named := ["math/bits.divideError", "math/bits.overflowError"], apart := false, narrowed := true }
def LimbsShiftsUptoSaid : Prop := limbsShiftsUptoRow.holds Try.pinned (OpenSpec.upto limbsShiftsSpec)

/-- 'causewaylaw01.LimbsTexts', WHERE WHAT IT READS IS OF BULK AT MOST 1048576: true; the input reads as it did. -/
def limbsTextsUptoRow : OpenClaim := { program := "ytjmckfebnoaheaa", sum := "21082d3760b0acc94e25ee520d9286df39b82d0c76624adc3413331949ab25f8", func := "causeway/causewaylaw01.LimbsTexts", spec := "limbsTexts", inPlace := ["math/bits.Add64", "math/bits.Sub64"], named := ["math/bits.divideError", "math/bits.overflowError"], apart := false, narrowed := true }
def LimbsTextsUptoSaid : Prop := limbsTextsUptoRow.holds Try.pinned (OpenSpec.upto limbsTextsSpec)

/-- 'causewaylaw01.LimbsBack', WHERE WHAT IT READS IS OF BULK AT MOST 1048576: true; the input reads as it did. -/
def limbsBackUptoRow : OpenClaim := { program := "ytjmckfebnoaheaa", sum := "21082d3760b0acc94e25ee520d9286df39b82d0c76624adc3413331949ab25f8", func := "causeway/causewaylaw01.LimbsBack", spec := "limbsBack", inPlace := ["math/bits.Add64", "math/bits.Sub64"], named := ["math/bits.divideError", "math/bits.overflowError"], apart := false, narrowed := true }
def LimbsBackUptoSaid : Prop := limbsBackUptoRow.holds Try.pinned (OpenSpec.upto limbsBackSpec)

end Rows
end Go.Proofs.Ytjmckfebnoaheaa
