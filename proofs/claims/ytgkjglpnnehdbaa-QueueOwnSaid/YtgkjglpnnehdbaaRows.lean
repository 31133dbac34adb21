/-
  No cell of these rows narrows 'for every input' (looked for: loops, veiled, ifaces, maps, wideKeys, modest, calm, conditions, laid).
  DERIVED. THE GIVEN ROWS OF THIS SEAT. 6 by the template 'for every input the law returns true; each argument reads behind the call as it read before'; 0 by the template 'total and deterministic' (their statements: YtgkjglpnnehdbaaTotals.lean).
  GIVEN WITH THE SEED: the statements are not yours to turn. If you find one false, say at which input.
  Laid BY PROGRAM, IN A SANDBOX (cutbox-rows.mjs): the forced cells as the released guide's own fill.sh prints them over the translation b12ca264b3458fb2… (all of the seat's roots in one cut). By AI agents, Wed Nov 11 2026. No macro, syntax, notation, axiom, sorry.
-/
import Derived.Test.YtgkjglpnnehdbaaChecked
import GoSem.Claim
import GoSem.ClaimJoined
import GoSem.ClaimMapViews
import Derived.JoinedTies
import Derived.KernelRfl
namespace Go.Proofs.Ytgkjglpnnehdbaa
/- THE CELL 'sum', in the pinned program and in every row, IS THE sha256 OF THE DUMP (.gsa) THAT YtgkjglpnnehdbaaProg.lean LOADS. Nothing in Lean hashes anything: it is a label: what it is worth is what the hold of that sum in a sandbox is worth. -/
noncomputable def Try.pinned : Pinned := { name := "ytgkjglpnnehdbaa", sum := "b12ca264b3458fb201f802ba9a98048f3e3fb042b5d8054b9702f376d95b59c6", checked := Try.checked }
namespace Rows
def none {H : Type} : Left H := { results := [], args := [] }

/-- 'causewaylaw24.QueueSame': WHATEVER THE INPUT: true; the input reads as it did. -/
def queueSameSpec : ChangeSpec := { name := "queueSame", fn := fun _ => fun
  | [d1, d2] => { results := [.lit (.bool true)], args := [d1, d2] }
  | _ => none }
def queueSameRow : OpenClaim := { program := "ytgkjglpnnehdbaa", sum := "b12ca264b3458fb201f802ba9a98048f3e3fb042b5d8054b9702f376d95b59c6", func := "causeway/causewaylaw24.QueueSame", spec := "queueSame", apart := false }
def QueueSameSaid : Prop := queueSameRow.holds Try.pinned (OpenSpec.ofChange queueSameSpec)

/-- ITS FALSE NEIGHBOUR: 'it returns false'. Refute it at one input. -/
def queueSameWrong : ChangeSpec := { name := "queueSame", fn := fun _ => fun
  | [d1, d2] => { results := [.lit (.bool false)], args := [d1, d2] }
  | _ => none }
def QueueSameWrongFalsely : Prop := queueSameRow.holds Try.pinned (OpenSpec.ofChange queueSameWrong)

/-- 'causewaylaw24.QueueFirst': WHATEVER THE INPUT: true; the input reads as it did. -/
def queueFirstSpec : ChangeSpec := { name := "queueFirst", fn := fun _ => fun
  | [d1, d2, d3, d4] => { results := [.lit (.bool true)], args := [d1, d2, d3, d4] }
  | _ => none }
def queueFirstRow : OpenClaim := { program := "ytgkjglpnnehdbaa", sum := "b12ca264b3458fb201f802ba9a98048f3e3fb042b5d8054b9702f376d95b59c6", func := "causeway/causewaylaw24.QueueFirst", spec := "queueFirst", apart := false }
def QueueFirstSaid : Prop := queueFirstRow.holds Try.pinned (OpenSpec.ofChange queueFirstSpec)

/-- ITS FALSE NEIGHBOUR: 'it returns false'. Refute it at one input. -/
def queueFirstWrong : ChangeSpec := { name := "queueFirst", fn := fun _ => fun
  | [d1, d2, d3, d4] => { results := [.lit (.bool false)], args := [d1, d2, d3, d4] }
  | _ => none }
def QueueFirstWrongFalsely : Prop := queueFirstRow.holds Try.pinned (OpenSpec.ofChange queueFirstWrong)

/-- 'causewaylaw24.QueueDue': WHATEVER THE INPUT: true; the input reads as it did. -/
def queueDueSpec : ChangeSpec := { name := "queueDue", fn := fun _ => fun
  | [d1, d2, d3, d4] => { results := [.lit (.bool true)], args := [d1, d2, d3, d4] }
  | _ => none }
def queueDueRow : OpenClaim := { program := "ytgkjglpnnehdbaa", sum := "b12ca264b3458fb201f802ba9a98048f3e3fb042b5d8054b9702f376d95b59c6", func := "causeway/causewaylaw24.QueueDue", spec := "queueDue", apart := false }
def QueueDueSaid : Prop := queueDueRow.holds Try.pinned (OpenSpec.ofChange queueDueSpec)

/-- ITS FALSE NEIGHBOUR: 'it returns false'. Refute it at one input. -/
def queueDueWrong : ChangeSpec := { name := "queueDue", fn := fun _ => fun
  | [d1, d2, d3, d4] => { results := [.lit (.bool false)], args := [d1, d2, d3, d4] }
  | _ => none }
def QueueDueWrongFalsely : Prop := queueDueRow.holds Try.pinned (OpenSpec.ofChange queueDueWrong)

/-- 'causewaylaw24.QueueRefuses': WHATEVER THE INPUT: true; the input reads as it did. -/
def queueRefusesSpec : ChangeSpec := { name := "queueRefuses", fn := fun _ => fun
  | [d1, d2, d3] => { results := [.lit (.bool true)], args := [d1, d2, d3] }
  | _ => none }
def queueRefusesRow : OpenClaim := { program := "ytgkjglpnnehdbaa", sum := "b12ca264b3458fb201f802ba9a98048f3e3fb042b5d8054b9702f376d95b59c6", func := "causeway/causewaylaw24.QueueRefuses", spec := "queueRefuses", apart := false }
def QueueRefusesSaid : Prop := queueRefusesRow.holds Try.pinned (OpenSpec.ofChange queueRefusesSpec)

/-- ITS FALSE NEIGHBOUR: 'it returns false'. Refute it at one input. -/
def queueRefusesWrong : ChangeSpec := { name := "queueRefuses", fn := fun _ => fun
  | [d1, d2, d3] => { results := [.lit (.bool false)], args := [d1, d2, d3] }
  | _ => none }
def QueueRefusesWrongFalsely : Prop := queueRefusesRow.holds Try.pinned (OpenSpec.ofChange queueRefusesWrong)

/-- 'causewaylaw24.QueuePlays': WHATEVER THE INPUT: true; the input reads as it did. -/
def queuePlaysSpec : ChangeSpec := { name := "queuePlays", fn := fun _ => fun
  | [d1, d2] => { results := [.lit (.bool true)], args := [d1, d2] }
  | _ => none }
def queuePlaysRow : OpenClaim := { program := "ytgkjglpnnehdbaa", sum := "b12ca264b3458fb201f802ba9a98048f3e3fb042b5d8054b9702f376d95b59c6", func := "causeway/causewaylaw24.QueuePlays", spec := "queuePlays", inPlace := ["math/bits.Add64"], apart := false }
def QueuePlaysSaid : Prop := queuePlaysRow.holds Try.pinned (OpenSpec.ofChange queuePlaysSpec)

/-- ITS FALSE NEIGHBOUR: 'it returns false'. Refute it at one input. -/
def queuePlaysWrong : ChangeSpec := { name := "queuePlays", fn := fun _ => fun
  | [d1, d2] => { results := [.lit (.bool false)], args := [d1, d2] }
  | _ => none }
def QueuePlaysWrongFalsely : Prop := queuePlaysRow.holds Try.pinned (OpenSpec.ofChange queuePlaysWrong)

/-- 'causewaylaw24.QueueOwn': WHATEVER THE INPUT: true; the input reads as it did. -/
def queueOwnSpec : ChangeSpec := { name := "queueOwn", fn := fun _ => fun
  | [d1, d2] => { results := [.lit (.bool true)], args := [d1, d2] }
  | _ => none }
def queueOwnRow : OpenClaim := { program := "ytgkjglpnnehdbaa", sum := "b12ca264b3458fb201f802ba9a98048f3e3fb042b5d8054b9702f376d95b59c6", func := "causeway/causewaylaw24.QueueOwn", spec := "queueOwn", inPlace := ["math/bits.Add64"], apart := false }
def QueueOwnSaid : Prop := queueOwnRow.holds Try.pinned (OpenSpec.ofChange queueOwnSpec)

/-- ITS FALSE NEIGHBOUR: 'it returns false'. Refute it at one input. -/
def queueOwnWrong : ChangeSpec := { name := "queueOwn", fn := fun _ => fun
  | [d1, d2] => { results := [.lit (.bool false)], args := [d1, d2] }
  | _ => none }
def QueueOwnWrongFalsely : Prop := queueOwnRow.holds Try.pinned (OpenSpec.ofChange queueOwnWrong)

/- THE SECOND FORM. 'bulk': how many values and letters a reading holds, each counted each time it is reached (what is shared counts as often as it is met; a slice's spare places count too). A statement '..UptoSaid' is the law's where the arguments, and the package variables that the reading takes, are together of bulk at most 1048576: NARROWER than '..Said'. Prove '..Said' where nothing that the law and all that it calls make is longer than what came in: it says more and counts as full. Else prove '..UptoSaid'. A law counts once. -/
mutual
def uptoBulk {H : Type} : DataW H → Nat
  | .lit (.string bytes) => bytes.length + 1
  | .lit _ => 1
  | .nil => 1
  | .ptr d => uptoBulk d + 1
  | .slice elems spare => uptoBulkAll elems + uptoBulkAll spare + 1
  | .agg parts => uptoBulkAll parts + 1
  | .iface _ d => uptoBulk d + 1
  | .map entries => uptoBulkEntries entries + 1
  | .held _ => 1
def uptoBulkAll {H : Type} : List (DataW H) → Nat
  | [] => 0
  | d :: r => uptoBulk d + uptoBulkAll r
def uptoBulkEntries {H : Type} : List (Lit × DataW H) → Nat
  | [] => 0
  | x :: r => uptoBulkEntry x + uptoBulkEntries r
def uptoBulkEntry {H : Type} : Lit × DataW H → Nat
  | (.string bytes, d) => bytes.length + uptoBulk d + 1
  | (_, d) => uptoBulk d + 1
 end
def uptoSmall : (H : Type) → List (DataW H) → Bool := fun _ ds => decide (uptoBulkAll ds ≤ 1048576)
def OpenSpec.upto (s : _root_.Go.ChangeSpec) : _root_.Go.OpenSpec := { _root_.Go.OpenSpec.ofChange s with cond := some uptoSmall }

/-- 'causewaylaw24.QueueSame', WHERE WHAT IT READS IS OF BULK AT MOST 1048576: true; the input reads as it did. -/
def queueSameUptoRow : OpenClaim := { program := "ytgkjglpnnehdbaa", sum := "b12ca264b3458fb201f802ba9a98048f3e3fb042b5d8054b9702f376d95b59c6", func := "causeway/causewaylaw24.QueueSame", spec := "queueSame", apart := false, narrowed := true }
def QueueSameUptoSaid : Prop := queueSameUptoRow.holds Try.pinned (OpenSpec.upto queueSameSpec)

/-- 'causewaylaw24.QueueFirst', WHERE WHAT IT READS IS OF BULK AT MOST 1048576: true; the input reads as it did. -/
def queueFirstUptoRow : OpenClaim := { program := "ytgkjglpnnehdbaa", sum := "b12ca264b3458fb201f802ba9a98048f3e3fb042b5d8054b9702f376d95b59c6", func := "causeway/causewaylaw24.QueueFirst", spec := "queueFirst", apart := false, narrowed := true }
def QueueFirstUptoSaid : Prop := queueFirstUptoRow.holds Try.pinned (OpenSpec.upto queueFirstSpec)

/-- 'causewaylaw24.QueueDue', WHERE WHAT IT READS IS OF BULK AT MOST 1048576: true; the input reads as it did. -/
def queueDueUptoRow : OpenClaim := { program := "ytgkjglpnnehdbaa", sum := "b12ca264b3458fb201f802ba9a98048f3e3fb042b5d8054b9702f376d95b59c6", func := "causeway/causewaylaw24.QueueDue", spec := "queueDue", apart := false, narrowed := true }
def QueueDueUptoSaid : Prop := queueDueUptoRow.holds Try.pinned (OpenSpec.upto queueDueSpec)

/-- 'causewaylaw24.QueueRefuses', WHERE WHAT IT READS IS OF BULK AT MOST 1048576: true; the input reads as it did. -/
def queueRefusesUptoRow : OpenClaim := { program := "ytgkjglpnnehdbaa", sum := "b12ca264b3458fb201f802ba9a98048f3e3fb042b5d8054b9702f376d95b59c6", func := "causeway/causewaylaw24.QueueRefuses", spec := "queueRefuses", apart := false, narrowed := true }
def QueueRefusesUptoSaid : Prop := queueRefusesUptoRow.holds Try.pinned (OpenSpec.upto queueRefusesSpec)

/-- 'causewaylaw24.QueuePlays', WHERE WHAT IT READS IS OF BULK AT MOST 1048576: true; the input reads as it did. -/
def queuePlaysUptoRow : OpenClaim := { program := "ytgkjglpnnehdbaa", sum := "b12ca264b3458fb201f802ba9a98048f3e3fb042b5d8054b9702f376d95b59c6", func := "causeway/causewaylaw24.QueuePlays", spec := "queuePlays", inPlace := ["math/bits.Add64"], apart := false, narrowed := true }
def QueuePlaysUptoSaid : Prop := queuePlaysUptoRow.holds Try.pinned (OpenSpec.upto queuePlaysSpec)

/-- 'causewaylaw24.QueueOwn', WHERE WHAT IT READS IS OF BULK AT MOST 1048576: true; the input reads as it did. -/
def queueOwnUptoRow : OpenClaim := { program := "ytgkjglpnnehdbaa", sum := "b12ca264b3458fb201f802ba9a98048f3e3fb042b5d8054b9702f376d95b59c6", func := "causeway/causewaylaw24.QueueOwn", spec := "queueOwn", inPlace := ["math/bits.Add64"], apart := false, narrowed := true }
def QueueOwnUptoSaid : Prop := queueOwnUptoRow.holds Try.pinned (OpenSpec.upto queueOwnSpec)

end Rows
end Go.Proofs.Ytgkjglpnnehdbaa
