/- Two lists of entries held against each other; a step's kind; walked. -/
import Derived.Test.YtgkjglpnnehdbaaQ28
import Derived.Test.YtgkjglpnnehdbaaQ16
set_option linter.unusedVariables false
namespace Go.Proofs.Ytgkjglpnnehdbaa
open Go.RowKit Go.KK

theorem below_cell2 {w w1 : World} (h : Below w.heap.size w w1) {a : Addr} {v : Value} (ha : w.cell? a = some v) : w1.cell? a = some v := (h.cell (World.block_lt_of_cell? w a ha)).trans ha
set_option maxHeartbeats 1000000 in
theorem sameE {w : World} {v u : Value} {L : List EntD} (hv : SlAt w v 28 (entRows L)) (hu : SlAt w u 28 (entRows L)) :
    Calls Try.prog 24 #[v, u] w fun e w' => e = .returned (.bool true) ∧ Below w.heap.size w w' := by
  obtain ⟨A, cap, rfl, hl, hA⟩ := hv
  obtain ⟨A2, cap2, rfl, _, hA2⟩ := hu
  rw [entRows_length] at hl ⊢
  have H1 := Lib.hid hA
  have H2 := Lib.hid hA2
  clear hA hA2
  go_enter Try.func24, Try.ntmps24
  go_wp2_with fail
  go_loopw [5] (fun i wr => ∃ k : Nat, k ≤ L.length ∧ i = .int .i64 k ∧ Below w.heap.size w wr) (fun i _ => L.length - (intOf i).toNat)
  case atStart => exact ⟨0, by omega, rfl, Below.refl _ _⟩
  case round =>
    obtain ⟨k, hk, rfl, hB⟩ := hrel
    have HB := Lib.hid hB
    clear hB
    by_cases hlt : k < L.length
    · have hx : L[k]? = some L[k] := List.getElem?_eq_getElem hlt
      obtain ⟨g, off, rfl, hr, _⟩ := H1.out k _ (entRows_get hx)
      obtain ⟨g2, off2, rfl, hr2, _⟩ := H2.out k _ (entRows_get hx)
      have hrw : ∀ e : ExtOf wr, e.wd.rangeAt g (off + k * 28) L[k].cells := fun e => e.range (fun j v hv => below_cell2 HB.out (hr j v hv))
      have hrw2 : ∀ e : ExtOf wr, e.wd.rangeAt g2 (off2 + k * 28) L[k].cells := fun e => e.range (fun j v hv => below_cell2 HB.out (hr2 j v hv))
      have HR1 : Hid (∀ e : ExtOf wr, e.wd.rangeAt g (off + k * 28) L[k].op.cells) := Lib.hid fun e => range_take (n := 27) (hrw e)
      have HR2 : Hid (∀ e : ExtOf wr, e.wd.rangeAt g2 (off2 + k * 28) L[k].op.cells) := Lib.hid fun e => range_take (n := 27) (hrw2 e)
      have hc1 : ∀ e : ExtOf wr, e.wd.cell? ⟨g, off + k * 28 + 27, none⟩ = some (.int .u64 L[k].at_) := fun e => hrw e 27 _ L[k].c27
      have hc2 : ∀ e : ExtOf wr, e.wd.cell? ⟨g2, off2 + k * 28 + 27, none⟩ = some (.int .u64 L[k].at_) := fun e => hrw2 e 27 _ L[k].c27
      have hne := neq33 L[k].op L[k].op
      rw [OpD.eqv_refl] at hne
      clear hrw hrw2 hr hr2 hx
      go_wp2_with fail
      refine wp_region_ext (by kernel_rfl) (by kernel_rfl) ?_
      iterate 4 (quiet_step (fail))
      refine wpQuiet_load_ext rfl 33 _ rfl g (off + k * 28) rfl L[k].op.cells _ HR1.out tu33 rfl ts33 ?_
      iterate 4 (quiet_step (fail))
      refine wpQuiet_load_ext rfl 33 _ rfl g2 (off2 + k * 28) rfl L[k].op.cells _ HR2.out tu33 rfl ts33 ?_
      iterate 14 (quiet_step (fail))
      refine wpQuiet_nil ?_
      rintro _ ⟨e, rfl⟩
      have hBe := below_all HB.out e.below
      clear hc1 hc2 hne
      go_wp2_with fail
      go_roundw
      case rel => exact ⟨k + 1, by omega, by go_num, hBe⟩
      case measure => simp [intOf]; omega
    · obtain rfl : k = L.length := by omega
      go_wp2_with fail
      go_ret
      exact ⟨rfl, HB.out⟩
end Go.Proofs.Ytgkjglpnnehdbaa
