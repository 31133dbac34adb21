/- Words for opening a call's arguments: arrays of four numbers, cells of structs, slices of whatever elements. No premise. -/
import Derived.Test.YtjmckfebnoaheaaK0
import Derived.ProofKit
import Derived.OpenShut
import Derived.Deep.Slices
namespace Go.KK
open Go.RowKit

theorem drop_split (l : List Value) (o n : Nat) : l.drop o = (l.drop o).take n ++ l.drop (o + n) := by
  rw [← List.drop_drop]; exact (List.take_append_drop n _).symm
theorem wf_u64 {n : Int} (h : (Lit.int .u64 n).wf = true) : 0 ≤ n ∧ n ≤ 18446744073709551615 := by
  simpa [Lit.wf, IntKind.min, IntKind.max, IntKind.signed, IntKind.bits] using h
theorem wf_i64 {n : Int} (h : (Lit.int .i64 n).wf = true) : -9223372036854775808 ≤ n ∧ n ≤ 9223372036854775807 := by
  simpa [Lit.wf, IntKind.min, IntKind.max, IntKind.signed, IntKind.bits] using h

section
variable {H : Type} {enc : TypeId × Value → H} {P : Program} {w : World} {base : Nat} {spare : Nat → Bool} {held : Bool}
/-- A field of a struct that is read. -/
theorem field_open {t : TypeId} {fuel : Nat} {cs : List Value} {x : DataW H × List MemPlace} (ht : P.underlying t = some (.struct (P.fieldsOf t))) (h : DataW.trod enc P w base spare held fuel t cs = some x) :
    ∃ n, ∀ (i ft off : Nat), ((P.fieldsOf t)[i]?).map (fun f : Field => (f.type, f.offset)) = some (ft, off) → ∃ y, DataW.trod enc P w base spare held n ft ((cs.drop off).take (P.cellsOf ft)) = some y := by
  obtain ⟨xs, n, _, _, _, hl, hf⟩ := DataW.trod_struct ht h
  refine ⟨n, fun i ft off hi => ?_⟩
  cases hq : (P.fieldsOf t)[i]? with
  | none => simp [hq] at hi
  | some f =>
    simp only [hq, Option.map_some, Option.some.injEq, Prod.mk.injEq] at hi
    obtain ⟨rfl, rfl⟩ := hi
    have hi' : i < (P.fieldsOf t).size := (Array.getElem?_eq_some_iff.1 hq).1
    exact ⟨xs[i]'(by omega), by rw [hf i f hq]; exact List.getElem?_eq_getElem (by omega)⟩
theorem length_open {t : TypeId} {fuel : Nat} {cs : List Value} {x : DataW H × List MemPlace} (ht : P.underlying t = some (.struct (P.fieldsOf t))) (h : DataW.trod enc P w base spare held fuel t cs = some x) : cs.length = P.cellsOf t := by
  obtain ⟨xs, n, _, _, hl, _⟩ := DataW.trod_struct ht h; exact hl
/-- Four whole numbers. -/
theorem arr4_open {t e : TypeId} {k : IntKind} {fuel : Nat} {cs : List Value} {x : DataW H × List MemPlace} (ht : P.underlying t = some (.array 4 e)) (he : P.underlying e = some (.int k)) (hc : P.cellsOf e = 1) (hct : P.cellsOf t = 4)
    (h : DataW.trod enc P w base spare held fuel t cs = some x) : ∃ a b c d, cs = [.int k a, .int k b, .int k c, .int k d] ∧ (Lit.int k a).wf = true ∧ (Lit.int k b).wf = true ∧ (Lit.int k c).wf = true ∧ (Lit.int k d).wf = true := by
  obtain ⟨xs, m, _, _, hl, hx, hf⟩ := DataW.trod_array ht h
  rw [hct] at hl
  have g : ∀ i, i < 4 → ∃ n, (cs.drop i).take 1 = [.int k n] ∧ (Lit.int k n).wf = true := fun i hi => by
    have := hf i hi
    rw [hc, Nat.mul_one, List.getElem?_eq_getElem (by omega)] at this
    obtain ⟨n, hn, _, hw⟩ := DataW.trod_int he this
    exact ⟨n, hn, hw⟩
  obtain ⟨a, ha, wa⟩ := g 0 (by omega)
  obtain ⟨b, hb, wb⟩ := g 1 (by omega)
  obtain ⟨c, hc', wc⟩ := g 2 (by omega)
  obtain ⟨d, hd, wd⟩ := g 3 (by omega)
  refine ⟨a, b, c, d, ?_, wa, wb, wc, wd⟩
  have e0 := drop_split cs 0 1
  rw [ha, drop_split cs (0 + 1) 1, hb, drop_split cs (0 + 1 + 1) 1, hc', drop_split cs (0 + 1 + 1 + 1) 1, hd, show cs.drop (0 + 1 + 1 + 1 + 1) = [] from List.drop_of_length_le (by omega)] at e0
  exact e0
theorem int_open {t : TypeId} {k : IntKind} {fuel : Nat} {cs : List Value} {x : DataW H × List MemPlace} (ht : P.underlying t = some (.int k)) (h : DataW.trod enc P w base spare held fuel t cs = some x) : ∃ n, cs = [.int k n] ∧ (Lit.int k n).wf = true := by
  obtain ⟨n, hn, _, hw⟩ := DataW.trod_int ht h; exact ⟨n, hn, hw⟩
theorem bool_open {t : TypeId} {fuel : Nat} {cs : List Value} {x : DataW H × List MemPlace} (ht : P.underlying t = some .bool) (h : DataW.trod enc P w base spare held fuel t cs = some x) : ∃ b, cs = [.bool b] := by
  obtain ⟨n, hn, _⟩ := DataW.trod_bool ht h; exact ⟨n, hn⟩

theorem cells_at {a : Addr} {n : Nat} {cs : List Value} (h : w.cells? base a n = some cs) (hn : 0 < n) : ∃ b off, a = ⟨b, off, none⟩ ∧ w.rangeAt b off cs ∧ cs.length = n ∧ b < w.heap.size := by
  unfold World.cells? at h
  split at h
  · have hl := mapM_some_length h
    simp only [List.length_range] at hl
    have hg := mapM_some_get h
    have h0 : w.cell? a = cs[0]? := by have := hg 0 0 (by simp [hn]); simpa [Addr.add] using this
    have hs : a.spot = none := by
      unfold World.cell? at h0
      rw [List.getElem?_eq_getElem (by omega)] at h0
      split at h0
      · cases hsp : a.spot with
        | none => rfl
        | some s => simp [hsp] at h0
      · simp at h0
    obtain ⟨b, off, sp⟩ := a
    simp only at hs
    subst hs
    have hr : w.rangeAt b off cs := fun j v hv => by
      have hj : j < cs.length := (List.getElem?_eq_some_iff.1 hv).1
      have h1 : w.cell? ((⟨b, off, none⟩ : Addr).add j) = cs[j]? := hg j j (List.getElem?_range (by omega))
      rw [Addr.add_mid] at h1
      rw [h1, hv]
    have hv0 : cs[0]? = some (cs[0]'(by omega)) := List.getElem?_eq_getElem (by omega)
    exact ⟨b, off, rfl, hr, hl, World.block_lt_of_cell? w _ (hr 0 _ hv0)⟩
  · simp at h
/-- A slice that is read: its elements' cells, each with its own reading. -/
theorem slice_open {t e : TypeId} {fuel : Nat} {cs : List Value} {x : DataW H × List MemPlace} (ht : P.underlying t = some (.slice e)) (hc : 0 < P.cellsOf e) (h : DataW.trod enc P w base spare held fuel t cs = some x) :
    ∃ v rows, cs = [v] ∧ SlAt w v (P.cellsOf e) rows ∧ ∀ r ∈ rows, ∃ n y, DataW.trod enc P w base spare held n e r = some y := by
  rcases Deep.open_slice ht h with ⟨rfl, _⟩ | ⟨a, len, cap, m, n, D, Pl, rfl, _, hl, hm, hmm, _, hel⟩
  · exact ⟨_, [], rfl, ⟨none, 0, rfl, by simp, by simp⟩, by simp⟩
  · have hlm : len ≤ m := by rw [hmm]; split <;> omega
    obtain ⟨f, hf⟩ := Deep.choose_lt (n := len) (p := fun i (r : List Value) => w.cells? base (a.add (i * P.cellsOf e)) (P.cellsOf e) = some r ∧ DataW.trod enc P w base spare held n e r = some (D i, Pl i)) (fun i hi => hel i (by omega))
    refine ⟨_, (List.range len).map f, rfl, ⟨some a, cap, by simp, by simp; unfold maxLen at hm; omega, fun i r hi => ?_⟩, fun r hr => ?_⟩
    · have hil : i < len := by have := (List.getElem?_eq_some_iff.1 hi).1; simpa using this
      simp [hil] at hi
      subst hi
      obtain ⟨b, off, ha, hr, _, hb⟩ := cells_at (hf i hil).1 hc
      obtain ⟨b0, off0, ha0, _⟩ := cells_at (hf 0 (by omega)).1 hc
      rw [Nat.zero_mul, show a.add 0 = a from rfl] at ha0
      subst ha0
      have hadd := Addr.add_mid b0 off0 (i * P.cellsOf e)
      rw [hadd] at ha
      cases ha
      exact ⟨b, off0, rfl, hr, hb⟩
    · obtain ⟨i, hi, rfl⟩ := List.mem_map.1 hr
      exact ⟨n, _, (hf i (List.mem_range.1 hi)).2⟩
end
end Go.KK
