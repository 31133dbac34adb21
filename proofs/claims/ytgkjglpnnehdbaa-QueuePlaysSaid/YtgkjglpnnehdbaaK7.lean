/- Words for opening arguments with their sizes. No premise. -/
import Derived.Test.YtgkjglpnnehdbaaK1
import Derived.SizedLaws
set_option linter.unusedVariables false
namespace Go.KK
open Go.RowKit
theorem weights_mem_all {H : Type} {P : Program} {e : TypeId} : ∀ {l : List (DataW H)} {d : DataW H}, d ∈ l → ∀ n ∈ d.weights P e, n ∈ DataW.weightsAll P e l
  | d0 :: r, d, hd, n, hn => by
    simp only [DataW.weightsAll, List.mem_append]
    rcases List.mem_cons.1 hd with rfl | hd
    · exact .inl hn
    · exact .inr (weights_mem_all hd n hn)
section
variable {H : Type} {enc : TypeId × Value → H} {P : Program} {w : World} {base : Nat} {spare : Nat → Bool} {held : Bool}
theorem slice_open_w {t e : TypeId} {fuel : Nat} {cs : List Value} {x : DataW H × List MemPlace} {R : Nat} (ht : P.underlying t = some (.slice e)) (hc : 0 < P.cellsOf e) (h : DataW.trod enc P w base spare held fuel t cs = some x) (hR : ∀ n ∈ x.1.weights P t, n ≤ R) :
    ∃ v rows, cs = [v] ∧ SlAt w v (P.cellsOf e) rows ∧ rows.length * P.bytesOf e ≤ R ∧ ∀ r ∈ rows, ∃ n y, DataW.trod enc P w base spare held n e r = some y ∧ ∀ k ∈ y.1.weights P e, k ≤ R := by
  rcases Deep.open_slice ht h with ⟨rfl, _⟩ | ⟨a, len, cap, m, n, D, Pl, rfl, _, hl, hm, hmm, hx, hel⟩
  · exact ⟨_, [], rfl, ⟨none, 0, rfl, by simp, by simp⟩, by simp, by simp⟩
  · have hlm : len ≤ m := by rw [hmm]; split <;> omega
    obtain ⟨f, hf⟩ := Deep.choose_lt (n := len) (p := fun i (r : List Value) => w.cells? base (a.add (i * P.cellsOf e)) (P.cellsOf e) = some r ∧ DataW.trod enc P w base spare held n e r = some (D i, Pl i)) (fun i hi => hel i (by omega))
    have hwt : ∀ k, (k = (((List.range len).map D).length + ((List.range (m - len)).map fun j => D (len + j)).length) * P.bytesOf e ∨ k ∈ DataW.weightsAll P e ((List.range len).map D)) → k ≤ R := fun k hk => hR k (by
      rw [hx]
      simp only [DataW.weights, ht, List.mem_cons, List.mem_append]
      exact hk.imp id .inl)
    refine ⟨_, (List.range len).map f, rfl, ⟨some a, cap, by simp, by simp; unfold maxLen at hm; omega, fun i r hi => ?_⟩, ?_, fun r hr => ?_⟩
    · have hil : i < len := by have := (List.getElem?_eq_some_iff.1 hi).1; simpa using this
      simp [hil] at hi
      subst hi
      obtain ⟨b, off, ha, hr, _, hb⟩ := cells_at (hf i hil).1 hc
      obtain ⟨b0, off0, ha0, _⟩ := cells_at (hf 0 (by omega)).1 hc
      rw [Nat.zero_mul, show a.add 0 = a from rfl] at ha0
      subst ha0
      have hadd := Addr.add_mid b0 off0 (i * P.cellsOf e)
      rw [hadd] at ha
      cases ha
      exact ⟨b, off0, rfl, hr, hb⟩
    · have := hwt _ (.inl rfl)
      simp only [List.length_map, List.length_range] at this ⊢
      exact Nat.le_trans (Nat.mul_le_mul_right _ (by omega)) this
    · obtain ⟨i, hi, rfl⟩ := List.mem_map.1 hr
      exact ⟨n, _, (hf i (List.mem_range.1 hi)).2, fun k hk => hwt k (.inr (weights_mem_all (List.mem_map.2 ⟨i, hi, rfl⟩) k hk))⟩
theorem field_open_w {t : TypeId} {fuel : Nat} {cs : List Value} {x : DataW H × List MemPlace} {R : Nat} (ht : P.underlying t = some (.struct (P.fieldsOf t))) (h : DataW.trod enc P w base spare held fuel t cs = some x) (hR : ∀ n ∈ x.1.weights P t, n ≤ R) :
    ∃ n, ∀ (i ft off : Nat), ((P.fieldsOf t)[i]?).map (fun f : Field => (f.type, f.offset)) = some (ft, off) → ∃ y, DataW.trod enc P w base spare held n ft ((cs.drop off).take (P.cellsOf ft)) = some y ∧ ∀ k ∈ y.1.weights P ft, k ≤ R := by
  obtain ⟨xs, n, _, hx, _, hl, hf⟩ := DataW.trod_struct ht h
  refine ⟨n, fun i ft off hi => ?_⟩
  cases hq : (P.fieldsOf t)[i]? with
  | none => simp [hq] at hi
  | some f =>
    simp only [hq, Option.map_some, Option.some.injEq, Prod.mk.injEq] at hi
    obtain ⟨rfl, rfl⟩ := hi
    have hi' : i < (P.fieldsOf t).size := (Array.getElem?_eq_some_iff.1 hq).1
    have hg : xs[i]? = some (xs[i]'(by omega)) := List.getElem?_eq_getElem (by omega)
    refine ⟨xs[i]'(by omega), by rw [hf i f hq]; exact hg, fun k hk => hR k ?_⟩
    rw [hx]
    simp only [DataW.weights, ht]
    exact DataW.weights_mem_each (j := i) (t := f.type) (d := (xs[i]'(by omega)).1) (by simp [hq]) (by simp [hg]) k hk
end
end Go.KK
