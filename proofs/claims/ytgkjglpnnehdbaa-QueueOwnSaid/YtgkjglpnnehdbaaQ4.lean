/- Put: what it does to the queue's cells, and the walk. -/
import Derived.Test.YtgkjglpnnehdbaaQ3
namespace Go.Proofs.Ytgkjglpnnehdbaa
open Go.RowKit Go.KK

/-- The cells behind a Put. -/
def pushed (c : Array Value) (k : Nat) (e : EntD) (n put : Int) : Array Value :=
  ((c.toList.take (1 + k * 28) ++ e.cells ++ c.toList.drop (1 + k * 28 + 28)).toArray.setIfInBounds 7170 (.int .i64 n)).setIfInBounds 7171 (.int .i64 put)
theorem QC.push {c : Array Value} {tk put : Int} {fr : Nat} {L : List EntD} (h : QC c tk fr L put) (hl : L.length < 256) (e : EntD) (he : e.OK) : QC (pushed c ((fr + L.length) % 256) e (L.length + 1) (put + 1)) tk fr (L ++ [e]) (put + 1) := by
  have hk : (fr + L.length) % 256 < 256 := Nat.mod_lt _ (by omega)
  have hs := h.size
  have hsp : ∀ k, k < 256 → 1 + k * 28 + e.cells.length ≤ c.toList.length := fun k hk => by rw [EntD.length]; simp; omega
  have hg : ∀ k, k < 256 → ∀ j, (c.toList.take (1 + k * 28) ++ e.cells ++ c.toList.drop (1 + k * 28 + 28))[j]? = if 1 + k * 28 ≤ j ∧ j < 1 + k * 28 + 28 then e.cells[j - (1 + k * 28)]? else c[j]? := fun k hk j => by
    have := splice_get c.toList (1 + k * 28) e.cells (hsp k hk) j
    simpa [EntD.length] using this
  have hlen : ∀ k, k < 256 → (c.toList.take (1 + k * 28) ++ e.cells ++ c.toList.drop (1 + k * 28 + 28)).length = 7172 := fun k hk => by
    have := splice_length c.toList (1 + k * 28) e.cells (hsp k hk)
    simpa [EntD.length, hs] using this
  have hget : ∀ j, j < 7170 → (pushed c ((fr + L.length) % 256) e (L.length + 1) (put + 1))[j]? = if 1 + (fr + L.length) % 256 * 28 ≤ j ∧ j < 1 + (fr + L.length) % 256 * 28 + 28 then e.cells[j - (1 + (fr + L.length) % 256 * 28)]? else c[j]? := fun j hj => by
    unfold pushed
    rw [Array.getElem?_setIfInBounds_ne (by omega), Array.getElem?_setIfInBounds_ne (by omega), List.getElem?_toArray, hg _ hk]
  refine ⟨?_, ?_, h.tk0, h.tk1, ?_, ?_, ?_, ?_, h.frl, ?_, ?_, ?_, ?_⟩
  · unfold pushed; rw [Array.size_setIfInBounds, Array.size_setIfInBounds, List.size_toArray, hlen _ hk]
  · intro v hv
    simp only [pushed, Array.toList_setIfInBounds] at hv
    rcases List.mem_or_eq_of_mem_set hv with hv | hv
    · rcases List.mem_or_eq_of_mem_set hv with hv | hv
      · exact splice_mem (o := 1 + (fr + L.length) % 256 * 28) h.one e.one v hv
      · subst hv; rfl
    · subst hv; rfl
  · rw [hget 0 (by omega), if_neg (by omega), h.h0]
  · rw [hget 7169 (by omega), if_neg (by omega), h.hf]
  · unfold pushed
    rw [Array.getElem?_setIfInBounds_ne (by omega), Array.getElem?_setIfInBounds_self_of_lt (by rw [List.size_toArray, hlen _ hk]; omega)]
    simp
  · unfold pushed
    rw [Array.getElem?_setIfInBounds_self_of_lt (by rw [Array.size_setIfInBounds, List.size_toArray, hlen _ hk]; omega)]
  · simp; omega
  · intro x hx
    rcases List.mem_append.1 hx with hx | hx
    · exact h.ok x hx
    · simp only [List.mem_singleton] at hx; subst hx; exact he
  · have := h.put0; omega
  · intro i x hx j hj
    by_cases hi : i < L.length
    · rw [List.getElem?_append_left hi] at hx
      have hne : (fr + i) % 256 ≠ (fr + L.length) % 256 := by omega
      have hm : (fr + i) % 256 < 256 := Nat.mod_lt _ (by omega)
      rw [hget _ (by omega), if_neg (by omega)]
      exact h.ent i x hx j hj
    · have hil : i = L.length := by
        have := (List.getElem?_eq_some_iff.1 hx).1
        simp at this; omega
      subst hil
      rw [List.getElem?_append_right (Nat.le_refl _)] at hx
      simp at hx
      subst hx
      rw [hget _ (by omega), if_pos (by omega)]
      congr 1
      omega

theorem build46 (o : OpD) (now : Int) (w : World) : (Instr.build 46 #[(0, .agg o.cells.toArray), (1, .int .u64 now)]).run Try.prog w = .ok (.agg (EntD.mk o now).cells.toArray) w := by
  unfold OpD.cells EntD.cells
  simp [go_sem]
  rfl
end Go.Proofs.Ytgkjglpnnehdbaa
