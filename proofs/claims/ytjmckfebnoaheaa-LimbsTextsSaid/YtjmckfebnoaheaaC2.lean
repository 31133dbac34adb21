/- The pair of halves: two loads, two calls, two new arrays, two stores, in whatever order: words for it. No premise. -/
import Derived.Test.YtjmckfebnoaheaaC1
import Derived.Deep.CutRange
set_option linter.unusedVariables false
namespace Go.Proofs.Ytjmckfebnoaheaa
open Go.RowKit Go.KK Go.Lm

theorem al59 {ops : Array Oper} {Q : Exit → Act → World → Prop} {a : Act} {w : World} {op : Oper} {rest : List Oper} (hgd : op.guard = none) (ho : op.op = .alloc 59)
    (h : wpList Try.prog ops Q rest (a.put op.dst (.pointer (some ⟨w.heap.size, 0, none⟩))) (w.alloc (.cells Z8 59))) : wpList Try.prog ops Q (op :: rest) a w :=
  wpList_plain hgd fun K hK => by
    unfold Oper.wp execOp
    simp only [ho]
    simp [go_sem]
    exact hK _ _ h
/-- Under way: which of the two arrays are there. -/
structure Two (W : World) (p q : Option Nat) (V : World) : Prop where
  e : Below W.heap.size W V
  hp : ∀ b, p = some b → V.heap[b]? = some (.cells Z8 59 (0, 0)) ∧ W.heap.size ≤ b
  hq : ∀ b, q = some b → V.heap[b]? = some (.cells Z8 59 (0, 0)) ∧ W.heap.size ≤ b
  ne : ∀ b, p = some b → q ≠ some b
theorem Two.call {W V V' : World} {p q : Option Nat} (h : Two W p q V) (hb : Below V.heap.size V V') : Two W p q V' :=
  ⟨below_all h.e hb, fun b hb' => ⟨block_below (h.hp b hb').1 hb, (h.hp b hb').2⟩, fun b hb' => ⟨block_below (h.hq b hb').1 hb, (h.hq b hb').2⟩, h.ne⟩
theorem Two.alloc_p {W V : World} {q : Option Nat} (h : Two W none q V) : Two W (some V.heap.size) q (V.alloc (.cells Z8 59)) :=
  ⟨h.e.alloc h.e.size _, fun b hb => by cases hb; exact ⟨block_new _ _, h.e.size⟩, fun b hb => ⟨block_alloc (h.hq b hb).1 _, (h.hq b hb).2⟩, fun b hb hq => by
    cases hb
    have := block_lt (h.hq _ hq).1
    omega⟩
theorem Two.alloc_q {W V : World} {p : Option Nat} (h : Two W p none V) : Two W p (some V.heap.size) (V.alloc (.cells Z8 59)) :=
  ⟨h.e.alloc h.e.size _, fun b hb => ⟨block_alloc (h.hp b hb).1 _, (h.hp b hb).2⟩, fun b hb => by cases hb; exact ⟨block_new _ _, h.e.size⟩, fun b hb hq => by
    cases hq
    have := block_lt (h.hp _ hb).1
    omega⟩
structure One (x : Int) (W : World) (p q : Nat) (V : World) : Prop where
  e : Below W.heap.size W V
  hp : V.heap[p]? = some (.cells (H8 x) 59 (0, 0))
  hq : V.heap[q]? = some (.cells Z8 59 (0, 0))
  lp : W.heap.size ≤ p
  lq : W.heap.size ≤ q
  ne : p ≠ q
theorem Two.store {x : Int} {W V : World} {p q : Nat} (h : Two W (some p) (some q) V) : One x W p q (V.setCells p 0 (H8 x).toList) := by
  have hne : q ≠ p := fun e => h.ne p rfl (by rw [e])
  have hg := setCells_grown (w := V) (b := p) (H8 x).toList 0
  exact ⟨below_grown h.e h.e.size hg (by rintro _ ⟨rfl⟩; exact (h.hp p rfl).2), setCells_whole (h.hp p rfl).1 rfl, (hg.block q (block_lt (h.hq q rfl).1) (fun e => hne (Option.some.inj e))).trans (h.hq q rfl).1, (h.hp p rfl).2, (h.hq q rfl).2, hne.symm⟩
/-- Both are laid. -/
theorem One.store {x y : Int} {w W V : World} {p q : Nat} {l : List (Nat × Array Value × TypeId)} (h : One x W p q V) (hl : Blks w l W) : Blks w (l ++ [(p, H8 x, 59), (q, H8 y, 59)]) (V.setCells q 0 (H8 y).toList) := by
  have hg := setCells_grown (w := V) (b := q) (H8 y).toList 0
  have hB := hl.ext h.e
  have hws := hl.below.size
  have hlp := h.lp
  have hlq := h.lq
  refine ⟨below_grown hB.below hB.below.size hg (by rintro _ ⟨rfl⟩; omega), fun z hz => ?_, fun z hz => ?_, ?_⟩
  · rcases List.mem_append.1 hz with hz | hz
    · have := block_lt (hl.at_ z hz)
      exact (hg.block _ (block_lt (hB.at_ z hz)) (fun e => by have := Option.some.inj e; omega)).trans (hB.at_ z hz)
    · simp only [List.mem_cons, List.not_mem_nil, or_false] at hz
      rcases hz with rfl | rfl
      · exact (hg.block p (block_lt h.hp) (fun e => h.ne (Option.some.inj e))).trans h.hp
      · exact setCells_whole h.hq rfl
  · rcases List.mem_append.1 hz with hz | hz
    · exact hl.ge z hz
    · simp only [List.mem_cons, List.not_mem_nil, or_false] at hz
      rcases hz with rfl | rfl <;> (simp only; omega)
  · rw [List.map_append, List.nodup_append]
    refine ⟨hl.nd, by simp [h.ne], fun z hz u hu => ?_⟩
    obtain ⟨c, hc, rfl⟩ := List.mem_map.1 hz
    have := block_lt (hl.at_ c hc)
    simp only [List.map_cons, List.map_nil, List.mem_cons, List.not_mem_nil, or_false] at hu
    rcases hu with rfl | rfl <;> omega
end Go.Proofs.Ytjmckfebnoaheaa
