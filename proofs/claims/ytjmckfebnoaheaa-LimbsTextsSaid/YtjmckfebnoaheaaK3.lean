/- Words: a region that draws its order, its head (operations that read alone) taken first in an order of mine, its tail forced, the last operation behind all. No premise. -/
import Derived.Test.YtjmckfebnoaheaaK2
import Derived.OrdersHeld
set_option linter.unusedVariables false
namespace Go.KK
open Go.RowKit

section
variable {P : Program} {ops : Array Oper} {Q : Exit → Act → World → Prop} {md : Region.Mode} {S : World → Prop} {z : Nat}

/-- 'wpAny', S shown behind every operation but number z. -/
def wpAnyT (P : Program) (md : Region.Mode) (ops : Array Oper) (Q : Exit → Act → World → Prop) (S : World → Prop) (z : Nat) : Nat → Array Bool → Act → World → Prop
  | 0, listed, a, w => Region.ready md ops listed = [] ∧ Q .normal a w
  | fuel + 1, listed, a, w =>
    (Region.ready md ops listed = [] → Q .normal a w) ∧
    ∀ i ∈ Region.ready md ops listed, wpOp P ops Q i (fun a' w' => (i ≠ z → listed.getD z true = false → S w') ∧ wpAnyT P md ops Q S z fuel (listed.setIfInBounds i true) a' w') a w
theorem wpAny_of_T : ∀ (fuel : Nat) (listed : Array Bool) (a : Act) (w : World), wpAnyT P md ops Q S z fuel listed a w → wpAny P md ops Q fuel listed a w
  | 0, _, _, _, h => h
  | fuel + 1, _, _, _, h => ⟨h.1, fun i hi => wpOp_mono (fun a' w' h' => wpAny_of_T fuel _ a' w' h'.2) (h.2 i hi)⟩
theorem not_ready_wait {i : Nat} {listed : Array Bool} (hz : Region.waitsFor md ops z i = true) (hi : listed.getD i true = false) : z ∉ Region.ready md ops listed := fun hr => by
  obtain ⟨_, oz, hoz, hall⟩ := mem_ready.1 hr
  obtain ⟨oj, hj, e, he, hb, hon⟩ := Region.waitsFor_spec hz
  have : oj = oz := Option.some.inj (hj.symm.trans hoz)
  subst this
  have h1 := hall e he hb
  rw [hon, getD_both hi] at h1
  cases h1
theorem wpAnyT_first {i : Nat} {oi : Oper} {v : Value} (hi : ops[i]? = some oi) (hsel : ∀ (j : Nat) (o : Oper) cs b, ops[j]? = some o → o.op ≠ .select cs b)
    (hz : Region.waitsFor md ops z i = true) (hQ : ∀ c a w, Q (.panic c) (a.put oi.dst v) w → Q (.panic c) a w) :
    ∀ (fuel : Nat) (listed : Array Bool) (a : Act) (w : World),
      (∀ j oj, ops[j]? = some oj → j ≠ i → listed.getD j true = false → (∀ e ∈ oj.after, Region.binds md e = true → e.on ≠ i) → oi.apart ops oj = true) →
      listed.getD z true = false → i ≠ z → i ∈ Region.ready md ops listed → YieldsIf P ops S oi v a → S w →
      wpAnyT P md ops Q S z fuel (listed.setIfInBounds i true) (a.put oi.dst v) w → wpAnyT P md ops Q S z (fuel + 1) listed a w := by
  intro fuel
  induction fuel with
  | zero =>
    intro listed a w _ hzl hiz hr hy hS H
    refine ⟨fun h => (by rw [h] at hr; cases hr), fun j hj => ?_⟩
    by_cases hji : j = i
    · subst hji; exact hy.wpOp hi hS ⟨fun _ _ => hS, H⟩
    · have := ready_mono hj hji
      rw [H.1] at this
      cases this
  | succ fuel ih =>
    intro listed a w hfree hzl hiz hr hy hS H
    have hun := (mem_ready.1 hr).1
    refine ⟨fun h => (by rw [h] at hr; cases hr), fun j hj => ?_⟩
    by_cases hji : j = i
    · subst hji; exact hy.wpOp hi hS ⟨fun _ _ => hS, H⟩
    · have hjz : j ≠ z := fun e => not_ready_wait hz hun (e ▸ hj)
      have h1 := H.2 j (ready_mono hj hji)
      obtain ⟨hjun, oj, hoj, hall⟩ := mem_ready.1 hj
      have hnot : ∀ e ∈ oj.after, Region.binds md e = true → e.on ≠ i := fun e he hb heq => by
        have h1 := hall e he hb
        rw [heq, getD_both hun] at h1
        cases h1
      have h2 := wpOp_putIf hoj (hfree j oj hoj hji hjun hnot) (fun cs b => hsel i oi cs b hi) (fun cs b => hsel j oj cs b hoj) hQ hy h1
      have hfree' : ∀ k ok, ops[k]? = some ok → k ≠ i → (listed.setIfInBounds j true).getD k true = false →
          (∀ e ∈ ok.after, Region.binds md e = true → e.on ≠ i) → oi.apart ops ok = true := fun k ok hk hki hun hno => by
        refine hfree k ok hk hki ?_ hno
        by_cases hjk : j = k
        · subst hjk; exact hjun
        · rw [getD_set_ne true hjk] at hun; exact hun
      refine wpOp_mono (fun a' w' h3 => ⟨fun a1 b1 => h3.2.1 a1 (by rw [getD_set_ne true hiz]; exact b1), ih (listed.setIfInBounds j true) a' w' hfree' (by rw [getD_set_ne true hjz]; exact hzl) hiz (ready_mono hr (Ne.symm hji)) h3.1 (h3.2.1 hjz (by rw [getD_set_ne true hiz]; exact hzl)) ?_⟩) h2
      rw [Array.setIfInBounds_comm _ _ hji]
      exact h3.2.2

/-- An operation of the head: one value in every world that meets S, the world as it was. -/
def Oper.heldUpon (w : World) (v : Value) : Result Next → Prop
  | .ok (.value u) w' => w' = w ∧ u = v
  | _ => False
def Oper.heldIn (P : Program) (o : Oper) (a : Act) (S : World → Prop) (next : Act → Prop) : Prop := ∃ v, (∀ w, S w → Oper.heldUpon w v ((execOp a.eval o).run P w)) ∧ next (a.put o.dst v)
/-- The head, in an order of mine. -/
def wpHead (P : Program) (ops : Array Oper) (S : World → Prop) (L : Act → Prop) : List Oper → Act → Prop
  | [], a => L a
  | o :: rest, a => if Region.wanted o (yielded ops a.tmps) then Oper.heldIn P o a S (wpHead P ops S L rest) else wpHead P ops S L rest (a.put o.dst undef)
theorem wpHead_nil {L : Act → Prop} {a : Act} (h : L a) : wpHead P ops S L [] a := h
theorem wpHead_step {L : Act → Prop} {a : Act} {o : Oper} {rest : List Oper}
    (h : ∀ K : Act → Prop, (∀ a, wpHead P ops S L rest a → K a) → if Region.wanted o (yielded ops a.tmps) then Oper.heldIn P o a S K else K (a.put o.dst undef)) : wpHead P ops S L (o :: rest) a :=
  h _ (fun _ h => h)
/-- The tail: whichever comes up is the next; S is shown behind each but the last. -/
def wpTail (P : Program) (ops : Array Oper) (Q : Exit → Act → World → Prop) (S : World → Prop) (z : Nat) : List (Nat × Oper) → Act → World → Prop
  | [], a, w => Q .normal a w
  | (i, o) :: rest, a, w => if Region.wanted o (yielded ops a.tmps) then o.wp P a w (fun a' w' => (i ≠ z → S w') ∧ wpTail P ops Q S z rest a' w') Q ∨ (o.asks P a w ∧ LetsOut Q) else ((i ≠ z → S w) ∧ wpTail P ops Q S z rest (a.put o.dst undef) w)

/-- The check: the head's order, each taken one free, and the last operation waiting for it; then the tail forced. -/
def headTailB (md : Region.Mode) (ops : Array Oper) (z : Nat) (tail : List Nat) : List Nat → Array Bool → Bool
  | [], listed => tailB md ops tail listed
  | i :: r, listed => (Region.ready md ops listed).contains i && Region.free md ops listed i && (Region.waitsFor md ops z i && decide (i ≠ z)) && headTailB md ops z tail r (listed.setIfInBounds i true)
where
  tailB (md : Region.Mode) (ops : Array Oper) : List Nat → Array Bool → Bool
    | [], listed => (Region.ready md ops listed).isEmpty
    | i :: r, listed => decide (Region.ready md ops listed = [i]) && tailB md ops r (listed.setIfInBounds i true)

theorem wpAnyT_tail : ∀ (l : List (Nat × Oper)) (listed : Array Bool) (a : Act) (w : World), (∀ x ∈ l, ops[x.1]? = some x.2) → headTailB.tailB md ops (l.map (·.1)) listed = true →
    wpTail P ops Q S z l a w → wpAnyT P md ops Q S z l.length listed a w
  | [], listed, a, w, _, hB, h => ⟨by simpa [headTailB.tailB] using hB, h⟩
  | (i, o) :: r, listed, a, w, ho, hB, h => by
    simp only [List.map_cons, headTailB.tailB, Bool.and_eq_true, decide_eq_true_eq] at hB
    refine ⟨fun h1 => (by rw [hB.1] at h1; cases h1), fun j hj => ?_⟩
    rw [hB.1] at hj
    have hji : j = i := by simpa using hj
    subst hji
    have h0 := ho _ (List.mem_cons_self ..)
    simp only at h0
    have hw : wpOp P ops Q j (fun a' w' => (j ≠ z → S w') ∧ wpTail P ops Q S z r a' w') a w := by unfold wpOp; simp only [h0]; exact h
    exact wpOp_mono (fun a' w' h' => ⟨fun h1 _ => h'.1 h1, wpAnyT_tail r _ a' w' (fun x hx => ho x (List.mem_cons_of_mem _ hx)) hB.2 h'.2⟩) hw

theorem wpAnyT_head (hs : Region.noSelect ops = true) (hQ : ∀ (d : Option Tmp) v c a w, Q (.panic c) (Act.put a d v) w → Q (.panic c) a w) (tl : List (Nat × Oper)) (htl : ∀ x ∈ tl, ops[x.1]? = some x.2) :
    ∀ (hd : List (Nat × Oper)) (listed : Array Bool) (a : Act) (w : World), (∀ x ∈ hd, ops[x.1]? = some x.2) → headTailB md ops z (tl.map (·.1)) (hd.map (·.1)) listed = true → listed.getD z true = false → S w →
    wpHead P ops S (fun a' => wpTail P ops Q S z tl a' w) (hd.map (·.2)) a → wpAnyT P md ops Q S z (hd.length + tl.length) listed a w
  | [], listed, a, w, _, hB, _, hS, h => by rw [List.length_nil, Nat.zero_add]; exact wpAnyT_tail tl listed a w htl hB h
  | (i, o) :: r, listed, a, w, ho, hB, hzl, hS, h => by
    simp only [List.map_cons, headTailB, Bool.and_eq_true, decide_eq_true_eq] at hB
    obtain ⟨⟨⟨hr, hf⟩, hz, hiz⟩, hB'⟩ := hB
    have h0 : ops[i]? = some o := ho _ (List.mem_cons_self ..)
    rw [List.length_cons, show r.length + 1 + tl.length = (r.length + tl.length) + 1 by omega]
    have hst : ∃ v, YieldsIf P ops S o v a ∧ wpHead P ops S (fun a' => wpTail P ops Q S z tl a' w) (r.map (·.2)) (a.put o.dst v) := by
      simp only [List.map_cons, wpHead] at h
      by_cases hw : Region.wanted o (yielded ops a.tmps) = true
      · rw [if_pos hw] at h
        obtain ⟨v, h1, h2⟩ := h
        refine ⟨v, .inl ⟨hw, fun w' hw' => ?_⟩, h2⟩
        have h3 := h1 w' hw'
        generalize (execOp a.eval o).run P w' = res at h3
        cases res with
        | ok n w'' =>
          cases n <;> simp only [Oper.heldUpon] at h3
          obtain ⟨rfl, rfl⟩ := h3
          rfl
        | halt x w'' => simp only [Oper.heldUpon] at h3
      · rw [if_neg hw] at h
        exact ⟨undef, .inr ⟨by simpa using hw, rfl⟩, h⟩
    obtain ⟨v, hy, h2⟩ := hst
    exact wpAnyT_first h0 (Region.noSelect_spec hs) hz (fun c a w hq => hQ _ _ c a w hq) _ listed a w (Region.free_spec h0 hf) hzl hiz (by simpa using hr) hy hS
      (wpAnyT_head hs hQ tl htl r _ _ w (fun x hx => ho x (List.mem_cons_of_mem _ hx)) hB' (by rw [getD_set_ne true hiz]; exact hzl) hS h2)

/-- **The region.** hd, tl: the operations' numbers, in my order. -/
theorem wp_region_headtail {rid : Nat} {a : Act} {w : World} {l : List Oper} (S : World → Prop) (z : Nat) (hd tl : List Nat) (hm : P.follows .mixedOrders = true)
    (hB : (Region.noSelect l.toArray && decide (hd.length + tl.length = l.length ∧ z < l.length) && (hd ++ tl).all (fun i => decide (i < l.length)) && headTailB .any l.toArray z tl hd (Array.replicate l.length false)) = true)
    (hQ : ∀ (d : Option Tmp) v c a w, Q (.panic c) (Act.put a d v) w → Q (.panic c) a w) (hS : S w.drew)
    (h : wpHead P l.toArray S (fun a' => wpTail P l.toArray Q S z (tl.map fun i => (i, l.getD i default)) a' w.drew) (hd.map fun i => l.getD i default) a) : (Code.region rid l.toArray true).wp P Q a w := by
  simp only [Bool.and_eq_true, decide_eq_true_eq, List.all_eq_true] at hB
  obtain ⟨⟨⟨hsel, hn, hzl⟩, hlt⟩, hB⟩ := hB
  have hget : ∀ i, i ∈ hd ++ tl → l.toArray[i]? = some (l.getD i default) := fun i hi => by
    have := hlt i hi
    simp [List.getD, this]
  refine wp_region_any hm (wpAny_of_T (S := S) (z := z) _ _ _ _ ?_)
  have H := wpAnyT_head (P := P) (md := .any) (Q := Q) (S := S) (z := z) hsel hQ (tl.map fun i => (i, l.getD i default))
    (fun x hx => by obtain ⟨i, hi, rfl⟩ := List.mem_map.1 hx; exact hget i (List.mem_append_right _ hi)) (hd.map fun i => (i, l.getD i default)) (Array.replicate l.length false) a w.drew
    (fun x hx => by obtain ⟨i, hi, rfl⟩ := List.mem_map.1 hx; exact hget i (List.mem_append_left _ hi))
    (by simp only [List.map_map]; rw [show (fun x : Nat × Oper => x.1) ∘ (fun i => (i, l.getD i default)) = id from rfl, List.map_id, List.map_id]; exact hB) (by simp [hzl]) hS
    (by simp only [List.map_map]; exact h)
  simp only [List.length_map, hn] at H
  simpa using H

/-- A post that is Q but for falling through. -/
def thenQ (Q : Exit → Act → World → Prop) (K : Act → World → Prop) : Exit → Act → World → Prop
  | .normal, a, w => K a w
  | x, a, w => Q x a w
theorem thenQ_wp {o : Oper} {a : Act} {w : World} {K : Act → World → Prop} (h : o.wp P a w K (thenQ Q K)) : o.wp P a w K Q := by
  unfold Oper.wp at h ⊢
  generalize (execOp a.eval o).run P w = res at h ⊢
  cases res with
  | ok n w' =>
    cases n with
    | enter f args => exact Calls.mono h (fun e w'' h' => by cases e <;> exact h')
    | _ => exact h
  | halt x w' => cases x <;> exact h
/-- An operation of the tail, walked as a list of one. -/
theorem wpTail_of_list {i : Nat} {o : Oper} {rest : List (Nat × Oper)} {a : Act} {w : World} (h : wpList P ops (thenQ Q fun a' w' => (i ≠ z → S w') ∧ wpTail P ops Q S z rest a' w') [o] a w) : wpTail P ops Q S z ((i, o) :: rest) a w := by
  unfold wpList at h
  unfold wpTail
  split at h
  · rename_i hw
    rw [if_pos hw]
    exact h.imp thenQ_wp id
  · rename_i hw
    rw [if_neg hw]
    exact h
theorem wpList_end {K : Act → World → Prop} {a : Act} {w : World} (h : K a w) : wpList P ops (thenQ Q K) [] a w := h
end
end Go.KK
