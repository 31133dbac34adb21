/- Words: a region that draws its order: some reads taken first, some operations in a forced order (a call whose value nobody foretells), the rest quiet over the worlds that extend the one reached. No premise. -/
import Derived.Test.YtjmckfebnoaheaaK5
set_option linter.unusedVariables false
namespace Go.KK
open Go.RowKit
section
variable {P : Program} {ops : Array Oper} {Q : Exit → Act → World → Prop} {md : Region.Mode} {S : World → Prop}

def headHB (md : Region.Mode) (ops : Array Oper) : List Nat → Array Bool → Bool
  | [], _ => true
  | i :: r, listed => (Region.ready md ops listed).contains i && Region.free md ops listed i && headHB md ops r (listed.setIfInBounds i true)
theorem wpAnyH_headAny (hs : Region.noSelect ops = true) (hQ : ∀ (d : Option Tmp) v c a w, Q (.panic c) (Act.put a d v) w → Q (.panic c) a w) (n : Nat) :
    ∀ (hd : List (Nat × Oper)) (listed : Array Bool) (a : Act) (w : World), (∀ x ∈ hd, ops[x.1]? = some x.2) → headHB md ops (hd.map (·.1)) listed = true → S w →
    wpHead P ops S (fun a' => wpAnyH P md ops Q S n (listedBy (hd.map (·.1)) listed) a' w) (hd.map (·.2)) a → wpAnyH P md ops Q S (hd.length + n) listed a w
  | [], listed, a, w, _, hB, hS, h => by rw [List.length_nil, Nat.zero_add]; exact h
  | (i, o) :: r, listed, a, w, ho, hB, hS, h => by
    simp only [List.map_cons, headHB, Bool.and_eq_true] at hB
    obtain ⟨⟨hr, hf⟩, hB'⟩ := hB
    have h0 : ops[i]? = some o := ho _ (List.mem_cons_self ..)
    rw [List.length_cons, show r.length + 1 + n = (r.length + n) + 1 by omega]
    have hst : ∃ v, YieldsIf P ops S o v a ∧ wpHead P ops S (fun a' => wpAnyH P md ops Q S n (listedBy (r.map (·.1)) (listed.setIfInBounds i true)) a' w) (r.map (·.2)) (a.put o.dst v) := by
      simp only [List.map_cons, wpHead, listedBy] at h
      by_cases hw : Region.wanted o (yielded ops a.tmps) = true
      · rw [if_pos hw] at h
        obtain ⟨v, h1, h2⟩ := h
        refine ⟨v, .inl ⟨hw, fun w' hw' => ?_⟩, h2⟩
        have h3 := h1 w' hw'
        generalize (execOp a.eval o).run P w' = res at h3
        cases res with
        | ok n w'' =>
          cases n <;> simp only [Oper.heldUpon] at h3
          obtain ⟨rfl, rfl⟩ := h3
          rfl
        | halt x w'' => simp only [Oper.heldUpon] at h3
      · rw [if_neg hw] at h
        exact ⟨undef, .inr ⟨by simpa using hw, rfl⟩, h⟩
    obtain ⟨v, hy, h2⟩ := hst
    exact wpAnyH_first h0 (Region.noSelect_spec hs) (fun c a w hq => hQ _ _ c a w hq) _ listed a w (Region.free_spec h0 hf) (by simpa using hr) hy hS
      (wpAnyH_headAny hs hQ n r _ _ w (fun x hx => ho x (List.mem_cons_of_mem _ hx)) hB' hS h2)
theorem wp_region_headH {rid : Nat} {a : Act} {w : World} {l : List Oper} (S : World → Prop) (hd : List Nat) (n : Nat) (hm : P.follows .mixedOrders = true)
    (hB : (Region.noSelect l.toArray && decide (hd.length + n = l.length) && hd.all (fun i => decide (i < l.length)) && headHB .any l.toArray hd (Array.replicate l.length false)) = true)
    (hQ : ∀ (d : Option Tmp) v c a w, Q (.panic c) (Act.put a d v) w → Q (.panic c) a w) (hS : S w.drew)
    (h : wpHead P l.toArray S (fun a' => wpAnyH P .any l.toArray Q S n (listedBy hd (Array.replicate l.length false)) a' w.drew) (hd.map fun i => l.getD i default) a) : (Code.region rid l.toArray true).wp P Q a w := by
  simp only [Bool.and_eq_true, decide_eq_true_eq, List.all_eq_true] at hB
  obtain ⟨⟨⟨hsel, hn⟩, hlt⟩, hB⟩ := hB
  have hget : ∀ i, i ∈ hd → l.toArray[i]? = some (l.getD i default) := fun i hi => by
    have := hlt i hi
    simp [List.getD, this]
  have hid : (hd.map fun i => (i, l.getD i default)).map (fun x : Nat × Oper => x.1) = hd := by rw [List.map_map]; exact List.map_id hd
  refine wp_region_any hm (wpAny_of_held (S := S) _ _ _ _ ?_)
  have H := wpAnyH_headAny (P := P) (md := .any) (Q := Q) (S := S) hsel hQ n (hd.map fun i => (i, l.getD i default)) (Array.replicate l.length false) a w.drew
    (fun x hx => by obtain ⟨i, hi, rfl⟩ := List.mem_map.1 hx; exact hget i hi) (by rw [hid]; exact hB) hS
    (by rw [hid, List.map_map]; exact h)
  simp only [List.length_map, hn] at H
  simpa using H
/-- One operation that alone may come up now. -/
theorem wpAnyH_one {i : Nat} {o : Oper} {fuel : Nat} {listed : Array Bool} {a : Act} {w : World} (hr : Region.ready md ops listed = [i]) (ho : ops[i]? = some o)
    (h : wpList P ops (thenQ Q fun a' w' => S w' ∧ wpAnyH P md ops Q S fuel (listed.setIfInBounds i true) a' w') [o] a w) : wpAnyH P md ops Q S (fuel + 1) listed a w := by
  refine wpAnyH_all hr (by simp) fun j hj => ?_
  have hji : j = i := by simpa using hj
  subst hji
  unfold wpOp
  simp only [ho]
  unfold wpList at h
  split at h
  · rename_i hw
    rw [if_pos hw]
    exact h.imp thenQ_wp id
  · rename_i hw
    rw [if_neg hw]
    exact h
/-- The rest is quiet over a class of worlds. -/
theorem wpAnyH_of_quiet {C : World → Prop} {Q0 : Act → Prop} (hQ : ∀ a w, C w → Q0 a → Q .normal a w) (hCS : ∀ w, C w → S w) : ∀ (fuel : Nat) (listed : Array Bool) (a : Act) (w : World), C w →
    wpAnyQ P md ops C Q0 fuel listed a → wpAnyH P md ops Q S fuel listed a w
  | 0, _, _, _, hw, h => ⟨h.1, hQ _ _ hw h.2⟩
  | fuel + 1, _, _, _, hw, h => ⟨fun h0 => hQ _ _ hw (h.1 h0), fun i hi => wpOp_of_qOp hw (fun a' w' hw' h' => ⟨hCS _ hw', wpAnyH_of_quiet hQ hCS fuel _ a' w' hw' h'⟩) (h.2 i hi)⟩
theorem wpAnyH_quiet {l : List Oper} {listed : Array Bool} {a : Act} {w : World} (C : World → Prop) (k : Nat) (hs : Region.noSelect l.toArray = true) (hB : Region.lexFrom md l.toArray (l.drop k).length k listed = true) (hC : C w) (hCS : ∀ w, C w → S w)
    {n : Nat} (hn : (l.drop k).length = n) (h : wpQuiet P l.toArray C (fun a' => ∀ w', C w' → Q .normal a' w') (l.drop k) a) : wpAnyH P md l.toArray Q S n listed a w := by
  subst hn
  exact wpAnyH_of_quiet (Q0 := fun a' => ∀ w', C w' → Q .normal a' w') (fun _ _ hw h => h _ hw) hCS _ _ _ _ hC (wpAnyQ_lex hs (l.drop k) k listed a (fun j => by simp [List.getElem?_drop]) hB h)
end
end Go.KK
