/- Words: a region that draws its order: its loads taken first; the others (allocations, calls, stores) in whatever order comes. No premise. -/
import Derived.Test.YtjmckfebnoaheaaK4
import Derived.Outline
set_option linter.unusedVariables false
namespace Go.KK
open Go.RowKit
section
variable {P : Program} {ops : Array Oper} {Q : Exit → Act → World → Prop} {md : Region.Mode} {S : World → Prop} {z : Nat}

def headB (md : Region.Mode) (ops : Array Oper) (z : Nat) : List Nat → Array Bool → Bool
  | [], _ => true
  | i :: r, listed => (Region.ready md ops listed).contains i && Region.free md ops listed i && (Region.waitsFor md ops z i && decide (i ≠ z)) && headB md ops z r (listed.setIfInBounds i true)
def listedBy : List Nat → Array Bool → Array Bool
  | [], l => l
  | i :: r, l => listedBy r (l.setIfInBounds i true)
theorem wpAnyT_headAny (hs : Region.noSelect ops = true) (hQ : ∀ (d : Option Tmp) v c a w, Q (.panic c) (Act.put a d v) w → Q (.panic c) a w) (n : Nat) :
    ∀ (hd : List (Nat × Oper)) (listed : Array Bool) (a : Act) (w : World), (∀ x ∈ hd, ops[x.1]? = some x.2) → headB md ops z (hd.map (·.1)) listed = true → listed.getD z true = false → S w →
    wpHead P ops S (fun a' => wpAnyT P md ops Q S z n (listedBy (hd.map (·.1)) listed) a' w) (hd.map (·.2)) a → wpAnyT P md ops Q S z (hd.length + n) listed a w
  | [], listed, a, w, _, hB, _, hS, h => by rw [List.length_nil, Nat.zero_add]; exact h
  | (i, o) :: r, listed, a, w, ho, hB, hzl, hS, h => by
    simp only [List.map_cons, headB, Bool.and_eq_true, decide_eq_true_eq] at hB
    obtain ⟨⟨⟨hr, hf⟩, hz, hiz⟩, hB'⟩ := hB
    have h0 : ops[i]? = some o := ho _ (List.mem_cons_self ..)
    rw [List.length_cons, show r.length + 1 + n = (r.length + n) + 1 by omega]
    have hst : ∃ v, YieldsIf P ops S o v a ∧ wpHead P ops S (fun a' => wpAnyT P md ops Q S z n (listedBy (r.map (·.1)) (listed.setIfInBounds i true)) a' w) (r.map (·.2)) (a.put o.dst v) := by
      simp only [List.map_cons, wpHead, listedBy] at h
      by_cases hw : Region.wanted o (yielded ops a.tmps) = true
      · rw [if_pos hw] at h
        obtain ⟨v, h1, h2⟩ := h
        refine ⟨v, .inl ⟨hw, fun w' hw' => ?_⟩, h2⟩
        have h3 := h1 w' hw'
        generalize (execOp a.eval o).run P w' = res at h3
        cases res with
        | ok n w'' =>
          cases n <;> simp only [Oper.heldUpon] at h3
          obtain ⟨rfl, rfl⟩ := h3
          rfl
        | halt x w'' => simp only [Oper.heldUpon] at h3
      · rw [if_neg hw] at h
        exact ⟨undef, .inr ⟨by simpa using hw, rfl⟩, h⟩
    obtain ⟨v, hy, h2⟩ := hst
    exact wpAnyT_first h0 (Region.noSelect_spec hs) hz (fun c a w hq => hQ _ _ c a w hq) _ listed a w (Region.free_spec h0 hf) hzl hiz (by simpa using hr) hy hS
      (wpAnyT_headAny hs hQ n r _ _ w (fun x hx => ho x (List.mem_cons_of_mem _ hx)) hB' (by rw [getD_set_ne true hiz]; exact hzl) hS h2)

/-- **The region**: hd the operations that are taken first; the rest comes as 'wpAnyT'. -/
theorem wp_region_headany {rid : Nat} {a : Act} {w : World} {l : List Oper} (S : World → Prop) (z : Nat) (hd : List Nat) (n : Nat) (hm : P.follows .mixedOrders = true)
    (hB : (Region.noSelect l.toArray && decide (hd.length + n = l.length ∧ z < l.length) && hd.all (fun i => decide (i < l.length)) && headB .any l.toArray z hd (Array.replicate l.length false)) = true)
    (hQ : ∀ (d : Option Tmp) v c a w, Q (.panic c) (Act.put a d v) w → Q (.panic c) a w) (hS : S w.drew)
    (h : wpHead P l.toArray S (fun a' => wpAnyT P .any l.toArray Q S z n (listedBy hd (Array.replicate l.length false)) a' w.drew) (hd.map fun i => l.getD i default) a) : (Code.region rid l.toArray true).wp P Q a w := by
  simp only [Bool.and_eq_true, decide_eq_true_eq, List.all_eq_true] at hB
  obtain ⟨⟨⟨hsel, hn, hzl⟩, hlt⟩, hB⟩ := hB
  have hget : ∀ i, i ∈ hd → l.toArray[i]? = some (l.getD i default) := fun i hi => by
    have := hlt i hi
    simp [List.getD, this]
  have hid : (hd.map fun i => (i, l.getD i default)).map (fun x : Nat × Oper => x.1) = hd := by rw [List.map_map]; exact List.map_id hd
  refine wp_region_any hm (wpAny_of_T (S := S) (z := z) _ _ _ _ ?_)
  have H := wpAnyT_headAny (P := P) (md := .any) (Q := Q) (S := S) (z := z) hsel hQ n (hd.map fun i => (i, l.getD i default)) (Array.replicate l.length false) a w.drew
    (fun x hx => by obtain ⟨i, hi, rfl⟩ := List.mem_map.1 hx; exact hget i hi) (by rw [hid]; exact hB) (by simp [hzl]) hS
    (by rw [hid, List.map_map]; exact h)
  simp only [List.length_map, hn] at H
  simpa using H

/-- All that may come up next. -/
def AllT (P : Program) (md : Region.Mode) (ops : Array Oper) (Q : Exit → Act → World → Prop) (S : World → Prop) (z fuel : Nat) (listed : Array Bool) (a : Act) (w : World) (rs : List Nat) : Prop :=
  ∀ i ∈ rs, wpOp P ops Q i (fun a' w' => (i ≠ z → listed.getD z true = false → S w') ∧ wpAnyT P md ops Q S z fuel (listed.setIfInBounds i true) a' w') a w
theorem AllT.nil {fuel : Nat} {listed : Array Bool} {a : Act} {w : World} : AllT P md ops Q S z fuel listed a w [] := fun _ h => by cases h
/-- One that may come up, walked as a list of one. -/
theorem AllT.cons {fuel : Nat} {listed : Array Bool} {a : Act} {w : World} {i : Nat} {o : Oper} {rs : List Nat} (ho : ops[i]? = some o)
    (h : wpList P ops (thenQ Q fun a' w' => (i ≠ z → listed.getD z true = false → S w') ∧ wpAnyT P md ops Q S z fuel (listed.setIfInBounds i true) a' w') [o] a w)
    (hs : AllT P md ops Q S z fuel listed a w rs) : AllT P md ops Q S z fuel listed a w (i :: rs) := fun j hj => by
  rcases List.mem_cons.1 hj with rfl | hj
  · unfold wpOp
    simp only [ho]
    unfold wpList at h
    split at h
    · rename_i hw
      rw [if_pos hw]
      exact h.imp thenQ_wp id
    · rename_i hw
      rw [if_neg hw]
      exact h
  · exact hs j hj
theorem wpAnyT_ready {rs : List Nat} {fuel : Nat} {listed : Array Bool} {a : Act} {w : World} (hr : Region.ready md ops listed = rs) (hne : rs ≠ []) (h : AllT P md ops Q S z fuel listed a w rs) : wpAnyT P md ops Q S z (fuel + 1) listed a w :=
  ⟨fun h0 => absurd (hr.symm.trans h0) hne, fun i hi => h i (hr ▸ hi)⟩
theorem wpAnyT_done {listed : Array Bool} {a : Act} {w : World} (hr : Region.ready md ops listed = []) (h : Q .normal a w) : wpAnyT P md ops Q S z 0 listed a w := ⟨hr, h⟩
end

/-! ### The pair of halves: 'a, b := f(x), f(y)': two loads, two calls, two new arrays, two stores: in whatever order. -/
end Go.KK
namespace Go.KK
open Go.RowKit
/-- A load of a whole struct, in the head, over the worlds that extend one. -/
theorem wpHead_loade {P : Program} {ops : Array Oper} {L : Act → Prop} {a : Act} {w : World} {op : Oper} {rest : List Oper} (hgd : op.guard = none) (ty : TypeId) (x : Operand) (ho : op.op = .load ty x)
    (b o : Nat) (hx : a.eval x = .pointer (some ⟨b, o, none⟩)) (cs : List Value) (d : TypeDesc) (hr : ∀ e : ExtOf w, e.wd.rangeAt b o cs) (hu : P.underlying ty = some d) (hd : d.isRow = true)
    (hi : (P.info? ty).map (·.size) = some cs.length) (h : wpHead P ops (fun w' => ∃ e : ExtOf w, w' = e.wd) L rest (a.put op.dst (.agg cs.toArray))) : wpHead P ops (fun w' => ∃ e : ExtOf w, w' = e.wd) L (op :: rest) a := by
  unfold wpHead
  rw [if_pos (by simp [Region.wanted, hgd])]
  refine ⟨.agg cs.toArray, fun w' hw' => ?_, h⟩
  obtain ⟨e, rfl⟩ := hw'
  unfold execOp
  simp only [ho, hx, Sem.run_bind, loadAt_mid (hr e) hu hd hi, Result.andThen_ok, Sem.run_pure, Oper.heldUpon]
  exact ⟨trivial, trivial⟩
end Go.KK
namespace Go.KK
theorem wpHead_build1 {P : Program} {ops : Array Oper} {S : World → Prop} {L : Act → Prop} {a : Act} {op : Oper} {rest : List Oper} (hgd : op.guard = none) (t : TypeId) (i0 : Nat) (x0 : Operand) (ho : op.op = .build t #[(i0, x0)]) (v : Value)
    (hr : ∀ w, (Instr.build t #[(i0, a.eval x0)]).run P w = .ok v w) (h : wpHead P ops S L rest (a.put op.dst v)) : wpHead P ops S L (op :: rest) a := by
  unfold wpHead
  rw [if_pos (by simp [Region.wanted, hgd])]
  refine ⟨v, fun w hw => ?_, h⟩
  unfold execOp
  simp only [ho, List.map_toArray, List.map_cons, List.map_nil, Sem.run_bind, hr w, Result.andThen_ok, Sem.run_pure, Oper.heldUpon]
  exact ⟨trivial, trivial⟩
end Go.KK
namespace Go.KK
theorem wpHead_build0 {P : Program} {ops : Array Oper} {S : World → Prop} {L : Act → Prop} {a : Act} {op : Oper} {rest : List Oper} (hgd : op.guard = none) (t : TypeId) (ho : op.op = .build t #[]) (v : Value)
    (hr : ∀ w, (Instr.build t #[]).run P w = .ok v w) (h : wpHead P ops S L rest (a.put op.dst v)) : wpHead P ops S L (op :: rest) a := by
  unfold wpHead
  rw [if_pos (by simp [Region.wanted, hgd])]
  refine ⟨v, fun w hw => ?_, h⟩
  unfold execOp
  simp only [ho, List.map_toArray, List.map_nil, Sem.run_bind, hr w, Result.andThen_ok, Sem.run_pure, Oper.heldUpon]
  exact ⟨trivial, trivial⟩
theorem g_alloc {P : Program} {ops : Array Oper} {Q : Exit → Act → World → Prop} {a : Act} {w : World} {rest : List Oper} {d : Option Tmp} {ty : TypeId} {p : String} {af : Array Edge} {gd : Option (Nat × Bool)} (t : TypeId)
    (h : wpList P ops Q ({ dst := d, op := .alloc t, type := ty, pos := p, after := af, guard := gd } :: rest) a w) : wpList P ops Q ({ dst := d, op := .alloc t, type := ty, pos := p, after := af, guard := gd } :: rest) a w := h
end Go.KK
namespace Go.KK
open Go.RowKit
theorem flat_inv {sz : Nat} : ∀ (rows : List (List Value)), (∀ r ∈ rows, r.length = sz) → ∀ (j : Nat) (u : Value), rows.flatten[j]? = some u → ∃ i r k, rows[i]? = some r ∧ r[k]? = some u ∧ j = i * sz + k := by
  intro rows
  induction rows with
  | nil => intro _ j u h; simp at h
  | cons a rest ih =>
    intro hl j u h
    have ha : a.length = sz := hl a (by simp)
    rw [List.flatten_cons] at h
    by_cases hj : j < a.length
    · rw [List.getElem?_append_left hj] at h
      exact ⟨0, a, j, rfl, h, by omega⟩
    · rw [List.getElem?_append_right (by omega)] at h
      obtain ⟨i, r, k, h1, h2, h3⟩ := ih (fun x hx => hl x (by simp [hx])) _ u h
      exact ⟨i + 1, r, k, by simpa using h1, h2, by rw [Nat.succ_mul]; omega⟩
/-- What is read as rows, as the second argument of an append. -/
theorem SlAt.src {P : Program} {w : World} {v : Value} {sz : Nat} {rows : List (List Value)} (h : SlAt w v sz rows) (hl : ∀ r ∈ rows, r.length = sz) (h1 : ∀ r ∈ rows, ∀ u ∈ r, u.oneCell' = true) {tx e' : TypeId} (hk : P.underlying tx = some (.slice e')) :
    Src P sz tx v rows.length rows.flatten w := by
  obtain ⟨A, cap, rfl, _, h2⟩ := h
  have h1' : ∀ u ∈ rows.flatten, u.oneCell' = true := fun u hu => by
    obtain ⟨r, hr, hu⟩ := List.mem_flatten.1 hu
    exact h1 r hr u hu
  cases hr : rows with
  | nil =>
    cases A with
    | none => exact Src.ofNil w hk cap
    | some a => exact Src.ofSlice w hk a 0 cap [] (by simp) (by simp) (by simp)
  | cons r0 rest =>
    rw [← hr]
    obtain ⟨b, off, rfl, _⟩ := h2 0 r0 (by rw [hr]; rfl)
    refine Src.ofSlice w hk ⟨b, off, none⟩ rows.length cap rows.flatten (flat_length rows hl) (fun j u hu => ?_) h1'
    obtain ⟨i, r, k, h3, h4, h5⟩ := flat_inv rows hl j u hu
    obtain ⟨b', off', hA, hr', _⟩ := h2 i r h3
    cases hA
    rw [Addr.add_mid, h5, ← Nat.add_assoc]
    exact hr' k u h4
end Go.KK
