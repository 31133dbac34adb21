/- Words that all walks of this set use: a region that draws its order, walked once in the order of the text, over the class of the worlds that extend one world; loads and stores of whole structs. No premise. -/
import Derived.WalkKit
import Derived.Deep.QuietTactic
import Derived.BigQuiet
import Derived.StillTailTactics
import Derived.Deep.MidRow
import Derived.KernelRfl
namespace Go.KK
open Go.RowKit

/-- A world that extends w: what was there is as it was; new blocks and draws may have come. -/
def ExtOf (w : World) : Type := { x : World // Below w.heap.size w x }
instance (w : World) : Nonempty (ExtOf w) := ⟨⟨w, Below.refl _ _⟩⟩
def ExtOf.wd {w : World} (e : ExtOf w) : World := e.1
theorem ExtOf.below {w : World} (e : ExtOf w) : Below w.heap.size w e.wd := e.2
/-- The class. -/
def IsExt (w x : World) : Prop := ∃ e : ExtOf w, x = e.wd
theorem IsExt.of {w x : World} (h : Below w.heap.size w x) : IsExt w x := ⟨⟨x, h⟩, rfl⟩
theorem IsExt.below {w x : World} (h : IsExt w x) : Below w.heap.size w x := by obtain ⟨e, rfl⟩ := h; exact e.below
theorem IsExt.trans {w x y : World} (h : IsExt w x) (k : Below x.heap.size x y) : IsExt w y :=
  .of ⟨k.os.trans h.below.os, k.tape.trans h.below.tape, k.output.trans h.below.output, Nat.le_trans h.below.size k.size, fun i hi => (k.block i (Nat.lt_of_lt_of_le hi h.below.size)).trans (h.below.block i hi)⟩

theorem ExtOf.cell {w : World} (e : ExtOf w) {a : Addr} {v : Value} (h : w.cell? a = some v) : e.wd.cell? a = some v :=
  (e.below.cell (World.block_lt_of_cell? w a h)).trans h
theorem ExtOf.range {w : World} (e : ExtOf w) {b o : Nat} {cs : List Value} (h : w.rangeAt b o cs) : e.wd.rangeAt b o cs := fun j v hv => e.cell (h j v hv)
theorem ExtOf.block {w : World} (e : ExtOf w) {b : Nat} {o : Obj} (h : w.heap[b]? = some o) : e.wd.heap[b]? = some o :=
  (e.below.block b (Array.getElem?_eq_some_iff.1 h).1).trans h

section
variable {P : Program} {ops : Array Oper} {md : Region.Mode} {C : World → Prop}

/-- Whatever order is picked, as long as operations below n are left. -/
def wpAnyLQ (P : Program) (md : Region.Mode) (ops : Array Oper) (C : World → Prop) (n : Nat) (L : Array Bool → Act → Prop) : Nat → Array Bool → Act → Prop
  | 0, listed, a => L listed a
  | f + 1, listed, a => Region.ready md ops listed ≠ [] ∧ ∀ i ∈ Region.ready md ops listed, i < n ∧ qOp P ops C i (wpAnyLQ P md ops C n L f (listed.setIfInBounds i true)) a

theorem wpAny_of_headQ {n g : Nat} {L : Array Bool → Act → Prop} {Q' : Exit → Act → World → Prop} (hL : ∀ listed a w, C w → L listed a → wpAny P md ops Q' g listed a w) :
    ∀ (f : Nat) (listed : Array Bool) (a : Act) (w : World), C w → wpAnyLQ P md ops C n L f listed a → wpAny P md ops Q' (f + g) listed a w
  | 0, listed, a, w, hw, h => by rw [Nat.zero_add]; exact hL _ _ _ hw h
  | f + 1, listed, a, w, hw, h => by
    rw [show f + 1 + g = (f + g) + 1 by omega]
    exact ⟨fun h0 => absurd h0 h.1, fun i hi => wpOp_of_qOp hw (fun a' w' hw' h' => wpAny_of_headQ hL f _ a' w' hw' h') (h.2 i hi).2⟩

theorem wpAnyLQ_first {n i : Nat} {oi : Oper} {v : Value} {L : Array Bool → Act → Prop} (hi : ops[i]? = some oi) (hsel : ∀ (j : Nat) (o : Oper) cs b, ops[j]? = some o → o.op ≠ .select cs b)
    (hs : Region.sinkB md ops n = true) (hc : Region.chainB md ops n = true) (hn : n < ops.size) (hin : i < n)
    (hdone : ∀ listed a, L listed a → ∀ j ∈ Region.ready md ops listed, n ≤ j) :
    ∀ (f : Nat) (listed : Array Bool) (a : Act), HeadInv md ops n listed →
      (∀ j oj, ops[j]? = some oj → j ≠ i → listed.getD j true = false → (∀ e ∈ oj.after, Region.binds md e = true → e.on ≠ i) → oi.apart ops oj = true) →
      i ∈ Region.ready md ops listed → YieldsIn P ops C oi v a →
      wpAnyLQ P md ops C n L f (listed.setIfInBounds i true) (a.put oi.dst v) → wpAnyLQ P md ops C n L (f + 1) listed a := by
  intro f
  induction f with
  | zero =>
    intro listed a inv _ hr hy H
    have hun := (mem_ready.1 hr).1
    refine ⟨fun h => (by rw [h] at hr; cases hr), fun j hj => ?_⟩
    have hjn : j < n := by
      rcases Nat.lt_or_ge j n with h | h
      · exact h
      · exact absurd hj (tail_waits hs hc hn inv _ i rfl hin hun j h)
    refine ⟨hjn, ?_⟩
    by_cases hji : j = i
    · subst hji; exact hy.qOp hi H
    · have := hdone _ _ H j (ready_mono hj hji)
      omega
  | succ f ih =>
    intro listed a inv hfree hr hy H
    have hun := (mem_ready.1 hr).1
    refine ⟨fun h => (by rw [h] at hr; cases hr), fun j hj => ?_⟩
    have hjn : j < n := by
      rcases Nat.lt_or_ge j n with h | h
      · exact h
      · exact absurd hj (tail_waits hs hc hn inv _ i rfl hin hun j h)
    refine ⟨hjn, ?_⟩
    by_cases hji : j = i
    · subst hji; exact hy.qOp hi H
    · have h1 := (H.2 j (ready_mono hj hji)).2
      obtain ⟨hjun, oj, hoj, hall⟩ := mem_ready.1 hj
      have hnot : ∀ e ∈ oj.after, Region.binds md e = true → e.on ≠ i := fun e he hb heq => by
        have h1 := hall e he hb
        rw [heq, getD_both hun] at h1
        cases h1
      have h2 := qOp_put hoj (hfree j oj hoj hji hjun hnot) (fun cs b => hsel i oi cs b hi) (fun cs b => hsel j oj cs b hoj) hy h1
      have hfree' : ∀ k ok, ops[k]? = some ok → k ≠ i → (listed.setIfInBounds j true).getD k true = false →
          (∀ e ∈ ok.after, Region.binds md e = true → e.on ≠ i) → oi.apart ops ok = true := fun k ok hk hki hun hno => by
        refine hfree k ok hk hki ?_ hno
        by_cases hjk : j = k
        · subst hjk; exact hjun
        · rw [getD_set_ne true hjk] at hun; exact hun
      refine qOp_mono (fun a' h3 => ih (listed.setIfInBounds j true) a' (inv.set hj hjn) hfree' (ready_mono hr (Ne.symm hji)) h3.1 ?_) h2
      rw [Array.setIfInBounds_comm _ _ hji]
      exact h3.2

theorem wpAnyLQ_lex {n g : Nat} {Lq : Act → Prop} (hsel : Region.noSelect ops = true) (hs : Region.sinkB md ops n = true) (hc : Region.chainB md ops n = true) (hn : n < ops.size) :
    ∀ (l : List Oper) (k : Nat) (listed : Array Bool) (a : Act), (∀ j, j < l.length → l[j]? = ops[k + j]?) → k + l.length = n → HeadInv md ops n listed →
    Region.lexHead md ops g l.length k listed = true → wpQuiet P ops C Lq l a →
    wpAnyLQ P md ops C n (fun listed' a' => Region.seqB md ops g n listed' = true ∧ Lq a') l.length listed a
  | [], k, listed, a, _, hk, _, hB, h => by
    have : k = n := by simpa using hk
    subst this
    exact ⟨by simpa [Region.lexHead] using hB, h⟩
  | o :: l, k, listed, a, hl, hk, inv, hB, h => by
    have h0 : ops[k]? = some o := by simpa using (hl 0 (by simp)).symm
    simp only [List.length_cons, Region.lexHead, Bool.and_eq_true] at hB
    obtain ⟨⟨hr, hf⟩, hB'⟩ := hB
    have hkn : k < n := by simp only [List.length_cons] at hk; omega
    have hr' : k ∈ Region.ready md ops listed := by simpa using hr
    have hst : qOp P ops C k (wpQuiet P ops C Lq l) a := by unfold qOp; simp only [h0]; exact h
    obtain ⟨v, hy, hK⟩ := yieldsIn_of_qOp h0 hst
    exact wpAnyLQ_first h0 (Region.noSelect_spec hsel) hs hc hn hkn (fun listed' a' hL => seqB_ready hL.1) l.length listed a inv (Region.free_spec h0 hf) hr' hy
      (wpAnyLQ_lex hsel hs hc hn l (k + 1) _ _ (fun j hj => by have := hl (j + 1) (by simp; omega); simpa [Nat.add_assoc, Nat.add_comm 1 j] using this) (by simp only [List.length_cons] at hk; omega) (inv.set hr' hkn) hB' hK)

/-- A head that only reads or calls what yields one value in every world of the class; a tail in one forced order. -/
theorem wp_region_quiet_tail {id : Nat} {Q : Exit → Act → World → Prop} {a : Act} {w : World} {l : List Oper} (C : World → Prop) (n : Nat) (hm : P.follows .mixedOrders = true) (hB : Region.lexTailB .any l.toArray n = true) (hC : C w.drew)
    (h : wpQuiet P l.toArray C (fun a' => ∀ w', C w' → wpList P l.toArray Q (l.drop n) a' w') (l.take n) a) : (Code.region id l.toArray true).wp P Q a w := by
  simp only [Region.lexTailB, Bool.and_eq_true, decide_eq_true_eq] at hB
  obtain ⟨⟨⟨⟨hsel, hn⟩, hs⟩, hc⟩, hlex⟩ := hB
  have hn' : n < l.length := by simpa using hn
  have htl : (l.take n).length = n := by simp; omega
  have hdl : (l.drop n).length = l.toArray.size - n := by simp
  have inv0 : HeadInv .any l.toArray n (Array.replicate l.toArray.size false) :=
    ⟨by simp, fun j oj _ hl => (by rw [getD_replicate_false] at hl; cases hl), fun t _ ht => getD_in (by simpa using ht) (getD_replicate_false _ _)⟩
  have H := wpAnyLQ_lex (md := .any) (g := l.toArray.size - n) hsel hs hc hn (l.take n) 0 _ a (fun j hj => by
    have hj' : j < n := by rw [htl] at hj; exact hj
    simp [hj']) (by simpa using htl) inv0 (by rw [htl]; exact hlex) h
  refine wp_region_any hm ?_
  have := wpAny_of_headQ (Q' := Q) (g := l.toArray.size - n) (fun listed a' w' hw' hL => by
    have := wpAny_of_seq (md := .any) (Q' := Q) (l.drop n) n listed a' w' (fun j => by simp [List.getElem?_drop]) (by rw [hdl]; exact hL.1) (hL.2 w' hw')
    rwa [hdl] at this) _ _ _ _ hC H
  rw [htl, show n + (l.toArray.size - n) = l.toArray.size by omega] at this
  exact this

/-- .. over the class of the worlds that extend w. -/
theorem wp_region_ext_tail {id : Nat} {Q : Exit → Act → World → Prop} {a : Act} {w : World} {l : List Oper} (n : Nat) (hm : P.follows .mixedOrders = true) (hB : Region.lexTailB .any l.toArray n = true)
    (h : wpQuiet P l.toArray (fun w' => ∃ e : ExtOf w, w' = e.wd) (fun a' => ∀ w', (∃ e : ExtOf w, w' = e.wd) → wpList P l.toArray Q (l.drop n) a' w') (l.take n) a) : (Code.region id l.toArray true).wp P Q a w :=
  wp_region_quiet_tail (fun w' => ∃ e : ExtOf w, w' = e.wd) n hm hB ⟨⟨w.drew, (Below.refl _ _).drew⟩, rfl⟩ h

theorem wp_region_ext {id : Nat} {Q : Exit → Act → World → Prop} {a : Act} {w : World} {l : List Oper} (hm : P.follows .mixedOrders = true) (hB : Region.lexB .any l.toArray = true)
    (h : wpQuiet P l.toArray (fun w' => ∃ e : ExtOf w, w' = e.wd) (fun a' => ∀ w', (∃ e : ExtOf w, w' = e.wd) → Q .normal a' w') l a) : (Code.region id l.toArray true).wp P Q a w :=
  wp_region_quiet (C := fun w' => ∃ e : ExtOf w, w' = e.wd) hm hB ⟨⟨w.drew, (Below.refl _ _).drew⟩, rfl⟩ (by simpa using h)

/-- A call that hands back one value in every world that extends w, and extends it. -/
theorem calls_ext {w : World} {f : FuncId} {args : Array Value} {v : Value} (e : ExtOf w)
    (h : Calls P f args e.wd fun r w' => r = .returned v ∧ Below e.wd.heap.size e.wd w') : Calls P f args e.wd fun r w' => r = .returned v ∧ ∃ e' : ExtOf w, w' = e'.wd :=
  h.mono fun _ _ ⟨hr, hb⟩ => ⟨hr, IsExt.trans ⟨e, rfl⟩ hb⟩

/-- A load of a whole struct or array in the middle of a block, in a head. -/
theorem wpQuiet_load {Q : Act → Prop} {a : Act} {op : Oper} {rest : List Oper} (hgd : op.guard = none) (ty : TypeId) (x : Operand) (ho : op.op = .load ty x) (v : Value)
    (hl : ∀ w, C w → (Instr.loadAt ty (a.eval x)).run P w = .ok v w) (h : wpQuiet P ops C Q rest (a.put op.dst v)) : wpQuiet P ops C Q (op :: rest) a := by
  unfold wpQuiet
  rw [if_pos (by simp [Region.wanted, hgd])]
  refine ⟨v, fun w hw => ?_, h⟩
  unfold Oper.quietAt execOp
  simp only [ho, Sem.run_bind, hl w hw, Result.andThen_ok, Sem.run_pure, Oper.quietUpon]
  exact ⟨trivial, trivial⟩
end

/-- 'load ty p', p the address of a struct or array whose cells are known. -/
theorem loadAt_mid {P : Program} {w : World} {b o : Nat} {ty : TypeId} {cs : List Value} {d : TypeDesc} (hc : w.rangeAt b o cs)
    (hu : P.underlying ty = some d) (hd : d.isRow = true) (hi : (P.info? ty).map (·.size) = some cs.length) :
    (Instr.loadAt ty (.pointer (some ⟨b, o, none⟩))).run P w = .ok (.agg cs.toArray) w := run_loadAt_mid w b o ty cs d hc hu hd hi

/-- .. of a struct whose cells lie in the world that the class extends. -/
theorem wpQuiet_load_ext {P : Program} {ops : Array Oper} {Q : Act → Prop} {a : Act} {w : World} {op : Oper} {rest : List Oper} (hgd : op.guard = none) (ty : TypeId) (x : Operand) (ho : op.op = .load ty x)
    (b o : Nat) (hx : a.eval x = .pointer (some ⟨b, o, none⟩)) (cs : List Value) (d : TypeDesc) (hr : ∀ e : ExtOf w, e.wd.rangeAt b o cs) (hu : P.underlying ty = some d) (hd : d.isRow = true)
    (hi : (P.info? ty).map (·.size) = some cs.length) (h : wpQuiet P ops (fun w' => ∃ e : ExtOf w, w' = e.wd) Q rest (a.put op.dst (.agg cs.toArray))) : wpQuiet P ops (fun w' => ∃ e : ExtOf w, w' = e.wd) Q (op :: rest) a :=
  wpQuiet_load hgd ty x ho _ (fun w' hw' => by obtain ⟨e, rfl⟩ := hw'; rw [hx]; exact loadAt_mid (hr e) hu hd hi) h

/-- 'build t ..', its run known. -/
theorem wpList_build0 {P : Program} {ops : Array Oper} {Q : Exit → Act → World → Prop} {a : Act} {w : World} {op : Oper} {rest : List Oper} (hgd : op.guard = none) (t : TypeId) (ho : op.op = .build t #[]) (v : Value)
    (hr : (Instr.build t #[]).run P w = .ok v w) (h : wpList P ops Q rest (a.put op.dst v) w) : wpList P ops Q (op :: rest) a w :=
  wpList_plain hgd fun _ hK => by
    unfold Oper.wp execOp
    simp only [ho, List.map_toArray, List.map_nil, Sem.run_bind, hr, Result.andThen_ok, Sem.run_pure, Oper.upon]
    exact hK _ _ h
theorem wpQuiet_build0 {P : Program} {ops : Array Oper} {C : World → Prop} {Q : Act → Prop} {a : Act} {op : Oper} {rest : List Oper} (hgd : op.guard = none) (t : TypeId) (ho : op.op = .build t #[]) (v : Value)
    (hr : ∀ w, (Instr.build t #[]).run P w = .ok v w) (h : wpQuiet P ops C Q rest (a.put op.dst v)) : wpQuiet P ops C Q (op :: rest) a := by
  unfold wpQuiet
  rw [if_pos (by simp [Region.wanted, hgd])]
  refine ⟨v, fun w hw => ?_, h⟩
  unfold Oper.quietAt execOp
  simp only [ho, List.map_toArray, List.map_nil, Sem.run_bind, hr w, Result.andThen_ok, Sem.run_pure, Oper.quietUpon]
  exact ⟨trivial, trivial⟩
theorem wpList_build1 {P : Program} {ops : Array Oper} {Q : Exit → Act → World → Prop} {a : Act} {w : World} {op : Oper} {rest : List Oper} (hgd : op.guard = none) (t : TypeId) (i0 : Nat) (x0 : Operand) (ho : op.op = .build t #[(i0, x0)]) (v : Value)
    (hr : (Instr.build t #[(i0, a.eval x0)]).run P w = .ok v w) (h : wpList P ops Q rest (a.put op.dst v) w) : wpList P ops Q (op :: rest) a w :=
  wpList_plain hgd fun _ hK => by
    unfold Oper.wp execOp
    simp only [ho, List.map_toArray, List.map_cons, List.map_nil, Sem.run_bind, hr, Result.andThen_ok, Sem.run_pure, Oper.upon]
    exact hK _ _ h
theorem wpQuiet_build1 {P : Program} {ops : Array Oper} {C : World → Prop} {Q : Act → Prop} {a : Act} {op : Oper} {rest : List Oper} (hgd : op.guard = none) (t : TypeId) (i0 : Nat) (x0 : Operand) (ho : op.op = .build t #[(i0, x0)]) (v : Value)
    (hr : ∀ w, (Instr.build t #[(i0, a.eval x0)]).run P w = .ok v w) (h : wpQuiet P ops C Q rest (a.put op.dst v)) : wpQuiet P ops C Q (op :: rest) a := by
  unfold wpQuiet
  rw [if_pos (by simp [Region.wanted, hgd])]
  refine ⟨v, fun w hw => ?_, h⟩
  unfold Oper.quietAt execOp
  simp only [ho, List.map_toArray, List.map_cons, List.map_nil, Sem.run_bind, hr w, Result.andThen_ok, Sem.run_pure, Oper.quietUpon]
  exact ⟨trivial, trivial⟩
theorem wpList_build2 {P : Program} {ops : Array Oper} {Q : Exit → Act → World → Prop} {a : Act} {w : World} {op : Oper} {rest : List Oper} (hgd : op.guard = none) (t : TypeId) (i0 i1 : Nat) (x0 x1 : Operand) (ho : op.op = .build t #[(i0, x0), (i1, x1)]) (v : Value)
    (hr : (Instr.build t #[(i0, a.eval x0), (i1, a.eval x1)]).run P w = .ok v w) (h : wpList P ops Q rest (a.put op.dst v) w) : wpList P ops Q (op :: rest) a w :=
  wpList_plain hgd fun _ hK => by
    unfold Oper.wp execOp
    simp only [ho, List.map_toArray, List.map_cons, List.map_nil, Sem.run_bind, hr, Result.andThen_ok, Sem.run_pure, Oper.upon]
    exact hK _ _ h
theorem wpQuiet_build2 {P : Program} {ops : Array Oper} {C : World → Prop} {Q : Act → Prop} {a : Act} {op : Oper} {rest : List Oper} (hgd : op.guard = none) (t : TypeId) (i0 i1 : Nat) (x0 x1 : Operand) (ho : op.op = .build t #[(i0, x0), (i1, x1)]) (v : Value)
    (hr : ∀ w, (Instr.build t #[(i0, a.eval x0), (i1, a.eval x1)]).run P w = .ok v w) (h : wpQuiet P ops C Q rest (a.put op.dst v)) : wpQuiet P ops C Q (op :: rest) a := by
  unfold wpQuiet
  rw [if_pos (by simp [Region.wanted, hgd])]
  refine ⟨v, fun w hw => ?_, h⟩
  unfold Oper.quietAt execOp
  simp only [ho, List.map_toArray, List.map_cons, List.map_nil, Sem.run_bind, hr w, Result.andThen_ok, Sem.run_pure, Oper.quietUpon]
  exact ⟨trivial, trivial⟩

theorem range_block {w : World} {g : Nat} {cs : List Value} {t : TypeId} {fr : Nat × Nat} (h : w.heap[g]? = some (.cells cs.toArray t fr)) : w.rangeAt g 0 cs := fun j v hv => by
  rw [cell_of_row w g _ _ t fr h]; simpa using hv
theorem ret_b {a b : Bool} (h : a = b) : Ending.returned (.bool a) = .returned (.bool b) := by rw [h]
theorem ret_i {k : IntKind} {a b : Int} (h : a = b) : Ending.returned (.int k a) = .returned (.int k b) := by rw [h]
theorem wpList_build3 {P : Program} {ops : Array Oper} {Q : Exit → Act → World → Prop} {a : Act} {w : World} {op : Oper} {rest : List Oper} (hgd : op.guard = none) (t : TypeId) (i0 i1 i2 : Nat) (x0 x1 x2 : Operand) (ho : op.op = .build t #[(i0, x0), (i1, x1), (i2, x2)]) (v : Value)
    (hr : (Instr.build t #[(i0, a.eval x0), (i1, a.eval x1), (i2, a.eval x2)]).run P w = .ok v w) (h : wpList P ops Q rest (a.put op.dst v) w) : wpList P ops Q (op :: rest) a w :=
  wpList_plain hgd fun _ hK => by
    unfold Oper.wp execOp
    simp only [ho, List.map_toArray, List.map_cons, List.map_nil, Sem.run_bind, hr, Result.andThen_ok, Sem.run_pure, Oper.upon]
    exact hK _ _ h

/-! ### Guards for a walk's arms: which operation comes next ('((with_reducible refine g_load 33 ?_); ..)') -/
theorem g_build {P : Program} {ops : Array Oper} {Q : Exit → Act → World → Prop} {a : Act} {w : World} {rest : List Oper} {d : Option Tmp} {ps : Array (Nat × Operand)} {ty : TypeId} {p : String} {af : Array Edge} {gd : Option (Nat × Bool)} (t : TypeId)
    (h : wpList P ops Q ({ dst := d, op := .build t ps, type := ty, pos := p, after := af, guard := gd } :: rest) a w) : wpList P ops Q ({ dst := d, op := .build t ps, type := ty, pos := p, after := af, guard := gd } :: rest) a w := h
theorem g_load {P : Program} {ops : Array Oper} {Q : Exit → Act → World → Prop} {a : Act} {w : World} {rest : List Oper} {d : Option Tmp} {x : Operand} {ty : TypeId} {p : String} {af : Array Edge} {gd : Option (Nat × Bool)} (t : TypeId)
    (h : wpList P ops Q ({ dst := d, op := .load t x, type := ty, pos := p, after := af, guard := gd } :: rest) a w) : wpList P ops Q ({ dst := d, op := .load t x, type := ty, pos := p, after := af, guard := gd } :: rest) a w := h
theorem g_store {P : Program} {ops : Array Oper} {Q : Exit → Act → World → Prop} {a : Act} {w : World} {rest : List Oper} {d : Option Tmp} {x y : Operand} {ty : TypeId} {p : String} {af : Array Edge} {gd : Option (Nat × Bool)} (t : TypeId)
    (h : wpList P ops Q ({ dst := d, op := .store t x y, type := ty, pos := p, after := af, guard := gd } :: rest) a w) : wpList P ops Q ({ dst := d, op := .store t x y, type := ty, pos := p, after := af, guard := gd } :: rest) a w := h
theorem g_bslice {P : Program} {ops : Array Oper} {Q : Exit → Act → World → Prop} {a : Act} {w : World} {rest : List Oper} {d : Option Tmp} {n : Nat} {ps : Array (Nat × Operand)} {ty : TypeId} {p : String} {af : Array Edge} {gd : Option (Nat × Bool)} (t : TypeId)
    (h : wpList P ops Q ({ dst := d, op := .buildSlice t n ps, type := ty, pos := p, after := af, guard := gd } :: rest) a w) : wpList P ops Q ({ dst := d, op := .buildSlice t n ps, type := ty, pos := p, after := af, guard := gd } :: rest) a w := h
/-- 'buildSlice', its run known. -/
theorem wpList_bslice1 {P : Program} {ops : Array Oper} {Q : Exit → Act → World → Prop} {a : Act} {w w' : World} {op : Oper} {rest : List Oper} (hgd : op.guard = none) (t : TypeId) (n i0 : Nat) (x0 : Operand) (ho : op.op = .buildSlice t n #[(i0, x0)]) (v : Value)
    (hr : (Instr.buildSlice t n #[(i0, a.eval x0)]).run P w = .ok v w') (h : wpList P ops Q rest (a.put op.dst v) w') : wpList P ops Q (op :: rest) a w :=
  wpList_plain hgd fun _ hK => by
    unfold Oper.wp execOp
    simp only [ho, List.map_toArray, List.map_cons, List.map_nil, Sem.run_bind, hr, Result.andThen_ok, Sem.run_pure, Oper.upon]
    exact hK _ _ h
/-- .. of an operation under a guard that holds. -/
theorem wpQuiet_load_extg {P : Program} {ops : Array Oper} {Q : Act → Prop} {a : Act} {w : World} {op : Oper} {rest : List Oper} (hw : Region.wanted op (yielded ops a.tmps) = true) (ty : TypeId) (x : Operand) (ho : op.op = .load ty x)
    (b o : Nat) (hx : a.eval x = .pointer (some ⟨b, o, none⟩)) (cs : List Value) (d : TypeDesc) (hr : ∀ e : ExtOf w, e.wd.rangeAt b o cs) (hu : P.underlying ty = some d) (hd : d.isRow = true)
    (hi : (P.info? ty).map (·.size) = some cs.length) (h : wpQuiet P ops (fun w' => ∃ e : ExtOf w, w' = e.wd) Q rest (a.put op.dst (.agg cs.toArray))) : wpQuiet P ops (fun w' => ∃ e : ExtOf w, w' = e.wd) Q (op :: rest) a := by
  unfold wpQuiet
  rw [if_pos hw]
  refine ⟨.agg cs.toArray, fun w' hw' => ?_, h⟩
  obtain ⟨e, rfl⟩ := hw'
  unfold Oper.quietAt execOp
  simp only [ho, hx, Sem.run_bind, loadAt_mid (hr e) hu hd hi, Result.andThen_ok, Sem.run_pure, Oper.quietUpon]
  exact ⟨trivial, trivial⟩
/-- A whole struct into the block that was made last. -/
theorem wpList_store_new {P : Program} {ops : Array Oper} {Q : Exit → Act → World → Prop} {a : Act} {w : World} {op : Oper} {rest : List Oper} (hgd : op.guard = none) (t : TypeId) (x y : Operand) (ho : op.op = .store t x y)
    (z cs : Array Value) (hx : a.eval x = .pointer (some ⟨w.heap.size, 0, none⟩)) (hy : a.eval y = .agg cs) (hi : (P.info? t).map (·.size) = some cs.size) (hz : z.size = cs.size) (h1 : cs.all (·.oneCell') = true)
    (h : wpList P ops Q rest (a.put op.dst undef) (w.alloc (.cells cs t))) : wpList P ops Q (op :: rest) a (w.alloc (.cells z t)) :=
  wpList_plain hgd fun _ hK => by
    unfold Oper.wp execOp
    have hs : (storeVar t ⟨w.heap.size, 0, none⟩ (.agg cs)).run P (w.alloc (.cells z t)) = .ok () (w.alloc (.cells cs t)) := by
      have hg : (w.alloc (.cells z t)).heap[w.heap.size]? = some (.cells z t (0, 0)) := heap_alloc_new w _
      rw [run_storeVar_row _ _ t t z cs hg hi hz h1]
      congr 1
      simp only [World.setRow, World.alloc]
      congr 1
      apply Array.ext_getElem?
      intro i
      rw [Array.getElem?_modify]
      by_cases hi' : w.heap.size = i
      · subst hi'; simp
      · have h' : ¬ i = w.heap.size := fun e => hi' e.symm
        simp [hi', h', Array.getElem?_push]
    simp only [ho, hx, hy, Instr.storeAt, Instr.sureAddr, Sem.run_bind, Sem.run_pure, Result.andThen_ok, hs]
    exact hK _ _ h

/-- A slice that is read: its rows, each of the cells of one element. -/
def SlAt (w : World) (v : Value) (sz : Nat) (rows : List (List Value)) : Prop :=
  ∃ A cap, v = .slice A rows.length cap ∧ rows.length ≤ 9223372036854775807 ∧ (∀ i r, rows[i]? = some r → ∃ b off, A = some ⟨b, off, none⟩ ∧ w.rangeAt b (off + i * sz) r ∧ b < w.heap.size)
theorem SlAt.below {w w' : World} {v : Value} {sz : Nat} {rows : List (List Value)} (h : SlAt w v sz rows) (hb : Below w.heap.size w w') : SlAt w' v sz rows := by
  obtain ⟨A, cap, h1, h2, h3⟩ := h
  refine ⟨A, cap, h1, h2, fun i r hi => ?_⟩
  obtain ⟨b, off, ha, hr, hl⟩ := h3 i r hi
  exact ⟨b, off, ha, fun j v hv => (hb.cell (World.block_lt_of_cell? w _ (hr j v hv))).trans (hr j v hv), Nat.lt_of_lt_of_le hl hb.size⟩

/-! ### The blocks of one object -/
theorem block_alloc {w : World} {b : Nat} {o : Obj} (h : w.heap[b]? = some o) (x : Obj) : (w.alloc x).heap[b]? = some o :=
  (Below.heap_alloc w x b (Array.getElem?_eq_some_iff.1 h).1).trans h
theorem block_new (w : World) (x : Obj) : (w.alloc x).heap[w.heap.size]? = some x := heap_alloc_new w x
theorem block_below {w w' : World} {b : Nat} {o : Obj} (h : w.heap[b]? = some o) (hb : Below w.heap.size w w') : w'.heap[b]? = some o :=
  (hb.block b (Array.getElem?_eq_some_iff.1 h).1).trans h
theorem block_grown {w w' : World} {b : Nat} {o : Obj} {row : Option Nat} (h : w.heap[b]? = some o) (hg : w.grownBy w' row) (hne : some b ≠ row) : w'.heap[b]? = some o :=
  (hg.block b (Array.getElem?_eq_some_iff.1 h).1 hne).trans h
theorem block_lt {w : World} {b : Nat} {o : Obj} (h : w.heap[b]? = some o) : b < w.heap.size := (Array.getElem?_eq_some_iff.1 h).1

theorem grown_refl (w : World) (row : Option Nat) : w.grownBy w row := ⟨rfl, rfl, rfl, Nat.le_refl _, fun _ _ _ => rfl⟩
theorem grown_of_below {w w1 : World} (h : Below w.heap.size w w1) (row : Option Nat) : w.grownBy w1 row := ⟨h.os, h.tape, h.output, h.size, fun i hi _ => h.block i hi⟩
theorem below_of_grown {w w1 : World} (h : w.grownBy w1 none) : Below w.heap.size w w1 := ⟨h.os, h.tape, h.output, h.size, fun i hi => h.block i hi (by simp)⟩
theorem grown_trans {w w1 w2 : World} {row : Option Nat} (h : w.grownBy w1 row) (k : w1.grownBy w2 row) : w.grownBy w2 row :=
  ⟨k.os.trans h.os, k.tape.trans h.tape, k.output.trans h.output, Nat.le_trans h.size k.size, fun i hi hr => (k.block i (Nat.lt_of_lt_of_le hi h.size) hr).trans (h.block i hi hr)⟩
theorem grown_below {w w1 w2 : World} {row : Option Nat} (h : w.grownBy w1 row) (k : Below w1.heap.size w1 w2) : w.grownBy w2 row := grown_trans h (grown_of_below k row)
/-- A block that came in between may be written. -/
theorem grown_new {w w1 w2 : World} {row row' : Option Nat} (h : w.grownBy w1 row) (k : w1.grownBy w2 row') (hr : ∀ g, row' = some g → w.heap.size ≤ g) : w.grownBy w2 row :=
  ⟨k.os.trans h.os, k.tape.trans h.tape, k.output.trans h.output, Nat.le_trans h.size k.size, fun i hi hne => (k.block i (Nat.lt_of_lt_of_le hi h.size) (fun e => by have := hr i e.symm; omega)).trans (h.block i hi hne)⟩
theorem below_then {B : Nat} {w w1 w2 : World} (h : Below B w w1) (hB : B ≤ w1.heap.size) (k : Below w1.heap.size w1 w2) : Below B w w2 :=
  h.trans ⟨k.os, k.tape, k.output, k.size, fun i hi => k.block i (Nat.lt_of_lt_of_le hi hB)⟩
theorem below_all {w w1 w2 : World} (h : Below w.heap.size w w1) (k : Below w1.heap.size w1 w2) : Below w.heap.size w w2 := below_then h h.size k
theorem below_grown {B : Nat} {w w1 w2 : World} {row : Option Nat} (h : Below B w w1) (hB : B ≤ w1.heap.size) (hg : w1.grownBy w2 row) (hr : ∀ k, row = some k → B ≤ k) : Below B w w2 := h.grown hg hB hr

/-- A store of a list of cells into a block known whole. -/
theorem setCells_block {w : World} {b o : Nat} {c : Array Value} {t : TypeId} (h : w.heap[b]? = some (.cells c t (0, 0))) (vs : List Value) (hl : o + vs.length ≤ c.size) :
    (w.setCells b o vs).heap[b]? = some (.cells (c.toList.take o ++ vs ++ c.toList.drop (o + vs.length)).toArray t (0, 0)) := by
  induction vs generalizing w o c with
  | nil => simp [World.setCells, h]
  | cons v r ih =>
    rw [World.setCells]
    have ho : o < c.size := by simp only [List.length_cons] at hl; omega
    have h1 : (w.setCell ⟨b, o, none⟩ v).heap[b]? = some (.cells (c.setIfInBounds o v) t (0, 0)) := heap_setCell_same w b o c t v h
    rw [ih h1 (by simp only [List.length_cons] at hl; simp; omega)]
    congr 3
    have e := list_seg_step c.toList o v r (by simp only [List.length_cons] at hl; simp; omega)
    simpa [Array.toList_setIfInBounds, Nat.add_assoc, Nat.add_comm 1] using e
theorem setCell_grown {w : World} (b o : Nat) (v : Value) : w.grownBy (w.setCell ⟨b, o, none⟩ v) (some b) :=
  ⟨rfl, rfl, rfl, by simp, fun k _ hk => (Below.heap_setCell w ⟨b, o, none⟩ v k (by simpa using hk) : _)⟩
theorem setCells_grown {w : World} {b : Nat} : ∀ (vs : List Value) (o : Nat), w.grownBy (w.setCells b o vs) (some b) := by
  intro vs
  induction vs generalizing w with
  | nil => intro o; exact grown_refl _ _
  | cons v r ih =>
    intro o
    rw [World.setCells]
    exact grown_trans (setCell_grown b o v) (ih (o + 1))
theorem there_block {w : World} {b : Nat} {c : Array Value} {t : TypeId} (h : w.heap[b]? = some (.cells c t (0, 0))) (o n : Nat) (hl : o + n ≤ c.size) : w.there b o n := fun j hj =>
  ⟨by rw [cell_of_row w b (o + j) c t _ h]; simp; omega, frozen_of_row w b (o + j) c t h⟩

/-! ### Parts of values; two arrays held against each other -/
section
variable {P : Program} {w : World}
theorem isAgg_no {t : TypeId} {d : TypeDesc} (hu : P.underlying t = some d) (hd : d.isRow = false) : (isAgg t).run P w = .ok false w := by
  unfold isAgg
  rw [Sem.run_bind, run_underlying hu w]
  cases d <;> simp_all
theorem isAgg_yes {t : TypeId} {d : TypeDesc} (hu : P.underlying t = some d) (hd : d.isRow = true) : (isAgg t).run P w = .ok true w := by
  unfold isAgg
  rw [Sem.run_bind, run_underlying hu w]
  cases d <;> simp_all
theorem size_run {t : TypeId} {n : Nat} (hi : (P.info? t).map (·.size) = some n) : (sizeOf t).run P w = .ok n w := by
  cases hq : P.info? t with
  | none => simp [hq] at hi
  | some i => simp [hq] at hi; simp [sizeOf, typeInfo, hq, hi]
theorem part_cell {t : TypeId} {d : TypeDesc} (hu : P.underlying t = some d) (hd : d.isRow = false) {cs : Array Value} {o : Nat} {v : Value} (h : cs[o]? = some v) : (part t cs o).run P w = .ok v w := by
  unfold part
  rw [Sem.run_bind, isAgg_no hu hd]
  simp [h]
theorem part_row {t : TypeId} {d : TypeDesc} (hu : P.underlying t = some d) (hd : d.isRow = true) {n : Nat} (hi : (P.info? t).map (·.size) = some n) {cs : Array Value} {o : Nat} : (part t cs o).run P w = .ok (.agg (cs.extract o (o + n))) w := by
  unfold part
  rw [Sem.run_bind, isAgg_yes hu hd]
  simp [size_run hi]
/-- A field of a struct by value. -/
theorem field_cell {t : TypeId} (hu : P.underlying t = some (.struct (P.fieldsOf t))) {i ft off : Nat} (hf : ((P.fieldsOf t)[i]?).map (fun f => (f.type, f.offset)) = some (ft, off)) {d : TypeDesc} (hfu : P.underlying ft = some d) (hd : d.isRow = false)
    {cs : Array Value} {v : Value} (h : cs[off]? = some v) : (Instr.field t (.agg cs) i).run P w = .ok v w := by
  unfold Instr.field
  rw [Sem.run_bind, run_underlying hu w]
  cases hq : (P.fieldsOf t)[i]? with
  | none => simp [hq] at hf
  | some f =>
    simp only [hq, Option.map_some, Option.some.injEq, Prod.mk.injEq] at hf
    obtain ⟨rfl, rfl⟩ := hf
    simp [hq, asAgg, part_cell hfu hd h]
theorem field_row {t : TypeId} (hu : P.underlying t = some (.struct (P.fieldsOf t))) {i ft off : Nat} (hf : ((P.fieldsOf t)[i]?).map (fun f => (f.type, f.offset)) = some (ft, off)) {d : TypeDesc} (hfu : P.underlying ft = some d) (hd : d.isRow = true)
    {n : Nat} (hi : (P.info? ft).map (·.size) = some n) {cs : Array Value} : (Instr.field t (.agg cs) i).run P w = .ok (.agg (cs.extract off (off + n))) w := by
  unfold Instr.field
  rw [Sem.run_bind, run_underlying hu w]
  cases hq : (P.fieldsOf t)[i]? with
  | none => simp [hq] at hf
  | some f =>
    simp only [hq, Option.map_some, Option.some.injEq, Prod.mk.injEq] at hf
    obtain ⟨rfl, rfl⟩ := hf
    simp [hq, asAgg, part_row hfu hd hi]
/-- Two arrays of four whole numbers. -/
theorem eq_arr4 {t e : TypeId} {k : IntKind} (hu : P.underlying t = some (.array 4 e)) (he : P.underlying e = some (.int k)) (hs : (P.info? e).map (·.size) = some 1) (d : Nat) (a0 a1 a2 a3 b0 b1 b2 b3 : Int) :
    (Op.equalIn (d + 2) t (.agg #[.int k a0, .int k a1, .int k a2, .int k a3]) (.agg #[.int k b0, .int k b1, .int k b2, .int k b3])).run P w = .ok (a0 == b0 && (a1 == b1 && (a2 == b2 && a3 == b3))) w := by
  rw [Op.equalIn]
  have hr : List.range' 0 4 = [0, 1, 2, 3] := rfl
  simp only [Sem.run_bind, run_underlying hu, size_run hs, Result.andThen_ok, Std.Legacy.Range.forIn_eq_forIn_range', Std.Legacy.Range.size, Nat.sub_zero, Nat.add_sub_cancel, Nat.div_one, hr, List.forIn_cons, List.forIn_nil]
  have p : ∀ (x0 x1 x2 x3 : Int), (part e #[.int k x0, .int k x1, .int k x2, .int k x3] 0).run P w = .ok (.int k x0) w ∧ (part e #[.int k x0, .int k x1, .int k x2, .int k x3] 1).run P w = .ok (.int k x1) w ∧ (part e #[.int k x0, .int k x1, .int k x2, .int k x3] 2).run P w = .ok (.int k x2) w ∧ (part e #[.int k x0, .int k x1, .int k x2, .int k x3] 3).run P w = .ok (.int k x3) w := fun x0 x1 x2 x3 =>
    ⟨part_cell he rfl rfl, part_cell he rfl rfl, part_cell he rfl rfl, part_cell he rfl rfl⟩
  have q : ∀ (x y : Int), (Op.equalIn (d + 1) e (.int k x) (.int k y)).run P w = .ok (x == y) w := fun x y => run_equalIn_int w d e k k x y he
  by_cases h0 : a0 = b0 <;> by_cases h1 : a1 = b1 <;> by_cases h2 : a2 = b2 <;> by_cases h3 : a3 = b3 <;> simp [p, q, h0, h1, h2, h3]
end

/-- A whole row stored over a row of the same size. -/
theorem setCells_whole {w : World} {g : Nat} {old new : Array Value} {t : TypeId} (h : w.heap[g]? = some (.cells old t (0, 0))) (hl : new.size = old.size) : (w.setCells g 0 new.toList).heap[g]? = some (.cells new t (0, 0)) := by
  rw [setCells_block h new.toList (by simp [hl])]
  congr 2
  have hd : old.toList.drop old.size = [] := List.drop_of_length_le (by simp)
  simp [hl, hd]

/-- A list with a part written over: place by place. -/
theorem splice_get (c : List Value) (o : Nat) (vs : List Value) (h : o + vs.length ≤ c.length) (j : Nat) : (c.take o ++ vs ++ c.drop (o + vs.length))[j]? = if o ≤ j ∧ j < o + vs.length then vs[j - o]? else c[j]? := by
  have h1 : (c.take o).length = o := by simp; omega
  by_cases ha : j < o
  · rw [if_neg (by omega), List.append_assoc, List.getElem?_append_left (by omega), List.getElem?_take_of_lt ha]
  · by_cases hb : j < o + vs.length
    · rw [if_pos ⟨by omega, hb⟩, List.getElem?_append_left (by simp only [List.length_append, h1]; omega), List.getElem?_append_right (by omega), h1]
    · rw [if_neg (by omega), List.getElem?_append_right (by simp only [List.length_append, h1]; omega), List.getElem?_drop]
      simp only [List.length_append, h1]
      congr 1
      omega
theorem splice_length (c : List Value) (o : Nat) (vs : List Value) (h : o + vs.length ≤ c.length) : (c.take o ++ vs ++ c.drop (o + vs.length)).length = c.length := by
  simp only [List.length_append, List.length_take, List.length_drop]; omega
theorem splice_mem {c : List Value} {o : Nat} {vs : List Value} {p : Value → Prop} (h1 : ∀ v ∈ c, p v) (h2 : ∀ v ∈ vs, p v) : ∀ v ∈ c.take o ++ vs ++ c.drop (o + vs.length), p v := fun v hv => by
  rcases List.mem_append.1 hv with hv | hv
  · rcases List.mem_append.1 hv with hv | hv
    · exact h1 v (List.mem_of_mem_take hv)
    · exact h2 v hv
  · exact h1 v (List.mem_of_mem_drop hv)
end Go.KK
