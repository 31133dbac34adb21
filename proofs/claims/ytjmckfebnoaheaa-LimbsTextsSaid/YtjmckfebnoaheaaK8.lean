/- Words: a call's own blocks, each known whole; arrays of numbers. No premise. -/
import Derived.Test.YtjmckfebnoaheaaK5
import Derived.Laws.ResultCell
set_option linter.unusedVariables false
namespace Go.KK
open Go.RowKit

/-- An array of n numbers. -/
def nums (k : IntKind) (n : Nat) (f : Nat → Int) : Array Value := ((List.range n).map fun i => Value.int k (f i)).toArray
theorem nums_size (k : IntKind) (n : Nat) (f : Nat → Int) : (nums k n f).size = n := by simp [nums]
theorem nums_get (k : IntKind) {n : Nat} (f : Nat → Int) {i : Nat} (h : i < n) : (nums k n f)[i]? = some (.int k (f i)) := by simp [nums, h]
theorem nums_set (k : IntKind) (n : Nat) (f : Nat → Int) (i : Nat) (v : Int) : (nums k n f).setIfInBounds i (.int k v) = nums k n (fun j => if j = i then v else f j) := by
  apply Array.ext_getElem?
  intro j
  by_cases hj : j < n
  · rw [nums_get k _ hj]
    by_cases hi : i = j
    · subst hi
      rw [Array.getElem?_setIfInBounds_self_of_lt (by rw [nums_size]; exact hj), if_pos rfl]
    · rw [Array.getElem?_setIfInBounds_ne hi, nums_get k _ hj, if_neg (fun e => hi e.symm)]
  · rw [Array.getElem?_eq_none (by rw [Array.size_setIfInBounds, nums_size]; omega), Array.getElem?_eq_none (by rw [nums_size]; omega)]
theorem nums_congr (k : IntKind) {n : Nat} {f g : Nat → Int} (h : ∀ i, i < n → f i = g i) : nums k n f = nums k n g := by
  unfold nums
  congr 1
  exact List.map_congr_left fun i hi => by rw [h i (List.mem_range.1 hi)]
theorem nums_one (k : IntKind) (n : Nat) (f : Nat → Int) : (nums k n f).all (·.oneCell') = true := by
  rw [Array.all_eq_true_iff_forall_mem]
  intro v hv
  simp only [nums, List.mem_toArray, List.mem_map] at hv
  obtain ⟨i, _, rfl⟩ := hv
  rfl

theorem index_nums {P : Program} {t e : TypeId} {k : IntKind} {n : Nat} (hu : P.underlying t = some (.array n e)) (he : P.underlying e = some (.int k)) (hs : (P.info? e).map (·.size) = some 1) (f : Nat → Int) {i : Nat} (hi : i < n) (w : World) :
    (Instr.index t (.agg (nums k n f)) (.int .i64 i)).run P w = .ok (.int k (f i)) w := by
  unfold Instr.index
  have h1 : (0 : Int) ≤ i ∧ (i : Int) < n := by omega
  simp only [asIntOf, Sem.run_bind, Sem.run_pure, Result.andThen_ok, run_underlying hu]
  rw [if_pos h1, Sem.run_bind, size_run hs, Result.andThen_ok]
  refine part_cell he rfl ?_
  rw [Int.toNat_natCast, Nat.mul_one]
  exact nums_get k f hi
theorem range_nums {w : World} {b : Nat} {k : IntKind} {n : Nat} {f : Nat → Int} {t : TypeId} (h : w.heap[b]? = some (.cells (nums k n f) t (0, 0))) (o m : Nat) (g : Nat → Int) (hm : o + m ≤ n) (hg : ∀ j, j < m → f (o + j) = g j) : w.rangeAt b o (nums k m g).toList := fun j v hv => by
  have hj : j < m := by have := (List.getElem?_eq_some_iff.1 hv).1; simpa [nums_size] using this
  have hv' : (nums k m g)[j]? = some v := by simpa using hv
  rw [cell_of_row w b _ _ t _ h, nums_get k f (by omega), hg j hj, ← nums_get k g hj, hv']
/-- Blocks that came since w0, each known whole. -/
structure Blks (w0 : World) (l : List (Nat × Array Value × TypeId)) (w : World) : Prop where
  below : Below w0.heap.size w0 w
  at_ : ∀ x ∈ l, w.heap[x.1]? = some (.cells x.2.1 x.2.2 (0, 0))
  ge : ∀ x ∈ l, w0.heap.size ≤ x.1
  nd : (l.map (·.1)).Nodup
section
variable {w0 w w' : World} {l : List (Nat × Array Value × TypeId)} {b : Nat} {c : Array Value} {t : TypeId}
theorem Blks.nil (w : World) : Blks w [] w := ⟨Below.refl _ _, by simp, by simp, by simp⟩
theorem Blks.get (h : Blks w0 l w) (i : Nat) (hi : l[i]? = some (b, c, t)) : w.heap[b]? = some (.cells c t (0, 0)) := h.at_ _ (List.mem_of_getElem? hi)
theorem Blks.cell (h : Blks w0 l w) (i : Nat) (hi : l[i]? = some (b, c, t)) (o : Nat) : w.cell? ⟨b, o, none⟩ = c[o]? := cell_of_row w b o c t _ (h.get i hi)
theorem Blks.num {k : IntKind} {n : Nat} {f : Nat → Int} (h : Blks w0 l w) (i : Nat) (hi : l[i]? = some (b, nums k n f, t)) {o : Nat} (ho : o < n) : w.cell? ⟨b, o, none⟩ = some (.int k (f o)) := by
  rw [h.cell i hi, nums_get k f ho]
theorem Blks.frozen (h : Blks w0 l w) (i : Nat) (hi : l[i]? = some (b, c, t)) (o : Nat) : w.frozen? ⟨b, o, none⟩ = false := frozen_of_row w b o c t (h.get i hi)
theorem Blks.there (h : Blks w0 l w) (i : Nat) (hi : l[i]? = some (b, c, t)) : w.there b 0 c.size := there_block (h.get i hi) 0 c.size (by omega)
theorem Blks.range (h : Blks w0 l w) (i : Nat) (hi : l[i]? = some (b, c, t)) : w.rangeAt b 0 c.toList := range_block (h.get i hi)
theorem Blks.ext (h : Blks w0 l w) (hb : Below w.heap.size w w') : Blks w0 l w' := ⟨below_all h.below hb, fun x hx => block_below (h.at_ x hx) hb, h.ge, h.nd⟩
theorem Blks.drew (h : Blks w0 l w) : Blks w0 l w.drew := h.ext (Below.refl _ _).drew
theorem Blks.lt (h : Blks w0 l w) (i : Nat) (hi : l[i]? = some (b, c, t)) : b < w.heap.size := block_lt (h.get i hi)
theorem Blks.alloc (h : Blks w0 l w) (c : Array Value) (t : TypeId) (hb : w.heap.size = b) : Blks w0 (l ++ [(b, c, t)]) (w.alloc (.cells c t)) := by
  subst hb
  refine ⟨h.below.alloc h.below.size _, fun x hx => ?_, fun x hx => ?_, ?_⟩
  · rcases List.mem_append.1 hx with hx | hx
    · exact block_alloc (h.at_ x hx) _
    · rw [List.mem_singleton] at hx; subst hx; exact block_new _ _
  · rcases List.mem_append.1 hx with hx | hx
    · exact h.ge x hx
    · rw [List.mem_singleton] at hx; subst hx; exact h.below.size
  · rw [List.map_append, List.nodup_append]
    refine ⟨h.nd, by simp, fun x hx y hy => ?_⟩
    obtain ⟨z, hz, rfl⟩ := List.mem_map.1 hx
    simp only [List.map_cons, List.map_nil, List.mem_singleton] at hy
    subst hy
    have := block_lt (h.at_ z hz)
    omega
theorem Blks.others (h : Blks w0 l w) (i : Nat) (hi : l[i]? = some (b, c, t)) {new : Array Value} (hg : w.grownBy w' (some b)) (hn : w'.heap[b]? = some (.cells new t (0, 0))) : Blks w0 (l.set i (b, new, t)) w' := by
  have hil := (List.getElem?_eq_some_iff.1 hi).1
  have hid : (l.set i (b, new, t)).map (·.1) = l.map (·.1) := by
    rw [List.map_set]
    apply List.ext_getElem?
    intro j
    by_cases hj : i = j
    · subst hj
      rw [List.getElem?_set_self (by simpa using hil), List.getElem?_map, hi]; rfl
    · rw [List.getElem?_set_ne hj]
  refine ⟨below_grown h.below h.below.size hg (by rintro _ ⟨rfl⟩; exact h.ge _ (List.mem_of_getElem? hi)), fun x hx => ?_, fun x hx => ?_, by rw [hid]; exact h.nd⟩
  · obtain ⟨j, hj⟩ := List.getElem?_of_mem hx
    by_cases hji : i = j
    · subst hji
      rw [List.getElem?_set_self hil] at hj
      cases hj
      exact hn
    · rw [List.getElem?_set_ne hji] at hj
      have hx' := List.mem_of_getElem? hj
      have hne : x.1 ≠ b := fun e => by
        have h1 : (l.map (·.1))[j]? = (l.map (·.1))[i]? := by rw [List.getElem?_map, List.getElem?_map, hj, hi]; simp [e]
        have hjl := (List.getElem?_eq_some_iff.1 hj).1
        have := (List.getElem?_inj (by simpa using hjl) h.nd).1 h1
        omega
      exact (hg.block _ (block_lt (h.at_ x hx')) (fun e => hne (Option.some.inj e))).trans (h.at_ x hx')
  · rcases List.mem_or_eq_of_mem_set hx with hx | hx
    · exact h.ge x hx
    · have := h.ge _ (List.mem_of_getElem? hi); subst hx; exact this
theorem Blks.set (h : Blks w0 l w) (i : Nat) (hi : l[i]? = some (b, c, t)) (o : Nat) (v : Value) {c' : Array Value} (hc : c.setIfInBounds o v = c') : Blks w0 (l.set i (b, c', t)) (w.setCell ⟨b, o, none⟩ v) := by
  subst hc
  exact h.others i hi (setCell_grown b o v) (heap_setCell_same w b o c t v (h.get i hi))
theorem Blks.row (h : Blks w0 l w) (i : Nat) (hi : l[i]? = some (b, c, t)) (new : Array Value) (hs : new.size = c.size) : Blks w0 (l.set i (b, new, t)) (w.setCells b 0 new.toList) :=
  h.others i hi (setCells_grown _ _) (setCells_whole (h.get i hi) hs)
/-- Those that are still wanted. -/
theorem Blks.keep (h : Blks w0 l w) (l' : List (Nat × Array Value × TypeId)) (hs : l'.Sublist l) : Blks w0 l' w :=
  ⟨h.below, fun x hx => h.at_ x (hs.mem hx), fun x hx => h.ge x (hs.mem hx), h.nd.sublist (hs.map _)⟩
end
/-- The class of the worlds that hold such blocks. -/
def BlksOf (w0 : World) (l : List (Nat × Array Value × TypeId)) : Type := { x : World // Blks w0 l x }
def BlksOf.wd {w0 : World} {l : List (Nat × Array Value × TypeId)} (e : BlksOf w0 l) : World := e.1
theorem BlksOf.blks {w0 : World} {l : List (Nat × Array Value × TypeId)} (e : BlksOf w0 l) : Blks w0 l e.wd := e.2
theorem Blks.of {w0 w : World} {l : List (Nat × Array Value × TypeId)} (h : Blks w0 l w) : ∃ e : BlksOf w0 l, w = e.wd := ⟨⟨w, h⟩, rfl⟩
theorem Blks.ne {w0 w : World} {l : List (Nat × Array Value × TypeId)} (h : Blks w0 l w) : Nonempty (BlksOf w0 l) := ⟨⟨w, h⟩⟩
theorem results_cell_tmp_row {P : Program} {fn : Func} {p u : Tmp} {ty : TypeId} (h : fn.results = #[.cell p ty, .tmp u]) (tmps : Array Value) (w : World) (g : Nat) (t : TypeId) (cs : Array Value) (fr : Nat × Nat) (d : TypeDesc) (v : Value)
    (hp : tmps.getD p undef = .pointer (some ⟨g, 0, none⟩)) (hv : tmps.getD u undef = v) (hg : w.heap[g]? = some (.cells cs t fr))
    (hu : P.underlying ty = some d) (hd : (match d with | .struct _ | .array _ _ => true | _ => false) = true) (hi : (P.info? ty).map (·.size) = some cs.size) :
    (results fn tmps).run P w = .ok (.tuple #[.agg cs, v]) w := by
  rw [results_cell_tmp h, hp, hv]
  simp [asAddr, run_loadVar_row w g t ty cs fr d hg hu hd hi]
theorem results_cell_tmp2_row {P : Program} {fn : Func} {p u u' : Tmp} {ty : TypeId} (h : fn.results = #[.cell p ty, .tmp u, .tmp u']) (tmps : Array Value) (w : World) (g : Nat) (t : TypeId) (cs : Array Value) (fr : Nat × Nat) (d : TypeDesc) (v v' : Value)
    (hp : tmps.getD p undef = .pointer (some ⟨g, 0, none⟩)) (hv : tmps.getD u undef = v) (hv' : tmps.getD u' undef = v') (hg : w.heap[g]? = some (.cells cs t fr))
    (hu : P.underlying ty = some d) (hd : (match d with | .struct _ | .array _ _ => true | _ => false) = true) (hi : (P.info? ty).map (·.size) = some cs.size) :
    (results fn tmps).run P w = .ok (.tuple #[.agg cs, v, v']) w := by
  simp only [Array.getD_eq_getD_getElem?] at hp hv hv'
  simp [results, h, hp, hv, hv', asAddr, run_loadVar_row w g t ty cs fr d hg hu hd hi]
theorem results_cell2 {P : Program} {fn : Func} {p q : Tmp} {ty : TypeId} (h : fn.results = #[.cell p ty, .cell q ty]) (tmps : Array Value) (w : World) (g g' : Nat) (t : TypeId) (cs cs' : Array Value) (d : TypeDesc)
    (hp : tmps.getD p undef = .pointer (some ⟨g, 0, none⟩)) (hq : tmps.getD q undef = .pointer (some ⟨g', 0, none⟩)) (hg : w.heap[g]? = some (.cells cs t (0, 0))) (hg' : w.heap[g']? = some (.cells cs' t (0, 0)))
    (hu : P.underlying ty = some d) (hd : (match d with | .struct _ | .array _ _ => true | _ => false) = true) (hi : (P.info? ty).map (·.size) = some cs.size) (hi' : (P.info? ty).map (·.size) = some cs'.size) :
    (results fn tmps).run P w = .ok (.tuple #[.agg cs, .agg cs']) w := by
  simp only [Array.getD_eq_getD_getElem?] at hp hq
  simp [results, h, hp, hq, asAddr, run_loadVar_row w g t ty cs (0, 0) d hg hu hd hi, run_loadVar_row w g' t ty cs' (0, 0) d hg' hu hd hi']
section
variable {P : Program} {ops : Array Oper} {Q : Exit → Act → World → Prop} {a : Act} {w w0 : World} {op : Oper} {rest : List Oper} {l : List (Nat × Array Value × TypeId)}
/-- A whole array out of a block of the call's own. -/
theorem wpList_blks_load (H : Blks w0 l w) (i b : Nat) (c : Array Value) (t : TypeId) (hi : l[i]? = some (b, c, t)) (hgd : op.guard = none) (x : Operand) (ho : op.op = .load t x) (hx : a.eval x = .pointer (some ⟨b, 0, none⟩))
    {d : TypeDesc} (hu : P.underlying t = some d) (hd : d.isRow = true) (hs : (P.info? t).map (·.size) = some c.size) (h : wpList P ops Q rest (a.put op.dst (.agg c)) w) : wpList P ops Q (op :: rest) a w :=
  wpList_load_mid hgd t x ho b 0 hx c.toList d (H.range i hi) hu hd (by simpa using hs) (by simpa using h)
/-- .. under a guard that holds. -/
theorem wpList_blks_loadg (H : Blks w0 l w) (i b : Nat) (c : Array Value) (t : TypeId) (hi : l[i]? = some (b, c, t)) (hw : Region.wanted op (yielded ops a.tmps) = true) (x : Operand) (ho : op.op = .load t x) (hx : a.eval x = .pointer (some ⟨b, 0, none⟩))
    {d : TypeDesc} (hu : P.underlying t = some d) (hd : d.isRow = true) (hs : (P.info? t).map (·.size) = some c.size) (h : wpList P ops Q rest (a.put op.dst (.agg c)) w) : wpList P ops Q (op :: rest) a w := by
  unfold wpList
  rw [if_pos hw]
  exact .inl (wp_load_mid t x ho b 0 hx c.toList d (H.range i hi) hu hd (by simpa using hs) (by simpa using h))
/-- .. into one. -/
theorem wpList_blks_store (H : Blks w0 l w) (i b : Nat) (c : Array Value) (t : TypeId) (hi : l[i]? = some (b, c, t)) (hgd : op.guard = none) (x y : Operand) (ho : op.op = .store t x y) (hx : a.eval x = .pointer (some ⟨b, 0, none⟩))
    (new : Array Value) (hy : a.eval y = .agg new) (hn : new.size = c.size) (hs : (P.info? t).map (·.size) = some new.size) (h1 : new.all (·.oneCell') = true)
    (h : ∀ w', Blks w0 (l.set i (b, new, t)) w' → wpList P ops Q rest (a.put op.dst undef) w') : wpList P ops Q (op :: rest) a w := by
  refine wpList_store_mid hgd t x y ho b 0 new hx hy (by rw [hn]; exact H.there i hi) hs h1 (h _ (H.row i hi new hn))
/-- A load of a whole array or struct, in the head, over whatever class. -/
theorem wpHead_loadS {S : World → Prop} {L : Act → Prop} (hgd : op.guard = none) (ty : TypeId) (x : Operand) (ho : op.op = .load ty x)
    (b o : Nat) (hx : a.eval x = .pointer (some ⟨b, o, none⟩)) (cs : Array Value) (d : TypeDesc) (hr : ∀ w', S w' → w'.rangeAt b o cs.toList) (hu : P.underlying ty = some d) (hd : d.isRow = true)
    (hi : (P.info? ty).map (·.size) = some cs.size) (h : wpHead P ops S L rest (a.put op.dst (.agg cs))) : wpHead P ops S L (op :: rest) a := by
  unfold wpHead
  rw [if_pos (by simp [Region.wanted, hgd])]
  refine ⟨.agg cs, fun w' hw' => ?_, h⟩
  have := loadAt_mid (hr w' hw') hu hd (by simpa using hi)
  unfold execOp
  simp only [ho, hx, Sem.run_bind, this, Result.andThen_ok, Sem.run_pure, Oper.heldUpon]
  exact ⟨trivial, by simp⟩
end
end Go.KK
