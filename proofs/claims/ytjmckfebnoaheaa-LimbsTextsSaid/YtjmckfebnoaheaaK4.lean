/- Words on slices that a call owns, at whatever place of their block; frames by the types of blocks. No premise. -/
import Derived.Test.YtjmckfebnoaheaaK3
import Derived.Deep.AppendSrc
import Derived.Lib.Hide
set_option linter.unusedVariables false
namespace Go.KK
open Go.RowKit

/-- What was below B, and blocks whose type is none of T's, are as they were. -/
structure Frm (B : Nat) (T : TypeId → Bool) (w w' : World) : Prop where
  os : w'.os = w.os
  tape : w'.tape = w.tape
  output : w'.output = w.output
  size : w.heap.size ≤ w'.heap.size
  block : ∀ i, i < w.heap.size → (i < B ∨ ∀ c t fz, w.heap[i]? = some (.cells c t fz) → T t = false) → w'.heap[i]? = w.heap[i]?
theorem Frm.refl (B : Nat) (T : TypeId → Bool) (w : World) : Frm B T w w := ⟨rfl, rfl, rfl, Nat.le_refl _, fun _ _ _ => rfl⟩
theorem Frm.trans {B : Nat} {T : TypeId → Bool} {w w1 w2 : World} (h : Frm B T w w1) (k : Frm B T w1 w2) : Frm B T w w2 :=
  ⟨k.os.trans h.os, k.tape.trans h.tape, k.output.trans h.output, Nat.le_trans h.size k.size, fun i hi hh => by
    have h1 := h.block i hi hh
    rw [k.block i (Nat.lt_of_lt_of_le hi h.size) (hh.imp id fun g c t fz e => g c t fz (h1 ▸ e)), h1]⟩
theorem Frm.of_below {B : Nat} {T : TypeId → Bool} {w w' : World} (h : Below w.heap.size w w') : Frm B T w w' := ⟨h.os, h.tape, h.output, h.size, fun i hi _ => h.block i hi⟩
theorem Frm.of_grown {B : Nat} {T : TypeId → Bool} {w w' : World} {g : Nat} {c : Array Value} {t : TypeId} {fz : Nat × Nat} (h : w.grownBy w' (some g)) (hB : B ≤ g) (hg : w.heap[g]? = some (.cells c t fz)) (hT : T t = true) : Frm B T w w' :=
  ⟨h.os, h.tape, h.output, h.size, fun i hi hh => h.block i hi (fun e => by
    cases e
    rcases hh with hh | hh
    · omega
    · rw [hh _ _ _ hg] at hT; cases hT)⟩
theorem Frm.below {B : Nat} {T : TypeId → Bool} {w w' : World} (h : Frm B T w w') {B0 : Nat} (h0 : B0 ≤ B) (hw : B0 ≤ w.heap.size) : Below B0 w w' :=
  ⟨h.os, h.tape, h.output, h.size, fun i hi => h.block i (by omega) (.inl (by omega))⟩
theorem Frm.grow {B : Nat} {T : TypeId → Bool} {w w' : World} (h : Frm B T w w') {B0 : Nat} (h0 : B0 ≤ B) : Frm B0 T w w' :=
  ⟨h.os, h.tape, h.output, h.size, fun i hi hh => h.block i hi (hh.imp (fun k => by omega) id)⟩

/-- The slice v owns n elements, the cells xs: at whatever place of a block that came at B or behind it. -/
def SOwn (w : World) (B : Nat) (e : TypeId) (sz : Nat) (v : Value) (n : Nat) (xs : List Value) : Prop :=
  xs.length = n * sz ∧ ∃ A cap, v = .slice A n cap ∧ n ≤ cap ∧ cap ≤ maxLen ∧
    (cap = 0 ∨ ∃ g off cur, A = some ⟨g, off, none⟩ ∧ B ≤ g ∧ w.heap[g]? = some (.cells cur e (0, 0)) ∧ off + cap * sz ≤ cur.size ∧ w.rangeAt g off xs)
theorem SOwn.nil (w : World) (B : Nat) (e : TypeId) (sz : Nat) : SOwn w B e sz (.slice none 0 0) 0 [] := ⟨by simp, none, 0, rfl, by simp, by simp, .inl rfl⟩
theorem SOwn.keep {w w' : World} {B : Nat} {e : TypeId} {sz : Nat} {v : Value} {n : Nat} {xs : List Value} (h : SOwn w B e sz v n xs)
    (hk : ∀ g cur, w.heap[g]? = some (.cells cur e (0, 0)) → B ≤ g → w'.heap[g]? = w.heap[g]?) : SOwn w' B e sz v n xs := by
  obtain ⟨h1, A, cap, h2, h3, h4, h5⟩ := h
  refine ⟨h1, A, cap, h2, h3, h4, h5.imp id ?_⟩
  rintro ⟨g, off, cur, ha, hb, hg, hc, hr⟩
  have h6 := hk g cur hg hb
  refine ⟨g, off, cur, ha, hb, h6.trans hg, hc, fun j u hu => ?_⟩
  have := hr j u hu
  rw [cell_of_row w g _ cur e _ hg] at this
  rw [cell_of_row w' g _ cur e _ (h6.trans hg)]
  exact this
theorem SOwn.below {w w' : World} {B : Nat} {e : TypeId} {sz : Nat} {v : Value} {n : Nat} {xs : List Value} (h : SOwn w B e sz v n xs) (hb : Below w.heap.size w w') : SOwn w' B e sz v n xs :=
  h.keep fun g cur hg _ => hb.block g (block_lt hg)
theorem SOwn.grown {w w' : World} {B : Nat} {e : TypeId} {sz : Nat} {v : Value} {n : Nat} {xs : List Value} (h : SOwn w B e sz v n xs) {b : Nat} {c : Array Value} {t : TypeId} {fz : Nat × Nat} (hg : w.grownBy w' (some b)) (hb : w.heap[b]? = some (.cells c t fz)) (hne : t ≠ e) : SOwn w' B e sz v n xs :=
  h.keep fun g cur hcur _ => hg.block g (block_lt hcur) (fun e' => by cases e'; rw [hb] at hcur; cases hcur; exact hne rfl)
theorem SOwn.sl {w : World} {B : Nat} {e : TypeId} {sz : Nat} {v : Value} {n : Nat} {rows : List (List Value)} (h : SOwn w B e sz v n rows.flatten) (hn : rows.length = n) (hl : ∀ r ∈ rows, r.length = sz) : SlAt w v sz rows := by
  subst hn
  obtain ⟨h1, A, cap, rfl, h3, h4, h5⟩ := h
  unfold maxLen at h4
  refine ⟨A, cap, rfl, by omega, fun i r hi => ?_⟩
  have hil := (List.getElem?_eq_some_iff.1 hi).1
  rcases h5 with h5 | ⟨g, off, cur, rfl, hb, hg, hc, hr⟩
  · omega
  · refine ⟨g, off, rfl, fun j v hv => ?_, block_lt hg⟩
    have := hr _ _ (flat_get rows hl i r hi j v hv)
    rwa [← Nat.add_assoc] at this
/-- The rest of it, 'v[k:]'. -/
theorem SOwn.of_own {w : World} {B : Nat} {e : TypeId} {sz : Nat} {v : Value} {n : Nat} {xs : List Value} (h : w.ownsRow B e sz v n xs) : SOwn w B e sz v n xs := by
  refine ⟨h.1, ?_⟩
  rcases h.2 with ⟨rfl, h0⟩ | ⟨g, cap, cur, hv, hb, hg, hn, hm, hc, ht⟩
  · exact ⟨none, 0, by rw [h0], by omega, by simp, .inl rfl⟩
  · refine ⟨_, cap, hv, hn, hm, .inr ⟨g, 0, cur, rfl, hb, hg, by omega, fun j u hu => ?_⟩⟩
    have := h.cells (g := g) (by rw [hv]; rfl) j u hu
    rw [Addr.add_mid] at this
    exact this

/-- 'append': what is appended may be whatever yields cells. -/
theorem run_append_sown {P : Program} (w : World) (B : Nat) (t tx ty e : TypeId) (z : Value) (size bytes : Nat) (ht : P.underlying t = some (.slice e)) (hi : (P.info? e).map (fun i => (i.zero, i.size, i.bytes)) = some (some z, size, bytes)) (hzs : z.cells.size = size) (hsz : 0 < size)
    (v : Value) (n : Nat) (xs : List Value) (h : SOwn w B e size v n xs) (x : Value) (m : Nat) (news : List Value) (hs : Src P size tx x m news w) (h63 : n + m ≤ maxLen) (hbytes : (n + m) * bytes ≤ 140737488355328) (hbase : B ≤ w.heap.size) (T : TypeId → Bool) (hT : T e = true) :
    ∃ v' w', (Builtin.append_ #[t, tx] ty #[v, x]).run P w = .ok v' w' ∧ SOwn w' B e size v' (n + m) (xs ++ news) ∧ Frm B T w w' ∧ (∀ (b : Nat) (c : Array Value) (t' : TypeId) (fz : Nat × Nat), w.heap[b]? = some (.cells c t' fz) → t' ≠ e → w'.heap[b]? = w.heap[b]?) := by
  obtain ⟨i, hi1, hz, rfl, rfl⟩ := info_parts hi
  obtain ⟨h1, A, cap, rfl, h3, h4, h5⟩ := h
  have hsmall : n + m ≤ 9223372036854775807 := by simp only [maxLen] at h63; omega
  have hlen : (xs ++ news).length = (n + m) * i.size := by rw [List.length_append, h1, hs.newsLen, Nat.add_mul]
  by_cases hroom : n + m ≤ cap
  · rcases h5 with h5 | ⟨g, off, cur, rfl, hb, hg, hc, hr⟩
    · have hm : m = 0 := by omega
      have hn : n = 0 := by omega
      subst hm hn h5
      have hnews : news = [] := List.eq_nil_of_length_eq_zero (by simpa using hs.newsLen)
      have hxs : xs = [] := List.eq_nil_of_length_eq_zero (by simpa using h1)
      subst hnews hxs
      refine ⟨.slice A 0 0, w, ?_, ⟨by simp, A, 0, rfl, by simp, by simp, .inl rfl⟩, Frm.refl _ _ _, fun _ _ _ _ _ _ => rfl⟩
      rcases hs.kind with ⟨e', hk⟩ | hk <;> cases A <;> simp [Builtin.append_, run_underlying ht, run_underlying hk, sizeOf, typeInfo, hi1, hs.len, hs.cells, storeCells]
    · have hfit : off + n * i.size + news.length ≤ cur.size := by
        have h7 := Nat.mul_le_mul_right i.size hroom
        rw [hs.newsLen]
        rw [Nat.add_mul] at h7
        omega
      have hrun := run_append_room_src (P := P) w t tx ty e i ht hi1 g off n cap x m news hs hroom
        (fun j hj => by rw [cell_of_row w g _ cur e _ hg]; simp; omega) (fun j hj => frozen_of_row w g _ cur e hg)
      have hg' := setCells_block (o := off + n * i.size) hg news hfit
      refine ⟨_, _, hrun, ⟨hlen, _, cap, rfl, hroom, h4, .inr ⟨g, off, _, rfl, hb, hg', ?_, fun j u hu => ?_⟩⟩, Frm.of_grown (setCells_grown _ _) hb hg hT, fun b c t' fz hb' hne => ?_⟩
      · rw [List.size_toArray, splice_length _ _ _ (by simpa using hfit)]
        simpa using hc
      · rw [cell_of_row _ g _ _ e _ hg', List.getElem?_toArray, splice_get _ _ _ (by simpa using hfit)]
        by_cases hj : j < xs.length
        · rw [List.getElem?_append_left hj] at hu
          rw [if_neg (by omega)]
          have := hr j u hu
          rw [cell_of_row w g _ cur e _ hg] at this
          simpa using this
        · rw [List.getElem?_append_right (by omega)] at hu
          have := (List.getElem?_eq_some_iff.1 hu).1
          rw [if_pos (by omega), ← hu]
          congr 1
          omega
      · exact (setCells_grown (w := w) (b := g) news (off + n * i.size)).block b (block_lt hb') (fun e' => by cases e'; rw [hg] at hb'; cases hb'; exact hne rfl)
  · have hold : (Builtin.firstCells i.size n (.slice A n cap)).run P w.drew = .ok xs.toArray w.drew := by
      rcases h5 with h5 | ⟨g, off, cur, rfl, hb, hg, hc, hr⟩
      · subst h5
        have hn : n = 0 := by omega
        subst hn
        have hxs : xs = [] := List.eq_nil_of_length_eq_zero (by simpa using h1)
        subst hxs
        cases A with
        | none => exact run_firstCells_none w.drew i.size 0 0 0
        | some a => exact run_firstCells_some (P := P) w.drew i.size 0 a 0 0 [] (by simp) (by simp)
      · exact run_firstCells_some (P := P) w.drew i.size n ⟨g, off, none⟩ n cap xs h1 (fun j u hu => by rw [Addr.add_mid]; simpa using hr j u hu)
    have hge := grownCap_ge w (n + m) cap e
    have hcm : grownCap w (n + m) cap e ≤ maxLen := grownCap_le_maxLen w (n + m) cap e h63
    have hrun := run_append_grow_src (P := P) w t tx ty e i z ht hi1 hz A n cap xs hold x m news hs (by omega) (by omega) (growslice_fits (by omega) hbytes)
    have hg' : (w.drew.alloc (.cells ((xs ++ news).toArray ++ Builtin.zeroCells z.cells (grownCap w (n + m) cap e - (n + m))) e)).heap[w.heap.size]? = _ := heap_alloc_new w.drew _
    have hbl : Below w.heap.size w (w.drew.alloc (.cells ((xs ++ news).toArray ++ Builtin.zeroCells z.cells (grownCap w (n + m) cap e - (n + m))) e)) := (Below.refl _ _).drew.alloc (Nat.le_refl _) _
    refine ⟨_, _, hrun, ⟨hlen, _, _, rfl, hge, hcm, .inr ⟨w.heap.size, 0, _, rfl, hbase, hg', ?_, fun j u hu => ?_⟩⟩, Frm.of_below hbl, fun b c t' fz hb' _ => hbl.block b (block_lt hb')⟩
    · simp only [Array.size_append, List.size_toArray, size_zeroCells, hzs, hlen, ← Nat.add_mul, Nat.zero_add]
      apply Nat.le_of_eq
      congr 1
      omega
    · rw [cell_of_row _ _ _ _ e _ hg']
      rw [Array.getElem?_append_left (by rw [Nat.zero_add, List.size_toArray]; exact (List.getElem?_eq_some_iff.1 hu).1)]
      simpa using hu
end Go.KK
namespace Go.KK
open Go.RowKit
theorem SOwn.src {P : Program} {w : World} {B : Nat} {e : TypeId} {sz : Nat} {v : Value} {n : Nat} {xs : List Value} (h : SOwn w B e sz v n xs) {tx e' : TypeId} (hk : P.underlying tx = some (.slice e')) (h1 : ∀ u ∈ xs, u.oneCell' = true) : Src P sz tx v n xs w := by
  obtain ⟨hl, A, cap, rfl, h3, h4, h5⟩ := h
  rcases h5 with h5 | ⟨g, off, cur, rfl, hb, hg, hc, hr⟩
  · have hn : n = 0 := by omega
    subst hn
    have hxs : xs = [] := List.eq_nil_of_length_eq_zero (by simpa using hl)
    subst hxs
    cases A with
    | none => exact Src.ofNil w hk cap
    | some a => exact Src.ofSlice w hk a 0 cap [] (by simp) (by simp) (by simp)
  · exact Src.ofSlice w hk ⟨g, off, none⟩ n cap xs hl (fun j u hu => by rw [Addr.add_mid]; exact hr j u hu) h1
theorem wpList_append_sown {P : Program} {ops : Array Oper} {rest : List Oper} {o : Oper} {a : Act} {Q : Exit → Act → World → Prop} {w : World} (hgd : o.guard = none) (s x : Operand) (t tx : TypeId)
    (ho : o.op = .call { callee := .builtin .append, args := #[s, x], argTypes := #[t, tx] }) (B : Nat) (e : TypeId) (z : Value) (size bytes : Nat) (ht : P.underlying t = some (.slice e))
    (hi : (P.info? e).map (fun i => (i.zero, i.size, i.bytes)) = some (some z, size, bytes)) (hzs : z.cells.size = size) (hsz : 0 < size)
    (v : Value) (n : Nat) (xs : List Value) (hs : a.eval s = v) (hown : SOwn w B e size v n xs) (xv : Value) (m : Nat) (news : List Value) (hx : a.eval x = xv) (hsrc : Src P size tx xv m news w)
    (h63 : n + m ≤ maxLen) (hbytes : (n + m) * bytes ≤ 140737488355328) (hbase : B ≤ w.heap.size) (T : TypeId → Bool) (hT : T e = true)
    (h : ∀ v' w', SOwn w' B e size v' (n + m) (xs ++ news) → Frm B T w w' → (∀ (b : Nat) (c : Array Value) (t' : TypeId) (fz : Nat × Nat), w.heap[b]? = some (.cells c t' fz) → t' ≠ e → w'.heap[b]? = w.heap[b]?) → wpList P ops Q rest (a.put o.dst v') w') : wpList P ops Q (o :: rest) a w := by
  refine wpList_plain hgd fun K hK' => ?_
  obtain ⟨v', w', hrun, r1, r2, r3⟩ := run_append_sown (P := P) w B t tx o.type e z size bytes ht hi hzs hsz v n xs hown xv m news hsrc h63 hbytes hbase T hT
  unfold Oper.wp
  simp [execOp, ho, resolve, invoke, builtin, hs, hx, hrun, Result.andThen]
  exact hK' _ _ (h v' w' r1 r2 r3)
end Go.KK
namespace Go.KK
open Go.RowKit
/-- 'x[l:]'. -/
theorem wpList_slice_low {P : Program} {ops : Array Oper} {Q : Exit → Act → World → Prop} {a : Act} {w : World} {op : Oper} {rest : List Oper} (hgd : op.guard = none) (t e : TypeId) (x lo : Operand) (ho : op.op = .slice t x (some lo) none none)
    (ht : P.underlying t = some (.slice e)) {sz : Nat} (hs : (P.info? e).map (·.size) = some sz) (A : Option Addr) (len cap : Nat) (hx : a.eval x = .slice A len cap) (k : IntKind) (l : Nat) (hl : a.eval lo = .int k l) (hle : l ≤ len)
    (h : ∀ v', Hid (v' = .slice (if cap = l then A else A.map (·.add (l * sz))) (len - l) (cap - l)) → wpList P ops Q rest (a.put op.dst v') w) : wpList P ops Q (op :: rest) a w :=
  wpList_plain hgd fun _ hK => by
    unfold Oper.wp execOp
    have hb : (Instr.sliceBound (.int k l) len .sliceB).run P w = .ok l w := by
      unfold Instr.sliceBound
      simp [asIntOf, hle]
    have hsz : (sizeOf e).run P w = .ok sz w := size_run hs
    simp only [ho, Option.map_some, Option.map_none, hx, hl, Instr.sliceAt, Instr.slice, run_underlying ht, Instr.sliceBounds, Sem.run_bind, Sem.run_pure, Result.andThen_ok, hb, hsz, Option.isSome, Bool.false_eq_true, if_false, Oper.upon]
    exact hK _ _ (h _ (Lib.hid rfl))
theorem SOwn.drop {w : World} {B : Nat} {e : TypeId} {sz : Nat} {A : Option Addr} {cap n : Nat} {xs : List Value} (h : SOwn w B e sz (.slice A n cap) n xs) (l : Nat) (hl : l ≤ n) :
    SOwn w B e sz (.slice (if cap = l then A else A.map (·.add (l * sz))) (n - l) (cap - l)) (n - l) (xs.drop (l * sz)) := by
  obtain ⟨h1, A', cap', h2, h3, h4, h5⟩ := h
  obtain ⟨rfl, _, rfl⟩ := Value.slice.inj h2
  refine ⟨by rw [List.length_drop, h1, Nat.sub_mul], _, cap - l, rfl, by omega, by omega, ?_⟩
  rcases h5 with h5 | ⟨g, off, cur, rfl, hb, hg, hc, hr⟩
  · exact .inl (by omega)
  · by_cases hcl : cap = l
    · exact .inl (by omega)
    · refine .inr ⟨g, off + l * sz, cur, by rw [if_neg hcl]; simp [Addr.add_mid], hb, hg, ?_, fun j v hv => ?_⟩
      · have : l * sz + (cap - l) * sz = cap * sz := by rw [← Nat.add_mul]; congr 1; omega
        omega
      · rw [List.getElem?_drop] at hv
        have := hr _ v hv
        rwa [← Nat.add_assoc] at this
theorem g_slicelow {P : Program} {ops : Array Oper} {Q : Exit → Act → World → Prop} {a : Act} {w : World} {rest : List Oper} {d : Option Tmp} {x lo : Operand} {ty : TypeId} {p : String} {af : Array Edge} {gd : Option (Nat × Bool)} (t : TypeId)
    (h : wpList P ops Q ({ dst := d, op := .slice t x (some lo) none none, type := ty, pos := p, after := af, guard := gd } :: rest) a w) : wpList P ops Q ({ dst := d, op := .slice t x (some lo) none none, type := ty, pos := p, after := af, guard := gd } :: rest) a w := h
end Go.KK
namespace Go.KK
open Go.RowKit
attribute [go_sem] Oper.heldIn Oper.heldUpon
/-- Worlds that hold some blocks as w does. -/
def KeepOf (w : World) (p : Nat → Bool) : Type := { x : World // ∀ i, p i = true → x.heap[i]? = w.heap[i]? }
instance (w : World) (p : Nat → Bool) : Nonempty (KeepOf w p) := ⟨⟨w, fun _ _ => rfl⟩⟩
def KeepOf.wd {w : World} {p : Nat → Bool} (e : KeepOf w p) : World := e.1
theorem KeepOf.block {w : World} {p : Nat → Bool} (e : KeepOf w p) {b : Nat} {o : Obj} (hb : p b = true) (h : w.heap[b]? = some o) : e.wd.heap[b]? = some o := (e.2 b hb).trans h
theorem KeepOf.of {w x : World} {p : Nat → Bool} (h : ∀ i, p i = true → x.heap[i]? = w.heap[i]?) : ∃ e : KeepOf w p, x = e.wd := ⟨⟨x, h⟩, rfl⟩
/-- A load of a whole struct, in the head. -/
theorem wpHead_load {P : Program} {ops : Array Oper} {L : Act → Prop} {a : Act} {w : World} {p : Nat → Bool} {op : Oper} {rest : List Oper} (hgd : op.guard = none) (ty : TypeId) (x : Operand) (ho : op.op = .load ty x)
    (b o : Nat) (hx : a.eval x = .pointer (some ⟨b, o, none⟩)) (cs : List Value) (d : TypeDesc) (hr : ∀ e : KeepOf w p, e.wd.rangeAt b o cs) (hu : P.underlying ty = some d) (hd : d.isRow = true)
    (hi : (P.info? ty).map (·.size) = some cs.length) (h : wpHead P ops (fun w' => ∃ e : KeepOf w p, w' = e.wd) L rest (a.put op.dst (.agg cs.toArray))) : wpHead P ops (fun w' => ∃ e : KeepOf w p, w' = e.wd) L (op :: rest) a := by
  unfold wpHead
  rw [if_pos (by simp [Region.wanted, hgd])]
  refine ⟨.agg cs.toArray, fun w' hw' => ?_, h⟩
  obtain ⟨e, rfl⟩ := hw'
  unfold execOp
  simp only [ho, hx, Sem.run_bind, loadAt_mid (hr e) hu hd hi, Result.andThen_ok, Sem.run_pure, Oper.heldUpon]
  exact ⟨trivial, trivial⟩
theorem wpHead_build2 {P : Program} {ops : Array Oper} {S : World → Prop} {L : Act → Prop} {a : Act} {op : Oper} {rest : List Oper} (hgd : op.guard = none) (t : TypeId) (i0 i1 : Nat) (x0 x1 : Operand) (ho : op.op = .build t #[(i0, x0), (i1, x1)]) (v : Value)
    (hr : ∀ w, (Instr.build t #[(i0, a.eval x0), (i1, a.eval x1)]).run P w = .ok v w) (h : wpHead P ops S L rest (a.put op.dst v)) : wpHead P ops S L (op :: rest) a := by
  unfold wpHead
  rw [if_pos (by simp [Region.wanted, hgd])]
  refine ⟨v, fun w hw => ?_, h⟩
  unfold execOp
  simp only [ho, List.map_toArray, List.map_cons, List.map_nil, Sem.run_bind, hr w, Result.andThen_ok, Sem.run_pure, Oper.heldUpon]
  exact ⟨trivial, trivial⟩
end Go.KK

namespace Go.KK
theorem wpTail_nil {P : Program} {ops : Array Oper} {Q : Exit → Act → World → Prop} {S : World → Prop} {z : Nat} {a : Act} {w : World} (h : Q .normal a w) : wpTail P ops Q S z [] a w := h
end Go.KK
