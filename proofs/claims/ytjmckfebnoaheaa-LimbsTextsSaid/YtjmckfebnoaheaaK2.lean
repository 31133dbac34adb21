/- Words on rows that a call owns: read as slices of rows. No premise. -/
import Derived.Test.YtjmckfebnoaheaaK1
namespace Go.KK
open Go.RowKit

theorem flat_get {sz : Nat} : ∀ (rows : List (List Value)), (∀ r ∈ rows, r.length = sz) → ∀ (i : Nat) (r : List Value), rows[i]? = some r → ∀ j v, r[j]? = some v → rows.flatten[i * sz + j]? = some v := by
  intro rows
  induction rows with
  | nil => intro _ i r hi; simp at hi
  | cons a rest ih =>
    intro hl i r hi j v hv
    have ha : a.length = sz := hl a (by simp)
    rw [List.flatten_cons]
    cases i with
    | zero =>
      simp at hi
      subst hi
      rw [Nat.zero_mul, Nat.zero_add, List.getElem?_append_left (List.getElem?_eq_some_iff.1 hv).1]
      exact hv
    | succ i =>
      simp only [List.getElem?_cons_succ] at hi
      rw [List.getElem?_append_right (by rw [ha, Nat.succ_mul]; omega), ha, show (i + 1) * sz + j - sz = i * sz + j by rw [Nat.succ_mul]; omega]
      exact ih (fun x hx => hl x (by simp [hx])) i r hi j v hv
theorem flat_length {sz : Nat} : ∀ (rows : List (List Value)), (∀ r ∈ rows, r.length = sz) → rows.flatten.length = rows.length * sz := by
  intro rows
  induction rows with
  | nil => intro _; simp
  | cons a rest ih =>
    intro hl
    rw [List.flatten_cons, List.length_append, hl a (by simp), ih (fun x hx => hl x (by simp [hx])), List.length_cons, Nat.succ_mul, Nat.add_comm]
/-- What a call owns, read. -/
theorem own_sl {w : World} {base : Nat} {e : TypeId} {sz : Nat} {v : Value} {n : Nat} {rows : List (List Value)} (h : w.ownsRow base e sz v n rows.flatten) (hn : rows.length = n) (hl : ∀ r ∈ rows, r.length = sz) : SlAt w v sz rows := by
  subst hn
  rcases h.2 with ⟨rfl, h0⟩ | ⟨g, cap, cur, rfl, hb, hg, hc, hm, hsz, htake⟩
  · exact ⟨none, 0, by rw [h0], by omega, fun i r hi => by have := (List.getElem?_eq_some_iff.1 hi).1; omega⟩
  · unfold maxLen at hm
    refine ⟨_, cap, rfl, by omega, fun i r hi => ⟨g, 0, rfl, fun j v hv => ?_, block_lt hg⟩⟩
    have h1 := flat_get rows hl i r hi j v hv
    have h2 := h.cells (g := g) rfl (i * sz + j) v h1
    rw [Addr.add_mid] at h2
    simpa using h2
theorem own_block {w : World} {base : Nat} {e : TypeId} {sz : Nat} {v : Value} {n : Nat} {xs : List Value} (h : w.ownsRow base e sz v n xs) {k : Nat} (hk : v.ownBlock = some k) : base ≤ k ∧ k < w.heap.size := h.lt k hk
theorem own_below {w w' : World} {base : Nat} {e : TypeId} {sz : Nat} {v : Value} {n : Nat} {xs : List Value} (h : w.ownsRow base e sz v n xs) (hb : Below w.heap.size w w') : w'.ownsRow base e sz v n xs :=
  h.kept (grown_of_below hb none) (by cases v.ownBlock <;> simp)
/-- A row that is owned from a higher block on is owned from a lower one on. -/
theorem own_base {w : World} {base base' : Nat} {e : TypeId} {sz : Nat} {v : Value} {n : Nat} {xs : List Value} (h : w.ownsRow base e sz v n xs) (hb : base' ≤ base) : w.ownsRow base' e sz v n xs := by
  refine ⟨h.1, ?_⟩
  rcases h.2 with h0 | ⟨g, cap, cur, hv, hbb, rest⟩
  · exact .inl h0
  · exact .inr ⟨g, cap, cur, hv, by omega, rest⟩
/-- Behind an append to a row of the call's own. -/
theorem below_own {B : Nat} {w w1 w2 : World} {v : Value} {base : Nat} {e : TypeId} {sz n : Nat} {xs : List Value} (h : Below B w w1) (hB : B ≤ w1.heap.size) (hg : w1.grownBy w2 v.ownBlock) (ho : w1.ownsRow base e sz v n xs) (hb : B ≤ base) : Below B w w2 :=
  h.grown hg hB (fun k hk => Nat.le_trans hb (ho.lt k hk).1)
/-- One row more: 'xs = append(xs, r)', r in the block that was made last. -/
theorem wpList_append_row {P : Program} {ops : Array Oper} {rest : List Oper} {o : Oper} {a : Act} {Q : Exit → Act → World → Prop} {w : World} (hgd : o.guard = none) (s x : Operand) (t : TypeId)
    (ho : o.op = .call { callee := .builtin .append, args := #[s, x], argTypes := #[t, t] }) (base : Nat) (e : TypeId) (z : Value) (size bytes : Nat) (ht : P.underlying t = some (.slice e))
    (hi : (P.info? e).map (fun i => (i.zero, i.size, i.bytes)) = some (some z, size, bytes)) (hzs : z.cells.size = size) (hsz : 0 < size)
    (v : Value) (n : Nat) (rows : List (List Value)) (hs : a.eval s = v) (hown : w.ownsRow base e size v n rows.flatten) (r : List Value)
    (hx : a.eval x = .slice (some ⟨w.heap.size, 0, none⟩) 1 1) (hl : r.length = size) (h1 : ∀ u ∈ r, u.oneCell' = true) (h63 : n + 1 ≤ maxLen) (hbytes : (n + 1) * bytes ≤ 140737488355328) (hbase : base ≤ w.heap.size)
    (h : ∀ v' w', w'.ownsRow base e size v' (n + 1) (rows ++ [r]).flatten → (w.alloc (.cells r.toArray e)).grownBy w' v.ownBlock → wpList P ops Q rest (a.put o.dst v') w') : wpList P ops Q (o :: rest) a (w.alloc (.cells r.toArray e)) := by
  obtain ⟨i, hi1, hi2, hi3, hi4⟩ := info_parts hi
  refine wpList_append_own _ hgd s x t ho base e i z size bytes ht hi1 hi2 hi3 hi4 hzs hsz v n rows.flatten hs (hown.alloc _) ⟨w.heap.size, 0, none⟩ 1 1 r hx (by omega) (fun j u hu => ?_) h1 h63 hbytes (by simp; omega) (fun v' w' h2 h3 _ => h v' w' ?_ h3)
  · rw [Addr.add_mid]
    simpa using range_block (block_new w (.cells r.toArray e)) j u hu
  · simpa using h2
end Go.KK
