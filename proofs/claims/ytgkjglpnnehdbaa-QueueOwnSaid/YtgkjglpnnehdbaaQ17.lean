/- The page's queue: its object; New, Entries, old, Overdue, Late, walked. -/
import Derived.Test.YtgkjglpnnehdbaaQ11
import Derived.Test.YtgkjglpnnehdbaaK4
set_option linter.unusedVariables false
namespace Go.Proofs.Ytgkjglpnnehdbaa
open Go.RowKit Go.KK

theorem entRows_len (L : List EntD) : ∀ r ∈ entRows L, r.length = 28 := entRows_all L
/-- The page's queue lies in block r. -/
def RAt (B : Nat) (w : World) (r : Nat) (tk : Int) (L : List EntD) (N : Int) : Prop :=
  ∃ v, w.heap[r]? = some (.cells #[.int .u64 tk, v, .int .i64 N] 67 (0, 0)) ∧ B ≤ r ∧ SOwn w B 83 28 v L.length (entRows L).flatten ∧ L.length ≤ 256 ∧ ∀ e ∈ L, e.OK
def RT (t : TypeId) : Bool := t == 67 || t == 83
theorem RAt.below {B : Nat} {w w' : World} {r : Nat} {tk N : Int} {L : List EntD} (h : RAt B w r tk L N) (hb : Below w.heap.size w w') : RAt B w' r tk L N := by
  obtain ⟨v, h1, h2, h3, h4⟩ := h
  exact ⟨v, block_below h1 hb, h2, h3.below hb, h4⟩
theorem RAt.grown {B : Nat} {w w' : World} {r : Nat} {tk N : Int} {L : List EntD} (h : RAt B w r tk L N) {b : Nat} {c : Array Value} {t : TypeId} (hg : w.grownBy w' (some b)) (hb : w.heap[b]? = some (.cells c t (0, 0))) (hn : RT t = false) : RAt B w' r tk L N := by
  obtain ⟨v, h1, h2, h3, h4⟩ := h
  refine ⟨v, block_grown h1 hg (fun e => ?_), h2, h3.grown hg hb (fun e => by subst e; simp [RT] at hn), h4⟩
  cases e; rw [h1] at hb; cases hb; simp [RT] at hn
theorem RAt.q {B : Nat} {w w' : World} {r b : Nat} {tk N tk' put : Int} {L L' : List EntD} (h : RAt B w r tk L N) (hq : QAt w b tk' L' put) (hg : w.grownBy w' (some b)) : RAt B w' r tk L N := by
  obtain ⟨c, fr, h1, h2⟩ := hq
  exact h.grown hg h1 rfl
theorem QAt.frm {w w' : World} {b : Nat} {tk put : Int} {L : List EntD} {B : Nat} (h : QAt w b tk L put) (hf : Frm B RT w w') : QAt w' b tk L put := by
  obtain ⟨c, fr, h1, h2⟩ := h
  exact ⟨c, fr, (hf.block b (block_lt h1) (.inr fun c' t fz e => by rw [h1] at e; cases e; rfl)).trans h1, h2⟩
theorem RAt.lt {B : Nat} {w : World} {r : Nat} {tk N : Int} {L : List EntD} (h : RAt B w r tk L N) : r < w.heap.size := by
  obtain ⟨v, h1, _⟩ := h; exact block_lt h1

theorem build67 (tk : Int) (w : World) : (Instr.build 67 #[(0, .int .u64 tk)]).run Try.prog w = .ok (.agg #[.int .u64 tk, .slice none 0 0, .int .i64 0]) w := by
  simp [go_sem]

set_option maxHeartbeats 400000 in
theorem rnew_no (w : World) (tk : Int) (h : tk < 1 ∨ 4294967296 < tk) : Calls Try.prog 21 #[.int .u64 tk] w fun e w' => e = .returned (.tuple #[.pointer none, .int .i64 4]) ∧ w = w' := by
  rcases h with h | h
  · go_enter Try.func21, Try.ntmps21
    go_wp2
    go_ret2
    exact ⟨rfl, rfl⟩
  · have h' : ¬ tk < 1 := by omega
    go_enter Try.func21, Try.ntmps21
    go_wp2
    go_ret2
    exact ⟨rfl, rfl⟩
set_option maxHeartbeats 400000 in
theorem rnew_ok (B : Nat) (w : World) (hB : B ≤ w.heap.size) (tk : Int) (h0 : 1 ≤ tk) (h1 : tk ≤ 4294967296) : Calls Try.prog 21 #[.int .u64 tk] w fun e w' => ∃ r, e = .returned (.tuple #[.pointer (some ⟨r, 0, none⟩), .int .i64 0]) ∧ Below w.heap.size w w' ∧ RAt B w' r tk [] 0 := by
  have h0' : ¬ tk < 1 := by omega
  have h1' : ¬ 4294967296 < tk := by omega
  have HB := Lib.hid hB
  clear h0 h1 hB
  go_enter Try.func21, Try.ntmps21
  go_wp2_with ((with_reducible refine g_build 67 ?_); refine wpList_build1 rfl 67 0 _ rfl _ (build67 _ _) ?_)
  go_ret2
  exact ⟨w.heap.size, rfl, (Below.refl _ _).alloc (Nat.le_refl _) _, _, block_new w _, HB.out, SOwn.nil _ _ _ _, by simp, by simp⟩

/-- The cells of the object, in the world. -/
theorem RAt.open {B : Nat} {w : World} {r : Nat} {tk N : Int} {L : List EntD} (h : RAt B w r tk L N) :
    ∃ A cap, w.cell? ⟨r, 0, none⟩ = some (.int .u64 tk) ∧ w.cell? ⟨r, 1, none⟩ = some (.slice A L.length cap) ∧ w.cell? ⟨r, 2, none⟩ = some (.int .i64 N) ∧ L.length ≤ 256 ∧ (∀ e ∈ L, e.OK) ∧ SOwn w B 83 28 (.slice A L.length cap) L.length (entRows L).flatten ∧
      ∀ i e, L[i]? = some e → ∃ g off, A = some ⟨g, off, none⟩ ∧ w.rangeAt g (off + i * 28) e.cells ∧ g < w.heap.size := by
  obtain ⟨v, h1, h2, h3, h4, h5⟩ := h
  have hs := h3.sl (by simp [entRows]) (entRows_len L)
  obtain ⟨A, cap, rfl⟩ : ∃ A cap, v = .slice A L.length cap := by obtain ⟨_, A, cap, h, _⟩ := h3; exact ⟨A, cap, h⟩
  obtain ⟨A', cap', h6, h7, h8⟩ := hs
  obtain ⟨rfl, _, rfl⟩ := Value.slice.inj h6
  refine ⟨A, cap, ?_, ?_, ?_, h4, h5, h3, fun i e he => ?_⟩
  · rw [cell_of_row _ _ _ _ _ _ h1]; rfl
  · rw [cell_of_row _ _ _ _ _ _ h1]; rfl
  · rw [cell_of_row _ _ _ _ _ _ h1]; rfl
  · exact h8 i e.cells (by simp [entRows, he])

set_option maxHeartbeats 800000 in
theorem rold {B : Nat} {w : World} {r : Nat} {tk N : Int} {L : List EntD} (h : RAt B w r tk L N) (now by_ : Int) (hn0 : 0 ≤ now) (hn1 : now ≤ 18446744073709551615) :
    Calls Try.prog 44 #[.pointer (some ⟨r, 0, none⟩), .int .u64 now, .int .u64 by_] w fun e w' => e = .returned (.bool (oldB L now by_)) ∧ w = w' := by
  obtain ⟨A, cap, h0, h1, h2, h3, h4, _, h5⟩ := h.open
  cases L with
  | nil =>
    simp only [List.length_nil] at h1
    clear h h5 h4
    go_enter Try.func44, Try.ntmps44
    go_wp2
    go_ret
    exact ⟨rfl, rfl⟩
  | cons x L =>
    obtain ⟨g, off, rfl, hr, hg⟩ := h5 0 x rfl
    have hok := (h4 x (by simp)).1
    have hc : w.cell? ⟨g, off + 27, none⟩ = some (.int .u64 x.at_) := by simpa using hr 27 _ x.c27
    have hpos : (0 : Int) < (x :: L).length := by simp
    have hpos' : 0 < (x :: L).length := by simp
    generalize (x :: L).length = n at *
    clear h h5 h4 hr
    by_cases hlt : x.at_ ≤ now
    · have hw : IntKind.u64.wrap (now - x.at_) = now - x.at_ := IntWalk.u64_in _ (by omega)
      by_cases hge : by_ ≤ now - x.at_
      · have : oldB (x :: L) now by_ = true := by simp [oldB, hlt, hge]
        rw [this]
        clear this
        go_enter Try.func44, Try.ntmps44
        go_wp2
        go_ret
        exact ⟨rfl, rfl⟩
      · have : oldB (x :: L) now by_ = false := by simp [oldB, hlt, hge]
        rw [this]
        clear this
        go_enter Try.func44, Try.ntmps44
        go_wp2
        go_ret
        exact ⟨rfl, rfl⟩
    · have : oldB (x :: L) now by_ = false := by simp [oldB, hlt]
      rw [this]
      clear this
      go_enter Try.func44, Try.ntmps44
      go_wp2
      go_ret
      exact ⟨rfl, rfl⟩
end Go.Proofs.Ytgkjglpnnehdbaa
