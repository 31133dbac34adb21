/- Words of four: the sum, as the program and as the page make it. -/
import Derived.Test.YtgkjglpnnehdbaaQ21
import Derived.Laws.Externs
import Derived.Laws.ResultCell
set_option linter.unusedVariables false
namespace Go.Proofs.Ytgkjglpnnehdbaa
open Go.RowKit Go.KK

def wordC (f : Nat → Int) : Array Value := #[.int .u64 (f 0), .int .u64 (f 1), .int .u64 (f 2), .int .u64 (f 3)]
theorem wordC_get (f : Nat → Int) (k : Nat) (h : k < 4) : (wordC f)[k]? = some (.int .u64 (f k)) := by
  have : k = 0 ∨ k = 1 ∨ k = 2 ∨ k = 3 := by omega
  rcases this with rfl | rfl | rfl | rfl <;> rfl
theorem wordC_set (f : Nat → Int) (k : Nat) (h : k < 4) (v : Int) : (wordC f).setIfInBounds k (.int .u64 v) = wordC (fun i => if i = k then v else f i) := by
  have : k = 0 ∨ k = 1 ∨ k = 2 ∨ k = 3 := by omega
  rcases this with rfl | rfl | rfl | rfl <;> rfl
def WordOK (f : Nat → Int) : Prop := ∀ i, i < 4 → 0 ≤ f i ∧ f i ≤ 18446744073709551615
/-- The carry into place k, and the sum's place k. -/
def addC (x y : Nat → Int) : Nat → Int
  | 0 => 0
  | k + 1 => (x k + y k + addC x y k) / 18446744073709551616
def addS (x y : Nat → Int) (k : Nat) : Int := (x k + y k + addC x y k) % 18446744073709551616
theorem addC_bit {x y : Nat → Int} (hx : WordOK x) (hy : WordOK y) : ∀ k, k ≤ 4 → 0 ≤ addC x y k ∧ addC x y k ≤ 1
  | 0, _ => ⟨by simp [addC], by simp [addC]⟩
  | k + 1, hk => by
    have h1 := addC_bit hx hy k (by omega)
    have h2 := hx k (by omega)
    have h3 := hy k (by omega)
    rw [addC]
    omega
theorem add64_call (x y c : Int) (hx : 0 ≤ x) (hy : 0 ≤ y) (hc0 : 0 ≤ c) (hc : c ≤ 1) (w : World) :
    (callFunc 46 #[.int .u64 x, .int .u64 y, .int .u64 c]).run Try.prog w = .ok (.value (.tuple #[.int .u64 ((x + y + c) % 18446744073709551616), .int .u64 ((x + y + c) / 18446744073709551616)])) w := by
  rw [run_callFunc_extern (fn := Try.f46) (e := add64Entry) (by kernel_rfl) (by kernel_rfl) (by kernel_rfl) (by kernel_rfl) (by kernel_rfl), run_add64 x y c hx hy hc0 hc]
  rfl
theorem heap_alloc_get (w : World) (x : Obj) (i : Nat) : (w.alloc x).heap[i]? = if i = w.heap.size then some x else w.heap[i]? := by
  by_cases h : i = w.heap.size
  · subst h; rw [if_pos rfl]; exact heap_alloc_new w x
  · rw [if_neg h]
    show (w.heap.push x)[i]? = _
    rw [Array.getElem?_push, if_neg h]
theorem alloc4 (w : World) (A B C D : Obj) : let W := (((w.alloc A).alloc B).alloc C).alloc D; Below w.heap.size w W ∧ W.heap.size = w.heap.size + 4 ∧ W.heap[w.heap.size]? = some A ∧ W.heap[w.heap.size + 1]? = some B ∧ W.heap[w.heap.size + 1 + 1]? = some C ∧ W.heap[w.heap.size + 1 + 1 + 1]? = some D := by
  have s1 : (w.alloc A).heap.size = w.heap.size + 1 := by simp
  have s2 : ((w.alloc A).alloc B).heap.size = w.heap.size + 1 + 1 := by simp
  have s3 : (((w.alloc A).alloc B).alloc C).heap.size = w.heap.size + 1 + 1 + 1 := by simp
  refine ⟨((((Below.refl _ _).alloc (Nat.le_refl _) _).alloc (by omega) _).alloc (by omega) _).alloc (by omega) _, by simp, ?_, ?_, ?_, ?_⟩
  · rw [heap_alloc_get, if_neg (by omega), heap_alloc_get, if_neg (by omega), heap_alloc_get, if_neg (by omega), heap_alloc_get, if_pos rfl]
  · rw [heap_alloc_get, if_neg (by omega), heap_alloc_get, if_neg (by omega), heap_alloc_get, if_pos s1.symm]
  · rw [heap_alloc_get, if_neg (by omega), heap_alloc_get, if_pos s2.symm]
  · rw [heap_alloc_get, if_pos s3.symm]
/-- The blocks of a sum under way. -/
structure AddW (x y : Nat → Int) (w : World) (k : Nat) (wr : World) : Prop where
  below : Below w.heap.size w wr
  size : w.heap.size + 4 ≤ wr.heap.size
  a : wr.heap[w.heap.size]? = some (.cells (wordC x) 29 (0, 0))
  b : wr.heap[w.heap.size + 1]? = some (.cells (wordC y) 29 (0, 0))
  r : wr.heap[w.heap.size + 1 + 1]? = some (.cells (wordC fun _ => 0) 29 (0, 0))
  s : wr.heap[w.heap.size + 1 + 1 + 1]? = some (.cells (wordC fun i => if i < k then addS x y i else 0) 29 (0, 0))
theorem AddW.step {x y : Nat → Int} {w wr : World} {k : Nat} (h : AddW x y w k wr) (hk : k < 4) : AddW x y w (k + 1) (wr.drew.setCell ⟨w.heap.size + 1 + 1 + 1, k, none⟩ (.int .u64 (addS x y k))) := by
  have hd : wr.drew.heap = wr.heap := rfl
  have hg := setCell_grown (w := wr.drew) (w.heap.size + 1 + 1 + 1) k (.int .u64 (addS x y k))
  have hsz := h.size
  refine ⟨below_grown h.below.drew (by rw [hd]; omega) hg (by rintro _ ⟨rfl⟩; omega), by have := hg.size; rw [hd] at this; omega, ?_, ?_, ?_, ?_⟩
  · rw [hg.block _ (by rw [hd]; omega) (fun e => by have := Option.some.inj e; omega)]; exact h.a
  · rw [hg.block _ (by rw [hd]; omega) (fun e => by have := Option.some.inj e; omega)]; exact h.b
  · rw [hg.block _ (by rw [hd]; omega) (fun e => by have := Option.some.inj e; omega)]; exact h.r
  · rw [heap_setCell_same wr.drew _ k _ 29 _ h.s, wordC_set _ _ hk]
    congr 3
    funext i
    by_cases h1 : i = k
    · subst h1; simp
    · by_cases h2 : i < k
      · simp [h1, h2, Nat.lt_succ_of_lt h2]
      · simp [h1, h2]; omega
theorem results_cell_tmp_row {P : Program} {fn : Func} {p u : Tmp} {ty : TypeId} (h : fn.results = #[.cell p ty, .tmp u]) (tmps : Array Value) (w : World) (g : Nat) (t : TypeId) (cs : Array Value) (fr : Nat × Nat) (d : TypeDesc) (v : Value)
    (hp : tmps.getD p undef = .pointer (some ⟨g, 0, none⟩)) (hv : tmps.getD u undef = v) (hg : w.heap[g]? = some (.cells cs t fr))
    (hu : P.underlying ty = some d) (hd : (match d with | .struct _ | .array _ _ => true | _ => false) = true) (hi : (P.info? ty).map (·.size) = some cs.size) :
    (results fn tmps).run P w = .ok (.tuple #[.agg cs, v]) w := by
  rw [results_cell_tmp h, hp, hv]
  simp [asAddr, run_loadVar_row w g t ty cs fr d hg hu hd hi]
set_option maxHeartbeats 1000000 in
theorem add_p {x y : Nat → Int} (hx : WordOK x) (hy : WordOK y) (w : World) :
    Calls Try.prog 42 #[.agg (wordC x), .agg (wordC y)] w fun e w' => e = .returned (.tuple #[.agg (wordC (addS x y)), .int .u64 (addC x y 4)]) ∧ Below w.heap.size w w' := by
  go_enter Try.func42, Try.ntmps42
  go_wp2_with fail
  go_loopw [7, 8, 9] (fun c _ h wr => ∃ k : Nat, k ≤ 4 ∧ c = .int .u64 (addC x y k) ∧ h = .int .i64 k ∧ AddW x y w k wr) (fun _ _ h _ => 4 - (intOf h).toNat)
  case atStart =>
    obtain ⟨h1, h2, h3, h4, h5, h6⟩ := alloc4 w (.cells (wordC x) 29) (.cells (wordC y) 29) (.cells (wordC fun _ => 0) 29) (.cells (wordC fun _ => 0) 29)
    exact ⟨0, by omega, rfl, rfl, ⟨h1, Nat.le_of_eq h2.symm, h3, h4, h5, h6⟩⟩
  case round =>
    obtain ⟨k, hk, rfl, rfl, HW⟩ := hrel
    have hbit := addC_bit hx hy k hk
    by_cases hlt : k < 4
    · have hxk := hx k hlt
      have hyk := hy k hlt
      have hca : ∀ e : KeepOf wr (fun i => i == w.heap.size || i == w.heap.size + 1), e.wd.cell? ⟨w.heap.size, k, none⟩ = some (.int .u64 (x k)) := fun e => by
        rw [cell_of_row _ _ _ _ _ _ (e.block (by simp) HW.a)]; exact wordC_get x k hlt
      have hcb : ∀ e : KeepOf wr (fun i => i == w.heap.size || i == w.heap.size + 1), e.wd.cell? ⟨w.heap.size + 1, k, none⟩ = some (.int .u64 (y k)) := fun e => by
        rw [cell_of_row _ _ _ _ _ _ (e.block (by simp) HW.b)]; exact wordC_get y k hlt
      have hadd := add64_call (x k) (y k) (addC x y k) hxk.1 hyk.1 hbit.1 hbit.2
      have hcs : wr.drew.cell? ⟨w.heap.size + 1 + 1 + 1, k, none⟩ = some (.int .u64 0) := by
        rw [cell_of_row wr.drew _ k _ 29 _ HW.s, wordC_get _ k hlt, if_neg (Nat.lt_irrefl _)]
      have hfz : wr.drew.frozen? ⟨w.heap.size + 1 + 1 + 1, k, none⟩ = false := frozen_of_row wr.drew _ k _ 29 HW.s
      have hkI : (k : Int) < 4 := by omega
      have HWH := Lib.hid HW
      clear HW
      go_wp2_with fail
      refine wp_region_headtail (fun w' => ∃ e : KeepOf wr (fun i => i == w.heap.size || i == w.heap.size + 1), w' = e.wd) 14 [0, 1, 2, 3, 4, 5, 6, 7, 8, 9, 10, 11, 12] [13, 14] (by kernel_rfl) (by kernel_rfl) (fun d _ _ _ _ h => by cases d <;> exact h) (KeepOf.of fun _ _ => rfl) ?_
      simp only [List.map_cons, List.map_nil, List.getD_cons_zero, List.getD_cons_succ]
      iterate 13 (((with_reducible refine wpHead_step (fun K hK => ?_)); go_simp; refine hK _ ?_; clear hK K))
      refine wpHead_nil ?_
      clear hca hcb hadd
      have hS := HWH.out.step hlt
      have hKS : ∃ e : KeepOf wr (fun i => i == w.heap.size || i == w.heap.size + 1), wr.drew.setCell ⟨w.heap.size + 1 + 1 + 1, k, none⟩ (.int .u64 (addS x y k)) = e.wd := KeepOf.of fun i hi => by
        simp at hi
        rcases hi with rfl | rfl
        · rw [hS.a, HWH.out.a]
        · rw [hS.b, HWH.out.b]
      have HKS := Lib.hid hKS
      have HS := Lib.hid hS
      clear hKS hS
      (refine wpTail_of_list ?_; refine wpList_plain rfl (fun K hK => ?_); go_simp; refine hK _ _ ?_; clear hK K; refine wpList_end ⟨?_, ?_⟩)
      · exact fun _ => HKS.out
      (refine wpTail_of_list ?_; refine wpList_plain rfl (fun K hK => ?_); go_simp; refine hK _ _ ?_; clear hK K; refine wpList_end ⟨?_, ?_⟩)
      · exact fun h => absurd rfl h
      refine wpTail_nil ?_
      go_wp2_with fail
      go_roundw
      case rel => exact ⟨k + 1, by omega, rfl, by go_num, HS.out⟩
      case measure => simp [intOf]; omega
    · obtain rfl : k = 4 := by omega
      have hs : ∀ j, j < 4 → wr.cell? ⟨w.heap.size + 1 + 1 + 1, j, none⟩ = some (.int .u64 (addS x y j)) := fun j hj => by
        rw [cell_of_row wr _ j _ 29 _ HW.s, wordC_get _ j hj, if_pos hj]
      have hr : ∀ j, j < 4 → wr.cell? ⟨w.heap.size + 1 + 1, j, none⟩ = some (.int .u64 0) := fun j hj => by
        rw [cell_of_row wr _ j _ 29 _ HW.r, wordC_get _ j hj]
      have hfz : ∀ j, wr.frozen? ⟨w.heap.size + 1 + 1, j, none⟩ = false := fun j => frozen_of_row wr _ j _ 29 HW.r
      have s0 := hs 0 (by omega)
      have s1 := hs 1 (by omega)
      have s2 := hs 2 (by omega)
      have s3 := hs 3 (by omega)
      have r0 := hr 0 (by omega)
      have r1 := hr 1 (by omega)
      have r2 := hr 2 (by omega)
      have r3 := hr 3 (by omega)
      have HWH := Lib.hid HW
      clear HW hs hr
      go_wp2_with fail
      have g1 := heap_setCell_same wr _ 0 _ 29 (.int .u64 (addS x y 0)) HWH.out.r
      have g2 := heap_setCell_same _ _ 1 _ 29 (.int .u64 (addS x y 1)) g1
      have g3 := heap_setCell_same _ _ 2 _ 29 (.int .u64 (addS x y 2)) g2
      have g4 := heap_setCell_same _ _ 3 _ 29 (.int .u64 (addS x y 3)) g3
      have hG := grown_trans (grown_trans (grown_trans (setCell_grown (w := wr) (w.heap.size + 1 + 1) 0 (.int .u64 (addS x y 0))) (setCell_grown _ 1 (.int .u64 (addS x y 1)))) (setCell_grown _ 2 (.int .u64 (addS x y 2)))) (setCell_grown _ 3 (.int .u64 (addS x y 3)))
      exact bodyPost_ret (results_cell_tmp_row rfl _ _ (w.heap.size + 1 + 1) 29 (wordC (addS x y)) (0, 0) _ (.int .u64 (addC x y 4)) rfl rfl g4 tu29 rfl ts29) rfl ⟨rfl, below_grown HWH.out.below (by have := HWH.out.size; omega) hG (by rintro _ ⟨rfl⟩; omega)⟩
end Go.Proofs.Ytgkjglpnnehdbaa
