/- The page's join, walked. -/
import Derived.Test.YtgkjglpnnehdbaaQ23
set_option linter.unusedVariables false
namespace Go.Proofs.Ytgkjglpnnehdbaa
open Go.RowKit Go.KK

def joinF (f : Nat → Int) (i : Nat) : Int := f (2 * i + 1) * 4294967296 + f (2 * i)
def HalfOK (f : Nat → Int) : Prop := ∀ i, i < 8 → 0 ≤ f i ∧ f i ≤ 4294967295
theorem u64_or32 {x y : Int} (hx₀ : 0 ≤ x) (hx₁ : x ≤ 4294967295) (hy₀ : 0 ≤ y) (hy₁ : y ≤ 4294967295) : bits .or .u64 x (IntKind.u64.wrap (y * 4294967296)) = y * 4294967296 + x := by
  rw [IntWalk.u64_in _ (by omega)]
  have hc : bits .or .u64 x (y * 4294967296) = bits .or .u64 (y * 4294967296) x := by simp only [bits, BitVec.or_comm]
  rw [hc, bits_join .u64 64 (by decide) wraps_u64_64 32 _ x (by omega) (by omega) (by omega) hx₀ (by omega) (by omega)]
structure JoinW (f : Nat → Int) (g : Nat) (w : World) (k : Nat) (wr : World) : Prop where
  below : Below w.heap.size w wr
  size : w.heap.size + 2 ≤ wr.heap.size
  r : wr.heap[w.heap.size]? = some (.cells (wordC fun _ => 0) 29 (0, 0))
  s : wr.heap[w.heap.size + 1]? = some (.cells (wordC fun i => if i < k then joinF f i else 0) 29 (0, 0))
theorem alloc2 (w : World) (A B : Obj) : let W := (w.alloc A).alloc B; Below w.heap.size w W ∧ W.heap.size = w.heap.size + 2 ∧ W.heap[w.heap.size]? = some A ∧ W.heap[w.heap.size + 1]? = some B := by
  have s1 : (w.alloc A).heap.size = w.heap.size + 1 := by simp
  refine ⟨((Below.refl _ _).alloc (Nat.le_refl _) _).alloc (by omega) _, by simp, ?_, ?_⟩
  · rw [heap_alloc_get, if_neg (by omega), heap_alloc_get, if_pos rfl]
  · rw [heap_alloc_get, if_pos s1.symm]
theorem JoinW.step {f : Nat → Int} {g : Nat} {w wr wx : World} {k : Nat} (h : JoinW f g w k wr) (hx : Below wr.heap.size wr wx) (hk : k < 4) : JoinW f g w (k + 1) (wx.setCell ⟨w.heap.size + 1, k, none⟩ (.int .u64 (joinF f k))) := by
  have hg := setCell_grown (w := wx) (w.heap.size + 1) k (.int .u64 (joinF f k))
  have hsz := h.size
  have hxs := hx.size
  refine ⟨below_grown (below_all h.below hx) (by omega) hg (by rintro _ ⟨rfl⟩; omega), by have := hg.size; omega, ?_, ?_⟩
  · rw [hg.block _ (by omega) (fun e => by have := Option.some.inj e; omega)]; exact block_below h.r hx
  · rw [heap_setCell_same wx _ k _ 29 _ (block_below h.s hx), wordC_set _ _ hk]
    congr 3
    funext i
    by_cases h1 : i = k
    · subst h1; simp
    · by_cases h2 : i < k
      · simp [h1, h2, Nat.lt_succ_of_lt h2]
      · simp [h1, h2]; omega
set_option maxHeartbeats 1000000 in
theorem join_p {f : Nat → Int} (hf : HalfOK f) (g : Nat) (w : World) (hg : w.heap[g]? = some (.cells (halfC f) 88 (0, 0))) :
    Calls Try.prog 48 #[.slice (some ⟨g, 0, none⟩) 8 8] w fun e w' => e = .returned (.agg (wordC (joinF f))) ∧ Below w.heap.size w w' := by
  have HG := Lib.hid hg
  clear hg
  go_enter Try.func48, Try.ntmps48
  go_wp2_with fail
  go_loopw [4] (fun c wr => ∃ k : Nat, k ≤ 4 ∧ c = .int .i64 k ∧ JoinW f g w k wr) (fun h _ => 4 - (intOf h).toNat)
  case atStart =>
    obtain ⟨h1, h2, h3, h4⟩ := alloc2 w (.cells (wordC fun _ => 0) 29) (.cells (wordC fun _ => 0) 29)
    exact ⟨0, by omega, rfl, ⟨h1, Nat.le_of_eq h2.symm, h3, h4⟩⟩
  case round =>
    obtain ⟨k, hk, rfl, HW⟩ := hrel
    have HWH := Lib.hid HW
    by_cases hlt : k < 4
    · have hf0 := hf (2 * k) (by omega)
      have hf1 := hf (2 * k + 1) (by omega)
      have hgg := block_below HG.out HW.below
      have hc0 : ∀ e : ExtOf wr, e.wd.cell? ⟨g, 2 * k, none⟩ = some (.int .u64 (f (2 * k))) := fun e => by
        rw [cell_of_row _ _ _ _ _ _ (e.block hgg)]; exact halfC_get f _ (by omega)
      have hc1 : ∀ e : ExtOf wr, e.wd.cell? ⟨g, 2 * k + 1, none⟩ = some (.int .u64 (f (2 * k + 1))) := fun e => by
        rw [cell_of_row _ _ _ _ _ _ (e.block hgg)]; exact halfC_get f _ (by omega)
      have hkI : (k : Int) < 4 := by omega
      have hor := u64_or32 hf0.1 hf0.2 hf1.1 hf1.2
      have w1 : IntKind.i64.wrap (2 * (k : Int)) = 2 * k := IntWalk.i64_in _ (by omega)
      have w2 : IntKind.i64.wrap (2 * (k : Int) + 1) = 2 * k + 1 := IntWalk.i64_in _ (by omega)
      have p1 : (0 : Int) ≤ 2 * (k : Int) := by omega
      have p2 : (0 : Int) ≤ 2 * (k : Int) + 1 := by omega
      have p3 : 2 * (k : Int) < 8 := by omega
      have p4 : 2 * (k : Int) + 1 < 8 := by omega
      have t1 : (2 * (k : Int)).toNat = 2 * k := by omega
      have t2 : (2 * (k : Int) + 1).toNat = 2 * k + 1 := by omega
      have hs := HW.s
      have HS := Lib.hid hs
      clear HW hgg hs hf0 hf1
      go_wp2_with fail
      refine wp_region_ext_tail 15 (by kernel_rfl) (by kernel_rfl) ?_
      simp only [List.take_succ_cons, List.take_zero, List.drop_succ_cons, List.drop_zero]
      iterate 15 (quiet_step (fail))
      refine wpQuiet_nil ?_
      rintro _ ⟨e, rfl⟩
      have hss := block_below HS.out e.below
      have hcs : e.wd.cell? ⟨w.heap.size + 1, k, none⟩ = some (.int .u64 0) := by
        rw [cell_of_row _ _ k _ 29 _ hss, wordC_get _ k hlt, if_neg (Nat.lt_irrefl _)]
      have hfz : e.wd.frozen? ⟨w.heap.size + 1, k, none⟩ = false := frozen_of_row _ _ k _ 29 hss
      clear hss hc0 hc1 hor w1 w2 p1 p2 p3 p4 t1 t2
      go_wp2_with fail
      go_roundw
      case rel => exact ⟨k + 1, by omega, by go_num, HWH.out.step e.below hlt⟩
      case measure => simp [intOf]; omega
    · obtain rfl : k = 4 := by omega
      have hs : ∀ j, j < 4 → wr.cell? ⟨w.heap.size + 1, j, none⟩ = some (.int .u64 (joinF f j)) := fun j hj => by
        rw [cell_of_row wr _ j _ 29 _ HW.s, wordC_get _ j hj, if_pos hj]
      have hr : ∀ j, j < 4 → wr.cell? ⟨w.heap.size, j, none⟩ = some (.int .u64 0) := fun j hj => by
        rw [cell_of_row wr _ j _ 29 _ HW.r, wordC_get _ j hj]
      have hfz : ∀ j, wr.frozen? ⟨w.heap.size, j, none⟩ = false := fun j => frozen_of_row wr _ j _ 29 HW.r
      have s0 := hs 0 (by omega)
      have s1 := hs 1 (by omega)
      have s2 := hs 2 (by omega)
      have s3 := hs 3 (by omega)
      have r0 := hr 0 (by omega)
      have r1 := hr 1 (by omega)
      have r2 := hr 2 (by omega)
      have r3 := hr 3 (by omega)
      clear HW hs hr
      go_wp2_with fail
      have g1 := heap_setCell_same wr _ 0 _ 29 (.int .u64 (joinF f 0)) HWH.out.r
      have g2 := heap_setCell_same _ _ 1 _ 29 (.int .u64 (joinF f 1)) g1
      have g3 := heap_setCell_same _ _ 2 _ 29 (.int .u64 (joinF f 2)) g2
      have g4 := heap_setCell_same _ _ 3 _ 29 (.int .u64 (joinF f 3)) g3
      have hG := grown_trans (grown_trans (grown_trans (setCell_grown (w := wr) w.heap.size 0 (.int .u64 (joinF f 0))) (setCell_grown _ 1 (.int .u64 (joinF f 1)))) (setCell_grown _ 2 (.int .u64 (joinF f 2)))) (setCell_grown _ 3 (.int .u64 (joinF f 3)))
      exact bodyPost_ret (results_cell_row rfl _ _ w.heap.size 29 (wordC (joinF f)) (0, 0) _ rfl g4 tu29 rfl ts29) rfl ⟨rfl, below_grown HWH.out.below (by have := HWH.out.size; omega) hG (by rintro _ ⟨rfl⟩; omega)⟩
end Go.Proofs.Ytgkjglpnnehdbaa
