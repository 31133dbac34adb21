/- The sum of deposits, as the program and as the page make it. -/
import Derived.Test.YtgkjglpnnehdbaaQ25
set_option linter.unusedVariables false
namespace Go.Proofs.Ytgkjglpnnehdbaa
open Go.RowKit Go.KK

def oneW (a : Int) : Nat → Int := fun i => if i = 0 then a else 0
theorem oneW_ok {a : Int} (h0 : 0 ≤ a) (h1 : a ≤ 18446744073709551615) : WordOK (oneW a) := fun i _ => by unfold oneW; split <;> omega
theorem addS_ok (x y : Nat → Int) : WordOK (addS x y) := fun i _ => by unfold addS; omega
theorem build29 (a : Int) (w : World) : (Instr.build 29 #[(0, .int .u64 a)]).run Try.prog w = .ok (.agg (wordC (oneW a))) w := by
  simp [go_sem]; rfl
/-- The deposits' sum, from acc on. -/
def depG : List EntD → (Nat → Int) → (Nat → Int)
  | [], a => a
  | e :: r, a => depG r (if e.op.x 0 = 2 then addS a (oneW (e.op.x 3)) else a)
def depL (L : List EntD) : Nat → Int := depG L fun _ => 0
structure DepW (v : Value) (L : List EntD) (w : World) (acc : Nat → Int) (wr : World) : Prop where
  below : Below w.heap.size w wr
  r : wr.heap[w.heap.size]? = some (.cells (wordC fun _ => 0) 29 (0, 0))
  s : wr.heap[w.heap.size + 1]? = some (.cells (wordC acc) 29 (0, 0))
  own : wr.ownsRow (w.heap.size + 2) 46 28 v L.length (entRows L).flatten
theorem DepW.ext {v : Value} {L : List EntD} {w wr wx : World} {acc : Nat → Int} (h : DepW v L w acc wr) (hx : Below wr.heap.size wr wx) : DepW v L w acc wx :=
  ⟨below_all h.below hx, block_below h.r hx, block_below h.s hx, own_below h.own hx⟩
theorem DepW.put {v : Value} {L : List EntD} {w wr : World} {acc : Nat → Int} (h : DepW v L w acc wr) (new : Nat → Int) : DepW v L w new (wr.setCells (w.heap.size + 1) 0 (wordC new).toList) := by
  have hg := setCells_grown (w := wr) (b := w.heap.size + 1) (wordC new).toList 0
  refine ⟨below_grown h.below h.below.size hg (by rintro _ ⟨rfl⟩; omega), ?_, setCells_whole h.s rfl, h.own.kept hg (.inr fun e => by have := (own_block h.own e).1; omega)⟩
  rw [hg.block _ (block_lt h.r) (fun e => by have := Option.some.inj e; omega)]; exact h.r
theorem wordC_one (f : Nat → Int) : (wordC f).all (·.oneCell') = true := by simp [wordC, Value.oneCell']
theorem QAt.oks {w : World} {b : Nat} {tk put : Int} {L : List EntD} (h : QAt w b tk L put) : ∀ e ∈ L, e.OK := by obtain ⟨c, fr, _, hc⟩ := h; exact hc.ok
set_option maxHeartbeats 2000000 in
theorem dep_q {w : World} {b : Nat} {tk put : Int} {L : List EntD} (hq : QAt w b tk L put) : Calls Try.prog 25 #[.pointer (some ⟨b, 0, none⟩)] w fun e w' => e = .returned (.agg (wordC (depL L))) ∧ Below w.heap.size w w' := by
  obtain ⟨h1, h2, h3, h4⟩ := alloc2 w (.cells (wordC fun _ => 0) 29) (.cells (wordC fun _ => 0) 29)
  have hQ := hq.below h1
  have hE := entries_q hQ
  have hlen := hq.len
  have HOK := Lib.hid hq.oks
  have HE := Lib.hid hE
  have H := Lib.hid (And.intro h1 (And.intro h2 (And.intro h3 h4)))
  clear h1 h2 h3 h4 hQ hE hq
  go_enter Try.func25, Try.ntmps25
  go_wp2_with fail
  go_at_call 14
  refine HE.out.mono ?_
  rintro e V ⟨v, rfl, hown, hV⟩
  obtain ⟨h1, h2, h3, h4⟩ := H.out
  have hD : DepW v L w (fun _ => 0) V := ⟨below_all h1 hV, block_below h3 hV, block_below h4 hV, own_base hown (Nat.le_of_eq h2.symm)⟩
  obtain ⟨A, cap, rfl⟩ : ∃ A cap, v = .slice A L.length cap := by
    obtain ⟨A, cap, h, _⟩ := own_sl hown (entRows_length L) (entRows_all L)
    rw [entRows_length] at h
    exact ⟨A, cap, h⟩
  have HD := Lib.hid hD
  clear h1 h2 h3 h4 hV hown hD HE H
  go_wp2_with fail
  go_loopw [9] (fun i wr => ∃ (k : Nat) (acc : Nat → Int), k ≤ L.length ∧ i = .int .i64 k ∧ WordOK acc ∧ depG (L.drop k) acc = depL L ∧ DepW (.slice A L.length cap) L w acc wr) (fun i _ => L.length - (intOf i).toNat)
  case atStart => exact ⟨0, fun _ => 0, by omega, rfl, fun i _ => ⟨by simp, by simp⟩, rfl, HD.out⟩
  case round =>
    obtain ⟨k, acc, hk, rfl, hacc, hgo, HW⟩ := hrel
    have HG := Lib.hid hgo
    have HWH := Lib.hid HW
    clear hgo
    by_cases hlt : k < L.length
    · have hx : L[k]? = some L[k] := List.getElem?_eq_getElem hlt
      have hdrop : L.drop k = L[k] :: L.drop (k + 1) := List.drop_eq_getElem_cons hlt
      have hok := HOK.out L[k] (List.getElem_mem hlt)
      obtain ⟨A', cap', h6, _, h7⟩ := own_sl HW.own (entRows_length L) (entRows_all L)
      rw [entRows_length] at h6
      obtain ⟨rfl, _, rfl⟩ := Value.slice.inj h6
      obtain ⟨ob, off, rfl, hr, hob⟩ := h7 k _ (entRows_get hx)
      have HR := Lib.hid hr
      have HDR := Lib.hid hdrop
      have c0 : L[k].cells[0]? = some (.int .i64 (L[k].op.x 0)) := rfl
      have c3 : L[k].cells[3]? = some (.int .u64 (L[k].op.x 3)) := rfl
      have hDW := HWH.out.ext ((Below.refl _ _).alloc (Nat.le_refl _) (.cells L[k].cells.toArray 46))
      have hs : ∀ j, j < 4 → wr.cell? ⟨w.heap.size + 1, j, none⟩ = some (.int .u64 (acc j)) := fun j hj => by
        rw [cell_of_row _ _ j _ 29 _ HWH.out.s, wordC_get _ j hj]
      have s0 := hs 0 (by omega)
      have s1 := hs 1 (by omega)
      have s2 := hs 2 (by omega)
      have s3 := hs 3 (by omega)
      have hl1 := block_lt HWH.out.s
      have HADD := Lib.hid (add_p hacc (oneW_ok hok.2.1 hok.2.2))
      have HDW := Lib.hid hDW
      clear HW h6 h7 hr hx hdrop hok hDW hs HD
      by_cases hkind : L[k].op.x 0 = 2
      · have HK := Lib.hid hkind
        rw [hkind] at c0
        clear hkind
        go_wp2_with (first
          | ((with_reducible refine g_load 46 ?_); refine wpList_load_mid rfl 46 _ rfl ob (off + k * 28) rfl L[k].cells _ HR.out tu46 rfl ts46 ?_)
          | ((with_reducible refine g_store 46 ?_); refine wpList_store_new rfl 46 _ _ rfl _ L[k].cells.toArray rfl rfl ts46 rfl (all_oneCell_toArray (EntD.one _)) ?_)
          | ((with_reducible refine g_build 29 ?_); refine wpList_build1 rfl 29 0 _ rfl _ (build29 _ _) ?_))
        refine (HADD.out _).mono ?_
        rintro e V ⟨rfl, hV⟩
        have hD2 := HDW.out.ext hV
        have hth : V.there (w.heap.size + 1) 0 (wordC (addS acc (oneW (L[k].op.x 3)))).size := there_block hD2.s 0 4 (by simp [wordC])
        have HTH := Lib.hid hth
        have HD2 := Lib.hid (hD2.put (addS acc (oneW (L[k].op.x 3))))
        clear hD2 hth hV s0 s1 s2 s3
        go_wp2_with ((with_reducible refine g_store 29 ?_); refine wpList_store_mid rfl 29 _ _ rfl (w.heap.size + 1) 0 (wordC (addS acc (oneW (L[k].op.x 3)))) rfl rfl HTH.out ts29 (wordC_one _) ?_)
        go_roundw
        case rel => exact ⟨k + 1, addS acc (oneW (L[k].op.x 3)), by omega, by go_num, addS_ok _ _, by rw [← HG.out, HDR.out, depG, if_pos HK.out], HD2.out⟩
        case measure => simp [intOf]; omega
      · have HK := Lib.hid hkind
        clear s0 s1 s2 s3
        go_wp2_with (first
          | ((with_reducible refine g_load 46 ?_); refine wpList_load_mid rfl 46 _ rfl ob (off + k * 28) rfl L[k].cells _ HR.out tu46 rfl ts46 ?_)
          | ((with_reducible refine g_store 46 ?_); refine wpList_store_new rfl 46 _ _ rfl _ L[k].cells.toArray rfl rfl ts46 rfl (all_oneCell_toArray (EntD.one _)) ?_))
        go_roundw
        case rel => exact ⟨k + 1, acc, by omega, by go_num, hacc, by rw [← HG.out, HDR.out, depG, if_neg HK.out], HDW.out⟩
        case measure => simp [intOf]; omega
    · obtain rfl : k = L.length := by omega
      have hs : ∀ j, j < 4 → wr.cell? ⟨w.heap.size + 1, j, none⟩ = some (.int .u64 (acc j)) := fun j hj => by
        rw [cell_of_row wr _ j _ 29 _ HWH.out.s, wordC_get _ j hj]
      have s0 := hs 0 (by omega)
      have s1 := hs 1 (by omega)
      have s2 := hs 2 (by omega)
      have s3 := hs 3 (by omega)
      have hth : wr.there w.heap.size 0 (wordC acc).size := there_block HWH.out.r 0 4 (by simp [wordC])
      have HTH := Lib.hid hth
      have hacc2 : acc = depL L := by rw [← HG.out, List.drop_length]; rfl
      have HA := Lib.hid hacc2
      clear hs hth hacc2 HW HD
      go_wp2_with ((with_reducible refine g_store 29 ?_); refine wpList_store_mid rfl 29 _ _ rfl w.heap.size 0 (wordC acc) rfl rfl HTH.out ts29 (wordC_one _) ?_)
      have g1 := setCells_whole (new := wordC acc) HWH.out.r rfl
      exact bodyPost_ret (results_cell_row rfl _ _ w.heap.size 29 (wordC acc) (0, 0) _ rfl g1 tu29 rfl ts29) rfl ⟨by rw [HA.out], below_grown HWH.out.below HWH.out.below.size (setCells_grown _ _) (by rintro _ ⟨rfl⟩; omega)⟩
end Go.Proofs.Ytgkjglpnnehdbaa
