/- The page's sum of deposits, walked. -/
import Derived.Test.YtgkjglpnnehdbaaQ26
set_option linter.unusedVariables false
namespace Go.Proofs.Ytgkjglpnnehdbaa
open Go.RowKit Go.KK

structure RDepW (w : World) (acc : Nat → Int) (wr : World) : Prop where
  below : Below w.heap.size w wr
  r : wr.heap[w.heap.size]? = some (.cells (wordC fun _ => 0) 29 (0, 0))
  s : wr.heap[w.heap.size + 1]? = some (.cells (wordC acc) 29 (0, 0))
theorem RDepW.ext {w wr wx : World} {acc : Nat → Int} (h : RDepW w acc wr) (hx : Below wr.heap.size wr wx) : RDepW w acc wx :=
  ⟨below_all h.below hx, block_below h.r hx, block_below h.s hx⟩
theorem RDepW.put {w wr : World} {acc : Nat → Int} (h : RDepW w acc wr) (new : Nat → Int) : RDepW w new (wr.setCells (w.heap.size + 1) 0 (wordC new).toList) := by
  have hg := setCells_grown (w := wr) (b := w.heap.size + 1) (wordC new).toList 0
  refine ⟨below_grown h.below h.below.size hg (by rintro _ ⟨rfl⟩; omega), ?_, setCells_whole h.s rfl⟩
  rw [hg.block _ (block_lt h.r) (fun e => by have := Option.some.inj e; omega)]; exact h.r
set_option maxHeartbeats 2000000 in
theorem dep_r {B : Nat} {w : World} {r : Nat} {tk N : Int} {L : List EntD} (h : RAt B w r tk L N) : Calls Try.prog 26 #[.pointer (some ⟨r, 0, none⟩)] w fun e w' => e = .returned (.agg (wordC (depL L))) ∧ Below w.heap.size w w' := by
  obtain ⟨h1, h2, h3, h4⟩ := alloc2 w (.cells (wordC fun _ => 0) 29) (.cells (wordC fun _ => 0) 29)
  obtain ⟨A, cap, _, hc1, _, hlen, hok, _, hent⟩ := h.open
  have hD : RDepW w (fun _ => 0) ((w.alloc (.cells (wordC fun _ => 0) 29)).alloc (.cells (wordC fun _ => 0) 29)) := ⟨h1, h3, h4⟩
  have HOK := Lib.hid hok
  have HD := Lib.hid hD
  have HC := Lib.hid hc1
  have HE := Lib.hid hent
  clear h1 h2 h3 h4 hD h hok hc1 hent
  go_enter Try.func26, Try.ntmps26
  go_wp2_with fail
  go_loopw [4] (fun i wr => ∃ (k : Nat) (acc : Nat → Int), k ≤ L.length ∧ i = .int .i64 k ∧ WordOK acc ∧ depG (L.drop k) acc = depL L ∧ RDepW w acc wr) (fun i _ => L.length - (intOf i).toNat)
  case atStart => exact ⟨0, fun _ => 0, by omega, rfl, fun i _ => ⟨by simp, by simp⟩, rfl, HD.out⟩
  case round =>
    obtain ⟨k, acc, hk, rfl, hacc, hgo, HW⟩ := hrel
    have HG := Lib.hid hgo
    have HWH := Lib.hid HW
    clear hgo
    have hc1 : wr.cell? ⟨r, 1, none⟩ = some (.slice A L.length cap) := (HW.below.cell (World.block_lt_of_cell? w _ HC.out)).trans HC.out
    by_cases hlt : k < L.length
    · have hx : L[k]? = some L[k] := List.getElem?_eq_getElem hlt
      have hdrop : L.drop k = L[k] :: L.drop (k + 1) := List.drop_eq_getElem_cons hlt
      have hok := HOK.out L[k] (List.getElem_mem hlt)
      obtain ⟨g, off, rfl, hr, hgl⟩ := HE.out k _ hx
      have hrw : wr.rangeAt g (off + k * 28) L[k].cells := fun j v hv => (HW.below.cell (World.block_lt_of_cell? w _ (hr j v hv))).trans (hr j v hv)
      have HRW := Lib.hid hrw
      have hk0 : wr.cell? ⟨g, off + k * 28, none⟩ = some (.int .i64 (L[k].op.x 0)) := hrw 0 _ rfl
      have HDR := Lib.hid hdrop
      have HADD := Lib.hid (radd_p hacc (oneW_ok hok.2.1 hok.2.2))
      clear HW hr hx hdrop hok HD HE hrw
      by_cases hkind : L[k].op.x 0 = 2
      · have HK := Lib.hid hkind
        rw [hkind] at hk0
        have HC1 := Lib.hid hc1
        clear hkind
        go_wp2_with fail
        clear hc1 hk0
        have hc1 : ∀ e : ExtOf wr, e.wd.cell? ⟨r, 1, none⟩ = some (.slice (some ⟨g, off, none⟩) L.length cap) := fun e => e.cell HC1.out
        have hk3 : ∀ e : ExtOf wr, e.wd.cell? ⟨g, off + k * 28 + 3, none⟩ = some (.int .u64 (L[k].op.x 3)) := fun e => e.cell (HRW.out 3 _ rfl)
        have hacr : ∀ e : ExtOf wr, e.wd.rangeAt (w.heap.size + 1) 0 (wordC acc).toList := fun e => range_block (e.block HWH.out.s)
        have HAC := Lib.hid hacr
        clear hacr
        refine wp_region_headany (fun w' => ∃ e : ExtOf wr, w' = e.wd) 15 [0, 1, 2, 3, 4, 5, 6, 7, 8, 9, 10] 5 (by kernel_rfl) (by kernel_rfl) (fun d _ _ _ _ h => by cases d <;> exact h) ⟨⟨wr.drew, (Below.refl _ _).drew⟩, rfl⟩ ?_
        simp only [List.map_cons, List.map_nil, List.getD_cons_zero, List.getD_cons_succ]
        refine wpHead_loade rfl 29 _ rfl (w.heap.size + 1) 0 rfl (wordC acc).toList _ HAC.out tu29 rfl ts29 ?_
        iterate 9 (((with_reducible refine wpHead_step (fun K hK => ?_)); go_simp; refine hK _ ?_; clear hK K))
        refine wpHead_build1 rfl 29 0 _ rfl _ (build29 _) ?_
        refine wpHead_nil ?_
        have hWd : Below wr.heap.size wr wr.drew := (Below.refl _ _).drew
        generalize wr.drew = V0 at *
        clear hc1 hk3
        refine wpAnyT_ready (rs := [11]) (by kernel_rfl) (by decide) ?_
        refine AllT.cons rfl ?_ AllT.nil
        refine wpList_plain rfl (fun K hK => ?_)
        go_simp
        go_at_call 43
        refine (HADD.out _).mono ?_
        rintro e V ⟨rfl, hV⟩
        have hWV := below_all hWd hV
        refine hK _ _ ?_
        clear hK K
        refine wpList_end ⟨fun _ _ => IsExt.of hWV, ?_⟩
        refine wpAnyT_ready (rs := [12]) (by kernel_rfl) (by decide) ?_
        refine AllT.cons rfl ?_ AllT.nil
        refine wpList_plain rfl (fun K hK => ?_)
        go_simp
        refine hK _ _ ?_
        clear hK K
        refine wpList_end ⟨fun _ _ => IsExt.of hWV, ?_⟩
        have hD2 := HWH.out.ext hWV
        have hth : V.there (w.heap.size + 1) 0 (wordC (addS acc (oneW (L[k].op.x 3)))).size := there_block hD2.s 0 4 (by simp [wordC])
        have HTH := Lib.hid hth
        have HD2 := Lib.hid (hD2.put (addS acc (oneW (L[k].op.x 3))))
        clear hD2 hth hV hWd
        refine wpAnyT_ready (rs := [13, 14]) (by kernel_rfl) (by decide) ?_
        refine AllT.cons rfl ?_ ?_
        · skip
          refine wpList_plain rfl (fun K hK => ?_)
          go_simp
          refine hK _ _ ?_
          clear hK K
          refine wpList_end ⟨fun _ _ => IsExt.of hWV, ?_⟩
          refine wpAnyT_ready (rs := [14, 15]) (by kernel_rfl) (by decide) ?_
          refine AllT.cons rfl ?_ ?_
          · skip
            refine wpList_plain rfl (fun K hK => ?_)
            go_simp
            refine hK _ _ ?_
            clear hK K
            refine wpList_end ⟨fun _ _ => IsExt.of hWV, ?_⟩
            refine wpAnyT_ready (rs := [15]) (by kernel_rfl) (by decide) ?_
            refine AllT.cons rfl ?_ ?_
            · skip
              refine wpList_store_mid rfl 29 _ _ rfl (w.heap.size + 1) 0 (wordC (addS acc (oneW (L[k].op.x 3)))) rfl rfl HTH.out ts29 (wordC_one _) ?_
              refine wpList_end ⟨fun h _ => absurd rfl h, ?_⟩
              refine wpAnyT_done (by kernel_rfl) ?_
              go_wp2_with fail
              go_roundw
              case rel => exact ⟨k + 1, addS acc (oneW (L[k].op.x 3)), by omega, by go_num, addS_ok _ _, by rw [← HG.out, HDR.out, depG, if_pos HK.out], HD2.out⟩
              case measure => simp [intOf]; omega
            exact AllT.nil
          refine AllT.cons rfl ?_ ?_
          · skip
            refine wpList_store_mid rfl 29 _ _ rfl (w.heap.size + 1) 0 (wordC (addS acc (oneW (L[k].op.x 3)))) rfl rfl HTH.out ts29 (wordC_one _) ?_
            refine wpList_end ⟨fun h _ => absurd rfl h, ?_⟩
            refine wpAnyT_ready (rs := [14]) (by kernel_rfl) (by decide) ?_
            refine AllT.cons rfl ?_ ?_
            · skip
              refine wpList_plain rfl (fun K hK => ?_)
              go_simp
              refine hK _ _ ?_
              clear hK K
              refine wpList_end ⟨fun _ h => absurd h (by decide), ?_⟩
              refine wpAnyT_done (by kernel_rfl) ?_
              go_wp2_with fail
              go_roundw
              case rel => exact ⟨k + 1, addS acc (oneW (L[k].op.x 3)), by omega, by go_num, addS_ok _ _, by rw [← HG.out, HDR.out, depG, if_pos HK.out], HD2.out⟩
              case measure => simp [intOf]; omega
            exact AllT.nil
          exact AllT.nil
        refine AllT.cons rfl ?_ ?_
        · skip
          refine wpList_plain rfl (fun K hK => ?_)
          go_simp
          refine hK _ _ ?_
          clear hK K
          refine wpList_end ⟨fun _ _ => IsExt.of hWV, ?_⟩
          refine wpAnyT_ready (rs := [13]) (by kernel_rfl) (by decide) ?_
          refine AllT.cons rfl ?_ ?_
          · skip
            refine wpList_plain rfl (fun K hK => ?_)
            go_simp
            refine hK _ _ ?_
            clear hK K
            refine wpList_end ⟨fun _ _ => IsExt.of hWV, ?_⟩
            refine wpAnyT_ready (rs := [15]) (by kernel_rfl) (by decide) ?_
            refine AllT.cons rfl ?_ ?_
            · skip
              refine wpList_store_mid rfl 29 _ _ rfl (w.heap.size + 1) 0 (wordC (addS acc (oneW (L[k].op.x 3)))) rfl rfl HTH.out ts29 (wordC_one _) ?_
              refine wpList_end ⟨fun h _ => absurd rfl h, ?_⟩
              refine wpAnyT_done (by kernel_rfl) ?_
              go_wp2_with fail
              go_roundw
              case rel => exact ⟨k + 1, addS acc (oneW (L[k].op.x 3)), by omega, by go_num, addS_ok _ _, by rw [← HG.out, HDR.out, depG, if_pos HK.out], HD2.out⟩
              case measure => simp [intOf]; omega
            exact AllT.nil
          exact AllT.nil
        exact AllT.nil
      · have HK := Lib.hid hkind
        have hkb : (L[k].op.x 0 == 2) = false := by simpa using hkind
        go_wp2_with fail
        go_roundw
        case rel => exact ⟨k + 1, acc, by omega, by go_num, hacc, by rw [← HG.out, HDR.out, depG, if_neg HK.out], HWH.out⟩
        case measure => simp [intOf]; omega
    · obtain rfl : k = L.length := by omega
      have hs : ∀ j, j < 4 → wr.cell? ⟨w.heap.size + 1, j, none⟩ = some (.int .u64 (acc j)) := fun j hj => by
        rw [cell_of_row wr _ j _ 29 _ HWH.out.s, wordC_get _ j hj]
      have s0 := hs 0 (by omega)
      have s1 := hs 1 (by omega)
      have s2 := hs 2 (by omega)
      have s3 := hs 3 (by omega)
      have hth : wr.there w.heap.size 0 (wordC acc).size := there_block HWH.out.r 0 4 (by simp [wordC])
      have HTH := Lib.hid hth
      have hacc2 : acc = depL L := by rw [← HG.out, List.drop_length]; rfl
      have HA := Lib.hid hacc2
      clear hs hth hacc2 HW HD HE
      go_wp2_with ((with_reducible refine g_store 29 ?_); refine wpList_store_mid rfl 29 _ _ rfl w.heap.size 0 (wordC acc) rfl rfl HTH.out ts29 (wordC_one _) ?_)
      have g1 := setCells_whole (new := wordC acc) HWH.out.r rfl
      exact bodyPost_ret (results_cell_row rfl _ _ w.heap.size 29 (wordC acc) (0, 0) _ rfl g1 tu29 rfl ts29) rfl ⟨by rw [HA.out], below_grown HWH.out.below HWH.out.below.size (setCells_grown _ _) (by rintro _ ⟨rfl⟩; omega)⟩
end Go.Proofs.Ytgkjglpnnehdbaa
