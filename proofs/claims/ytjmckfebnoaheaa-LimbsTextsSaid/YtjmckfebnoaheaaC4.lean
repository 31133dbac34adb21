/- The page's difference, walked. -/
import Derived.Test.YtjmckfebnoaheaaC3
set_option linter.unusedVariables false
namespace Go.Proofs.Ytjmckfebnoaheaa
open Go.RowKit Go.KK Go.Lm

set_option maxHeartbeats 4000000 in
theorem rsub_p (x y : Int) (w : World) :
    Calls Try.prog 12 #[.agg (W x), .agg (W y)] w fun e w' => e = .returned (.tuple #[.agg (W (x - y)), .int .u64 (b64 x y 4)]) ∧ Below w.heap.size w w' := by
  have H0 := (((Blks.nil w).alloc (W x) 24 rfl).alloc (W y) 24 (b := w.heap.size + 1) (by simp)).alloc Z4 24 (b := w.heap.size + 1 + 1) (by simp)
  have HB0 := Lib.hid H0
  clear H0
  go_enter Try.func12, Try.ntmps12
  go_upto_region 1 with (fail)
  go_cut [6, 7] from 12 (fun p q wx => ∃ b6 b7, p = .pointer (some ⟨b6, 0, none⟩) ∧ q = .pointer (some ⟨b7, 0, none⟩) ∧ Blks w ([(w.heap.size, W x, 24), (w.heap.size + 1, W y, 24), (w.heap.size + 1 + 1, Z4, 24)] ++ [(b6, H8 x, 59), (b7, H8 y, 59)]) wx)
  case first =>
    have HB : Hid (Blks w [(w.heap.size, W x, 24), (w.heap.size + 1, W y, 24), (w.heap.size + 1 + 1, Z4, 24)] (((w.alloc (Obj.cells (W x) 24)).alloc (Obj.cells (W y) 24)).alloc (Obj.cells Z4 24))) := HB0
    clear HB0
    change Code.wp _ _ _ _ (((w.alloc (Obj.cells (W x) 24)).alloc (Obj.cells (W y) 24)).alloc (Obj.cells Z4 24))
    generalize ((w.alloc (Obj.cells (W x) 24)).alloc (Obj.cells (W y) 24)).alloc (Obj.cells Z4 24) = W0 at *
    have HCX : Hid (∀ e : ExtOf W0, e.wd.rangeAt w.heap.size 0 (W x).toList) := Lib.hid fun e => (HB.out.ext e.below).range 0 rfl
    have HCY : Hid (∀ e : ExtOf W0, e.wd.rangeAt (w.heap.size + 1) 0 (W y).toList) := Lib.hid fun e => (HB.out.ext e.below).range 1 rfl
    refine wp_region_headany (fun w' => ∃ e : ExtOf W0, w' = e.wd) 7 [0, 2] 6 (by kernel_rfl) (by kernel_rfl) (fun d _ _ _ _ h => by cases d <;> exact h) ⟨⟨W0.drew, (Below.refl _ _).drew⟩, rfl⟩ ?_
    simp only [List.map_cons, List.map_nil, List.getD_cons_zero, List.getD_cons_succ]
    refine wpHead_loade rfl 24 _ rfl w.heap.size 0 rfl (W x).toList _ HCX.out tu24 rfl ts24 ?_
    refine wpHead_loade rfl 24 _ rfl (w.heap.size + 1) 0 rfl (W y).toList _ HCY.out tu24 rfl ts24 ?_
    refine wpHead_nil ?_
    have T : Two W0 none none W0.drew := ⟨(Below.refl _ _).drew, by simp, by simp, by simp⟩
    clear HCX HCY
    generalize W0.drew = V0 at *
    refine wpAnyT_ready (rs := [1, 4, 5]) (by kernel_rfl) (by decide) ?_
    refine AllT.cons rfl ?_ ?_
    · skip
      refine wpList_plain rfl (fun K hK => ?_)
      go_simp
      go_at_call 41
      refine (halves_p x _).mono ?_
      rintro e V1 ⟨rfl, hb⟩
      refine hK _ _ ?_
      clear hK K
      have T := T.call hb
      refine wpList_end ⟨fun _ _ => IsExt.of T.e, ?_⟩
      clear hb
      refine wpAnyT_ready (rs := [3, 4, 5]) (by kernel_rfl) (by decide) ?_
      refine AllT.cons rfl ?_ ?_
      · skip
        refine wpList_plain rfl (fun K hK => ?_)
        go_simp
        go_at_call 41
        refine (halves_p y _).mono ?_
        rintro e V2 ⟨rfl, hb⟩
        refine hK _ _ ?_
        clear hK K
        have T := T.call hb
        refine wpList_end ⟨fun _ _ => IsExt.of T.e, ?_⟩
        clear hb
        refine wpAnyT_ready (rs := [4, 5]) (by kernel_rfl) (by decide) ?_
        refine AllT.cons rfl ?_ ?_
        · skip
          refine al59 rfl rfl ?_
          have T := T.alloc_p
          refine wpList_end ⟨fun _ _ => IsExt.of T.e, ?_⟩
          generalize V2.alloc (.cells Z8 59) = V3 at *
          generalize V2.heap.size = b6 at *
          refine wpAnyT_ready (rs := [5]) (by kernel_rfl) (by decide) ?_
          refine AllT.cons rfl ?_ ?_
          · skip
            refine al59 rfl rfl ?_
            have T := T.alloc_q
            refine wpList_end ⟨fun _ _ => IsExt.of T.e, ?_⟩
            generalize V3.alloc (.cells Z8 59) = V4 at *
            generalize V3.heap.size = b7 at *
            refine wpAnyT_ready (rs := [6]) (by kernel_rfl) (by decide) ?_
            refine AllT.cons rfl ?_ ?_
            · skip
              refine wpList_store_mid rfl 59 _ _ rfl b6 0 (H8 x) rfl rfl (there_block ((T.hp _ rfl).1) 0 8 (by simp [Z8, nums_size])) ts59 (H8_one _) ?_
              have T := T.store (x := x)
              refine wpList_end ⟨fun _ _ => IsExt.of T.e, ?_⟩
              generalize V4.setCells b6 0 (H8 x).toList = V5 at *
              refine wpAnyT_ready (rs := [7]) (by kernel_rfl) (by decide) ?_
              refine AllT.cons rfl ?_ ?_
              · skip
                refine wpList_store_mid rfl 59 _ _ rfl b7 0 (H8 y) rfl rfl (there_block (T.hq) 0 8 (by simp [Z8, nums_size])) ts59 (H8_one _) ?_
                have T := T.store (y := y) HB.out
                refine wpList_end ⟨fun h _ => absurd rfl h, ?_⟩
                generalize V5.setCells b7 0 (H8 y).toList = V6 at *
                refine wpAnyT_done (by kernel_rfl) ?_
                go_wp2_with fail
                go_meet
                exact ⟨_, _, rfl, rfl, T⟩
              exact AllT.nil
            exact AllT.nil
          exact AllT.nil
        refine AllT.cons rfl ?_ ?_
        · skip
          refine al59 rfl rfl ?_
          have T := T.alloc_q
          refine wpList_end ⟨fun _ _ => IsExt.of T.e, ?_⟩
          generalize V2.alloc (.cells Z8 59) = V3 at *
          generalize V2.heap.size = b7 at *
          refine wpAnyT_ready (rs := [4]) (by kernel_rfl) (by decide) ?_
          refine AllT.cons rfl ?_ ?_
          · skip
            refine al59 rfl rfl ?_
            have T := T.alloc_p
            refine wpList_end ⟨fun _ _ => IsExt.of T.e, ?_⟩
            generalize V3.alloc (.cells Z8 59) = V4 at *
            generalize V3.heap.size = b6 at *
            refine wpAnyT_ready (rs := [6]) (by kernel_rfl) (by decide) ?_
            refine AllT.cons rfl ?_ ?_
            · skip
              refine wpList_store_mid rfl 59 _ _ rfl b6 0 (H8 x) rfl rfl (there_block ((T.hp _ rfl).1) 0 8 (by simp [Z8, nums_size])) ts59 (H8_one _) ?_
              have T := T.store (x := x)
              refine wpList_end ⟨fun _ _ => IsExt.of T.e, ?_⟩
              generalize V4.setCells b6 0 (H8 x).toList = V5 at *
              refine wpAnyT_ready (rs := [7]) (by kernel_rfl) (by decide) ?_
              refine AllT.cons rfl ?_ ?_
              · skip
                refine wpList_store_mid rfl 59 _ _ rfl b7 0 (H8 y) rfl rfl (there_block (T.hq) 0 8 (by simp [Z8, nums_size])) ts59 (H8_one _) ?_
                have T := T.store (y := y) HB.out
                refine wpList_end ⟨fun h _ => absurd rfl h, ?_⟩
                generalize V5.setCells b7 0 (H8 y).toList = V6 at *
                refine wpAnyT_done (by kernel_rfl) ?_
                go_wp2_with fail
                go_meet
                exact ⟨_, _, rfl, rfl, T⟩
              exact AllT.nil
            exact AllT.nil
          exact AllT.nil
        exact AllT.nil
      refine AllT.cons rfl ?_ ?_
      · skip
        refine al59 rfl rfl ?_
        have T := T.alloc_p
        refine wpList_end ⟨fun _ _ => IsExt.of T.e, ?_⟩
        generalize V1.alloc (.cells Z8 59) = V2 at *
        generalize V1.heap.size = b6 at *
        refine wpAnyT_ready (rs := [3, 5]) (by kernel_rfl) (by decide) ?_
        refine AllT.cons rfl ?_ ?_
        · skip
          refine wpList_plain rfl (fun K hK => ?_)
          go_simp
          go_at_call 41
          refine (halves_p y _).mono ?_
          rintro e V3 ⟨rfl, hb⟩
          refine hK _ _ ?_
          clear hK K
          have T := T.call hb
          refine wpList_end ⟨fun _ _ => IsExt.of T.e, ?_⟩
          clear hb
          refine wpAnyT_ready (rs := [5]) (by kernel_rfl) (by decide) ?_
          refine AllT.cons rfl ?_ ?_
          · skip
            refine al59 rfl rfl ?_
            have T := T.alloc_q
            refine wpList_end ⟨fun _ _ => IsExt.of T.e, ?_⟩
            generalize V3.alloc (.cells Z8 59) = V4 at *
            generalize V3.heap.size = b7 at *
            refine wpAnyT_ready (rs := [6]) (by kernel_rfl) (by decide) ?_
            refine AllT.cons rfl ?_ ?_
            · skip
              refine wpList_store_mid rfl 59 _ _ rfl b6 0 (H8 x) rfl rfl (there_block ((T.hp _ rfl).1) 0 8 (by simp [Z8, nums_size])) ts59 (H8_one _) ?_
              have T := T.store (x := x)
              refine wpList_end ⟨fun _ _ => IsExt.of T.e, ?_⟩
              generalize V4.setCells b6 0 (H8 x).toList = V5 at *
              refine wpAnyT_ready (rs := [7]) (by kernel_rfl) (by decide) ?_
              refine AllT.cons rfl ?_ ?_
              · skip
                refine wpList_store_mid rfl 59 _ _ rfl b7 0 (H8 y) rfl rfl (there_block (T.hq) 0 8 (by simp [Z8, nums_size])) ts59 (H8_one _) ?_
                have T := T.store (y := y) HB.out
                refine wpList_end ⟨fun h _ => absurd rfl h, ?_⟩
                generalize V5.setCells b7 0 (H8 y).toList = V6 at *
                refine wpAnyT_done (by kernel_rfl) ?_
                go_wp2_with fail
                go_meet
                exact ⟨_, _, rfl, rfl, T⟩
              exact AllT.nil
            exact AllT.nil
          exact AllT.nil
        refine AllT.cons rfl ?_ ?_
        · skip
          refine al59 rfl rfl ?_
          have T := T.alloc_q
          refine wpList_end ⟨fun _ _ => IsExt.of T.e, ?_⟩
          generalize V2.alloc (.cells Z8 59) = V3 at *
          generalize V2.heap.size = b7 at *
          refine wpAnyT_ready (rs := [3]) (by kernel_rfl) (by decide) ?_
          refine AllT.cons rfl ?_ ?_
          · skip
            refine wpList_plain rfl (fun K hK => ?_)
            go_simp
            go_at_call 41
            refine (halves_p y _).mono ?_
            rintro e V4 ⟨rfl, hb⟩
            refine hK _ _ ?_
            clear hK K
            have T := T.call hb
            refine wpList_end ⟨fun _ _ => IsExt.of T.e, ?_⟩
            clear hb
            refine wpAnyT_ready (rs := [6]) (by kernel_rfl) (by decide) ?_
            refine AllT.cons rfl ?_ ?_
            · skip
              refine wpList_store_mid rfl 59 _ _ rfl b6 0 (H8 x) rfl rfl (there_block ((T.hp _ rfl).1) 0 8 (by simp [Z8, nums_size])) ts59 (H8_one _) ?_
              have T := T.store (x := x)
              refine wpList_end ⟨fun _ _ => IsExt.of T.e, ?_⟩
              generalize V4.setCells b6 0 (H8 x).toList = V5 at *
              refine wpAnyT_ready (rs := [7]) (by kernel_rfl) (by decide) ?_
              refine AllT.cons rfl ?_ ?_
              · skip
                refine wpList_store_mid rfl 59 _ _ rfl b7 0 (H8 y) rfl rfl (there_block (T.hq) 0 8 (by simp [Z8, nums_size])) ts59 (H8_one _) ?_
                have T := T.store (y := y) HB.out
                refine wpList_end ⟨fun h _ => absurd rfl h, ?_⟩
                generalize V5.setCells b7 0 (H8 y).toList = V6 at *
                refine wpAnyT_done (by kernel_rfl) ?_
                go_wp2_with fail
                go_meet
                exact ⟨_, _, rfl, rfl, T⟩
              exact AllT.nil
            exact AllT.nil
          exact AllT.nil
        exact AllT.nil
      refine AllT.cons rfl ?_ ?_
      · skip
        refine al59 rfl rfl ?_
        have T := T.alloc_q
        refine wpList_end ⟨fun _ _ => IsExt.of T.e, ?_⟩
        generalize V1.alloc (.cells Z8 59) = V2 at *
        generalize V1.heap.size = b7 at *
        refine wpAnyT_ready (rs := [3, 4]) (by kernel_rfl) (by decide) ?_
        refine AllT.cons rfl ?_ ?_
        · skip
          refine wpList_plain rfl (fun K hK => ?_)
          go_simp
          go_at_call 41
          refine (halves_p y _).mono ?_
          rintro e V3 ⟨rfl, hb⟩
          refine hK _ _ ?_
          clear hK K
          have T := T.call hb
          refine wpList_end ⟨fun _ _ => IsExt.of T.e, ?_⟩
          clear hb
          refine wpAnyT_ready (rs := [4]) (by kernel_rfl) (by decide) ?_
          refine AllT.cons rfl ?_ ?_
          · skip
            refine al59 rfl rfl ?_
            have T := T.alloc_p
            refine wpList_end ⟨fun _ _ => IsExt.of T.e, ?_⟩
            generalize V3.alloc (.cells Z8 59) = V4 at *
            generalize V3.heap.size = b6 at *
            refine wpAnyT_ready (rs := [6]) (by kernel_rfl) (by decide) ?_
            refine AllT.cons rfl ?_ ?_
            · skip
              refine wpList_store_mid rfl 59 _ _ rfl b6 0 (H8 x) rfl rfl (there_block ((T.hp _ rfl).1) 0 8 (by simp [Z8, nums_size])) ts59 (H8_one _) ?_
              have T := T.store (x := x)
              refine wpList_end ⟨fun _ _ => IsExt.of T.e, ?_⟩
              generalize V4.setCells b6 0 (H8 x).toList = V5 at *
              refine wpAnyT_ready (rs := [7]) (by kernel_rfl) (by decide) ?_
              refine AllT.cons rfl ?_ ?_
              · skip
                refine wpList_store_mid rfl 59 _ _ rfl b7 0 (H8 y) rfl rfl (there_block (T.hq) 0 8 (by simp [Z8, nums_size])) ts59 (H8_one _) ?_
                have T := T.store (y := y) HB.out
                refine wpList_end ⟨fun h _ => absurd rfl h, ?_⟩
                generalize V5.setCells b7 0 (H8 y).toList = V6 at *
                refine wpAnyT_done (by kernel_rfl) ?_
                go_wp2_with fail
                go_meet
                exact ⟨_, _, rfl, rfl, T⟩
              exact AllT.nil
            exact AllT.nil
          exact AllT.nil
        refine AllT.cons rfl ?_ ?_
        · skip
          refine al59 rfl rfl ?_
          have T := T.alloc_p
          refine wpList_end ⟨fun _ _ => IsExt.of T.e, ?_⟩
          generalize V2.alloc (.cells Z8 59) = V3 at *
          generalize V2.heap.size = b6 at *
          refine wpAnyT_ready (rs := [3]) (by kernel_rfl) (by decide) ?_
          refine AllT.cons rfl ?_ ?_
          · skip
            refine wpList_plain rfl (fun K hK => ?_)
            go_simp
            go_at_call 41
            refine (halves_p y _).mono ?_
            rintro e V4 ⟨rfl, hb⟩
            refine hK _ _ ?_
            clear hK K
            have T := T.call hb
            refine wpList_end ⟨fun _ _ => IsExt.of T.e, ?_⟩
            clear hb
            refine wpAnyT_ready (rs := [6]) (by kernel_rfl) (by decide) ?_
            refine AllT.cons rfl ?_ ?_
            · skip
              refine wpList_store_mid rfl 59 _ _ rfl b6 0 (H8 x) rfl rfl (there_block ((T.hp _ rfl).1) 0 8 (by simp [Z8, nums_size])) ts59 (H8_one _) ?_
              have T := T.store (x := x)
              refine wpList_end ⟨fun _ _ => IsExt.of T.e, ?_⟩
              generalize V4.setCells b6 0 (H8 x).toList = V5 at *
              refine wpAnyT_ready (rs := [7]) (by kernel_rfl) (by decide) ?_
              refine AllT.cons rfl ?_ ?_
              · skip
                refine wpList_store_mid rfl 59 _ _ rfl b7 0 (H8 y) rfl rfl (there_block (T.hq) 0 8 (by simp [Z8, nums_size])) ts59 (H8_one _) ?_
                have T := T.store (y := y) HB.out
                refine wpList_end ⟨fun h _ => absurd rfl h, ?_⟩
                generalize V5.setCells b7 0 (H8 y).toList = V6 at *
                refine wpAnyT_done (by kernel_rfl) ?_
                go_wp2_with fail
                go_meet
                exact ⟨_, _, rfl, rfl, T⟩
              exact AllT.nil
            exact AllT.nil
          exact AllT.nil
        exact AllT.nil
      exact AllT.nil
    refine AllT.cons rfl ?_ ?_
    · skip
      refine al59 rfl rfl ?_
      have T := T.alloc_p
      refine wpList_end ⟨fun _ _ => IsExt.of T.e, ?_⟩
      generalize V0.alloc (.cells Z8 59) = V1 at *
      generalize V0.heap.size = b6 at *
      refine wpAnyT_ready (rs := [1, 5]) (by kernel_rfl) (by decide) ?_
      refine AllT.cons rfl ?_ ?_
      · skip
        refine wpList_plain rfl (fun K hK => ?_)
        go_simp
        go_at_call 41
        refine (halves_p x _).mono ?_
        rintro e V2 ⟨rfl, hb⟩
        refine hK _ _ ?_
        clear hK K
        have T := T.call hb
        refine wpList_end ⟨fun _ _ => IsExt.of T.e, ?_⟩
        clear hb
        refine wpAnyT_ready (rs := [3, 5]) (by kernel_rfl) (by decide) ?_
        refine AllT.cons rfl ?_ ?_
        · skip
          refine wpList_plain rfl (fun K hK => ?_)
          go_simp
          go_at_call 41
          refine (halves_p y _).mono ?_
          rintro e V3 ⟨rfl, hb⟩
          refine hK _ _ ?_
          clear hK K
          have T := T.call hb
          refine wpList_end ⟨fun _ _ => IsExt.of T.e, ?_⟩
          clear hb
          refine wpAnyT_ready (rs := [5]) (by kernel_rfl) (by decide) ?_
          refine AllT.cons rfl ?_ ?_
          · skip
            refine al59 rfl rfl ?_
            have T := T.alloc_q
            refine wpList_end ⟨fun _ _ => IsExt.of T.e, ?_⟩
            generalize V3.alloc (.cells Z8 59) = V4 at *
            generalize V3.heap.size = b7 at *
            refine wpAnyT_ready (rs := [6]) (by kernel_rfl) (by decide) ?_
            refine AllT.cons rfl ?_ ?_
            · skip
              refine wpList_store_mid rfl 59 _ _ rfl b6 0 (H8 x) rfl rfl (there_block ((T.hp _ rfl).1) 0 8 (by simp [Z8, nums_size])) ts59 (H8_one _) ?_
              have T := T.store (x := x)
              refine wpList_end ⟨fun _ _ => IsExt.of T.e, ?_⟩
              generalize V4.setCells b6 0 (H8 x).toList = V5 at *
              refine wpAnyT_ready (rs := [7]) (by kernel_rfl) (by decide) ?_
              refine AllT.cons rfl ?_ ?_
              · skip
                refine wpList_store_mid rfl 59 _ _ rfl b7 0 (H8 y) rfl rfl (there_block (T.hq) 0 8 (by simp [Z8, nums_size])) ts59 (H8_one _) ?_
                have T := T.store (y := y) HB.out
                refine wpList_end ⟨fun h _ => absurd rfl h, ?_⟩
                generalize V5.setCells b7 0 (H8 y).toList = V6 at *
                refine wpAnyT_done (by kernel_rfl) ?_
                go_wp2_with fail
                go_meet
                exact ⟨_, _, rfl, rfl, T⟩
              exact AllT.nil
            exact AllT.nil
          exact AllT.nil
        refine AllT.cons rfl ?_ ?_
        · skip
          refine al59 rfl rfl ?_
          have T := T.alloc_q
          refine wpList_end ⟨fun _ _ => IsExt.of T.e, ?_⟩
          generalize V2.alloc (.cells Z8 59) = V3 at *
          generalize V2.heap.size = b7 at *
          refine wpAnyT_ready (rs := [3]) (by kernel_rfl) (by decide) ?_
          refine AllT.cons rfl ?_ ?_
          · skip
            refine wpList_plain rfl (fun K hK => ?_)
            go_simp
            go_at_call 41
            refine (halves_p y _).mono ?_
            rintro e V4 ⟨rfl, hb⟩
            refine hK _ _ ?_
            clear hK K
            have T := T.call hb
            refine wpList_end ⟨fun _ _ => IsExt.of T.e, ?_⟩
            clear hb
            refine wpAnyT_ready (rs := [6]) (by kernel_rfl) (by decide) ?_
            refine AllT.cons rfl ?_ ?_
            · skip
              refine wpList_store_mid rfl 59 _ _ rfl b6 0 (H8 x) rfl rfl (there_block ((T.hp _ rfl).1) 0 8 (by simp [Z8, nums_size])) ts59 (H8_one _) ?_
              have T := T.store (x := x)
              refine wpList_end ⟨fun _ _ => IsExt.of T.e, ?_⟩
              generalize V4.setCells b6 0 (H8 x).toList = V5 at *
              refine wpAnyT_ready (rs := [7]) (by kernel_rfl) (by decide) ?_
              refine AllT.cons rfl ?_ ?_
              · skip
                refine wpList_store_mid rfl 59 _ _ rfl b7 0 (H8 y) rfl rfl (there_block (T.hq) 0 8 (by simp [Z8, nums_size])) ts59 (H8_one _) ?_
                have T := T.store (y := y) HB.out
                refine wpList_end ⟨fun h _ => absurd rfl h, ?_⟩
                generalize V5.setCells b7 0 (H8 y).toList = V6 at *
                refine wpAnyT_done (by kernel_rfl) ?_
                go_wp2_with fail
                go_meet
                exact ⟨_, _, rfl, rfl, T⟩
              exact AllT.nil
            exact AllT.nil
          exact AllT.nil
        exact AllT.nil
      refine AllT.cons rfl ?_ ?_
      · skip
        refine al59 rfl rfl ?_
        have T := T.alloc_q
        refine wpList_end ⟨fun _ _ => IsExt.of T.e, ?_⟩
        generalize V1.alloc (.cells Z8 59) = V2 at *
        generalize V1.heap.size = b7 at *
        refine wpAnyT_ready (rs := [1]) (by kernel_rfl) (by decide) ?_
        refine AllT.cons rfl ?_ ?_
        · skip
          refine wpList_plain rfl (fun K hK => ?_)
          go_simp
          go_at_call 41
          refine (halves_p x _).mono ?_
          rintro e V3 ⟨rfl, hb⟩
          refine hK _ _ ?_
          clear hK K
          have T := T.call hb
          refine wpList_end ⟨fun _ _ => IsExt.of T.e, ?_⟩
          clear hb
          refine wpAnyT_ready (rs := [3]) (by kernel_rfl) (by decide) ?_
          refine AllT.cons rfl ?_ ?_
          · skip
            refine wpList_plain rfl (fun K hK => ?_)
            go_simp
            go_at_call 41
            refine (halves_p y _).mono ?_
            rintro e V4 ⟨rfl, hb⟩
            refine hK _ _ ?_
            clear hK K
            have T := T.call hb
            refine wpList_end ⟨fun _ _ => IsExt.of T.e, ?_⟩
            clear hb
            refine wpAnyT_ready (rs := [6]) (by kernel_rfl) (by decide) ?_
            refine AllT.cons rfl ?_ ?_
            · skip
              refine wpList_store_mid rfl 59 _ _ rfl b6 0 (H8 x) rfl rfl (there_block ((T.hp _ rfl).1) 0 8 (by simp [Z8, nums_size])) ts59 (H8_one _) ?_
              have T := T.store (x := x)
              refine wpList_end ⟨fun _ _ => IsExt.of T.e, ?_⟩
              generalize V4.setCells b6 0 (H8 x).toList = V5 at *
              refine wpAnyT_ready (rs := [7]) (by kernel_rfl) (by decide) ?_
              refine AllT.cons rfl ?_ ?_
              · skip
                refine wpList_store_mid rfl 59 _ _ rfl b7 0 (H8 y) rfl rfl (there_block (T.hq) 0 8 (by simp [Z8, nums_size])) ts59 (H8_one _) ?_
                have T := T.store (y := y) HB.out
                refine wpList_end ⟨fun h _ => absurd rfl h, ?_⟩
                generalize V5.setCells b7 0 (H8 y).toList = V6 at *
                refine wpAnyT_done (by kernel_rfl) ?_
                go_wp2_with fail
                go_meet
                exact ⟨_, _, rfl, rfl, T⟩
              exact AllT.nil
            exact AllT.nil
          exact AllT.nil
        exact AllT.nil
      exact AllT.nil
    refine AllT.cons rfl ?_ ?_
    · skip
      refine al59 rfl rfl ?_
      have T := T.alloc_q
      refine wpList_end ⟨fun _ _ => IsExt.of T.e, ?_⟩
      generalize V0.alloc (.cells Z8 59) = V1 at *
      generalize V0.heap.size = b7 at *
      refine wpAnyT_ready (rs := [1, 4]) (by kernel_rfl) (by decide) ?_
      refine AllT.cons rfl ?_ ?_
      · skip
        refine wpList_plain rfl (fun K hK => ?_)
        go_simp
        go_at_call 41
        refine (halves_p x _).mono ?_
        rintro e V2 ⟨rfl, hb⟩
        refine hK _ _ ?_
        clear hK K
        have T := T.call hb
        refine wpList_end ⟨fun _ _ => IsExt.of T.e, ?_⟩
        clear hb
        refine wpAnyT_ready (rs := [3, 4]) (by kernel_rfl) (by decide) ?_
        refine AllT.cons rfl ?_ ?_
        · skip
          refine wpList_plain rfl (fun K hK => ?_)
          go_simp
          go_at_call 41
          refine (halves_p y _).mono ?_
          rintro e V3 ⟨rfl, hb⟩
          refine hK _ _ ?_
          clear hK K
          have T := T.call hb
          refine wpList_end ⟨fun _ _ => IsExt.of T.e, ?_⟩
          clear hb
          refine wpAnyT_ready (rs := [4]) (by kernel_rfl) (by decide) ?_
          refine AllT.cons rfl ?_ ?_
          · skip
            refine al59 rfl rfl ?_
            have T := T.alloc_p
            refine wpList_end ⟨fun _ _ => IsExt.of T.e, ?_⟩
            generalize V3.alloc (.cells Z8 59) = V4 at *
            generalize V3.heap.size = b6 at *
            refine wpAnyT_ready (rs := [6]) (by kernel_rfl) (by decide) ?_
            refine AllT.cons rfl ?_ ?_
            · skip
              refine wpList_store_mid rfl 59 _ _ rfl b6 0 (H8 x) rfl rfl (there_block ((T.hp _ rfl).1) 0 8 (by simp [Z8, nums_size])) ts59 (H8_one _) ?_
              have T := T.store (x := x)
              refine wpList_end ⟨fun _ _ => IsExt.of T.e, ?_⟩
              generalize V4.setCells b6 0 (H8 x).toList = V5 at *
              refine wpAnyT_ready (rs := [7]) (by kernel_rfl) (by decide) ?_
              refine AllT.cons rfl ?_ ?_
              · skip
                refine wpList_store_mid rfl 59 _ _ rfl b7 0 (H8 y) rfl rfl (there_block (T.hq) 0 8 (by simp [Z8, nums_size])) ts59 (H8_one _) ?_
                have T := T.store (y := y) HB.out
                refine wpList_end ⟨fun h _ => absurd rfl h, ?_⟩
                generalize V5.setCells b7 0 (H8 y).toList = V6 at *
                refine wpAnyT_done (by kernel_rfl) ?_
                go_wp2_with fail
                go_meet
                exact ⟨_, _, rfl, rfl, T⟩
              exact AllT.nil
            exact AllT.nil
          exact AllT.nil
        refine AllT.cons rfl ?_ ?_
        · skip
          refine al59 rfl rfl ?_
          have T := T.alloc_p
          refine wpList_end ⟨fun _ _ => IsExt.of T.e, ?_⟩
          generalize V2.alloc (.cells Z8 59) = V3 at *
          generalize V2.heap.size = b6 at *
          refine wpAnyT_ready (rs := [3]) (by kernel_rfl) (by decide) ?_
          refine AllT.cons rfl ?_ ?_
          · skip
            refine wpList_plain rfl (fun K hK => ?_)
            go_simp
            go_at_call 41
            refine (halves_p y _).mono ?_
            rintro e V4 ⟨rfl, hb⟩
            refine hK _ _ ?_
            clear hK K
            have T := T.call hb
            refine wpList_end ⟨fun _ _ => IsExt.of T.e, ?_⟩
            clear hb
            refine wpAnyT_ready (rs := [6]) (by kernel_rfl) (by decide) ?_
            refine AllT.cons rfl ?_ ?_
            · skip
              refine wpList_store_mid rfl 59 _ _ rfl b6 0 (H8 x) rfl rfl (there_block ((T.hp _ rfl).1) 0 8 (by simp [Z8, nums_size])) ts59 (H8_one _) ?_
              have T := T.store (x := x)
              refine wpList_end ⟨fun _ _ => IsExt.of T.e, ?_⟩
              generalize V4.setCells b6 0 (H8 x).toList = V5 at *
              refine wpAnyT_ready (rs := [7]) (by kernel_rfl) (by decide) ?_
              refine AllT.cons rfl ?_ ?_
              · skip
                refine wpList_store_mid rfl 59 _ _ rfl b7 0 (H8 y) rfl rfl (there_block (T.hq) 0 8 (by simp [Z8, nums_size])) ts59 (H8_one _) ?_
                have T := T.store (y := y) HB.out
                refine wpList_end ⟨fun h _ => absurd rfl h, ?_⟩
                generalize V5.setCells b7 0 (H8 y).toList = V6 at *
                refine wpAnyT_done (by kernel_rfl) ?_
                go_wp2_with fail
                go_meet
                exact ⟨_, _, rfl, rfl, T⟩
              exact AllT.nil
            exact AllT.nil
          exact AllT.nil
        exact AllT.nil
      refine AllT.cons rfl ?_ ?_
      · skip
        refine al59 rfl rfl ?_
        have T := T.alloc_p
        refine wpList_end ⟨fun _ _ => IsExt.of T.e, ?_⟩
        generalize V1.alloc (.cells Z8 59) = V2 at *
        generalize V1.heap.size = b6 at *
        refine wpAnyT_ready (rs := [1]) (by kernel_rfl) (by decide) ?_
        refine AllT.cons rfl ?_ ?_
        · skip
          refine wpList_plain rfl (fun K hK => ?_)
          go_simp
          go_at_call 41
          refine (halves_p x _).mono ?_
          rintro e V3 ⟨rfl, hb⟩
          refine hK _ _ ?_
          clear hK K
          have T := T.call hb
          refine wpList_end ⟨fun _ _ => IsExt.of T.e, ?_⟩
          clear hb
          refine wpAnyT_ready (rs := [3]) (by kernel_rfl) (by decide) ?_
          refine AllT.cons rfl ?_ ?_
          · skip
            refine wpList_plain rfl (fun K hK => ?_)
            go_simp
            go_at_call 41
            refine (halves_p y _).mono ?_
            rintro e V4 ⟨rfl, hb⟩
            refine hK _ _ ?_
            clear hK K
            have T := T.call hb
            refine wpList_end ⟨fun _ _ => IsExt.of T.e, ?_⟩
            clear hb
            refine wpAnyT_ready (rs := [6]) (by kernel_rfl) (by decide) ?_
            refine AllT.cons rfl ?_ ?_
            · skip
              refine wpList_store_mid rfl 59 _ _ rfl b6 0 (H8 x) rfl rfl (there_block ((T.hp _ rfl).1) 0 8 (by simp [Z8, nums_size])) ts59 (H8_one _) ?_
              have T := T.store (x := x)
              refine wpList_end ⟨fun _ _ => IsExt.of T.e, ?_⟩
              generalize V4.setCells b6 0 (H8 x).toList = V5 at *
              refine wpAnyT_ready (rs := [7]) (by kernel_rfl) (by decide) ?_
              refine AllT.cons rfl ?_ ?_
              · skip
                refine wpList_store_mid rfl 59 _ _ rfl b7 0 (H8 y) rfl rfl (there_block (T.hq) 0 8 (by simp [Z8, nums_size])) ts59 (H8_one _) ?_
                have T := T.store (y := y) HB.out
                refine wpList_end ⟨fun h _ => absurd rfl h, ?_⟩
                generalize V5.setCells b7 0 (H8 y).toList = V6 at *
                refine wpAnyT_done (by kernel_rfl) ?_
                go_wp2_with fail
                go_meet
                exact ⟨_, _, rfl, rfl, T⟩
              exact AllT.nil
            exact AllT.nil
          exact AllT.nil
        exact AllT.nil
      exact AllT.nil
    exact AllT.nil
  case rest =>
    obtain ⟨b6, b7, rfl, rfl, hW⟩ := hcut
    have HW0 := Lib.hid hW
    clear hW HB0
    go_wp2_with fail
    generalize hb8 : wc.heap.size = b8 at *
    have HW1 := Lib.hid (HW0.out.alloc Z8 59 hb8)
    clear HW0 hb8
    go_loopw [9, 10, 11] (fun c i _ wr => ∃ k : Nat, k ≤ 8 ∧ c = .int .u64 (b32 x y k) ∧ i = .int .i64 k ∧ Blks w [(w.heap.size, W x, 24), (w.heap.size + 1, W y, 24), (w.heap.size + 1 + 1, Z4, 24), (b6, H8 x, 59), (b7, H8 y, 59), (b8, nums .u64 8 (part32 (x - y) k), 59)] wr) (fun _ i _ _ => 8 - (intOf i).toNat)
    case atStart =>
      exact ⟨0, by omega, by rw [b32_zero], rfl, by rw [part32_zero]; exact HW1.out⟩
    case round =>
      obtain ⟨k, hk, rfl, rfl, HW⟩ := hrel
      have HWH := Lib.hid HW
      have hbit := b32_bit x y k
      clear HW1
      by_cases hlt : k < 8
      · have hu0 := d32_lo x k
        have hu1 := d32_hi x k
        have hv0 := d32_lo y k
        have hv1 := d32_hi y k
        have hkI : (k : Int) < 8 := by omega
        have hca : ∀ e : ExtOf wr, e.wd.cell? ⟨b6, k, none⟩ = some (.int .u64 (d32 x k)) := fun e => (HWH.out.ext e.below).num 3 rfl hlt
        have hcb : ∀ e : ExtOf wr, e.wd.cell? ⟨b7, k, none⟩ = some (.int .u64 (d32 y k)) := fun e => (HWH.out.ext e.below).num 4 rfl hlt
        have e1 : IntKind.u64.wrap (d32 x k + 4294967296) = d32 x k + 4294967296 := IntWalk.u64_in _ (by omega)
        have e2 : IntKind.u64.wrap (d32 x k + 4294967296 - d32 y k) = d32 x k + 4294967296 - d32 y k := IntWalk.u64_in _ (by omega)
        have e3 : IntKind.u64.wrap (d32 x k + 4294967296 - d32 y k - b32 x y k) = d32 x k + 4294967296 - d32 y k - b32 x y k := IntWalk.u64_in _ (by omega)
        have hand := u64_and32 (x := d32 x k + 4294967296 - d32 y k - b32 x y k) (by omega) (by omega)
        rw [show (d32 x k + 4294967296 - d32 y k - b32 x y k) % 4294967296 = d32 (x - y) k by rw [d32_sub]; omega] at hand
        have hcn : 1 - (d32 x k + 4294967296 - d32 y k - b32 x y k) / 4294967296 = b32 x y (k + 1) := by rw [b32_succ]; omega
        have hS0 : 0 ≤ d32 x k + 4294967296 - d32 y k - b32 x y k := by omega
        have hS1 : d32 x k + 4294967296 - d32 y k - b32 x y k ≤ 8589934591 := by omega
        have E3 := Lib.hid e3
        have E1 := Lib.hid e1
        have E2 := Lib.hid e2
        have HA := Lib.hid hand
        have HC := Lib.hid hcn
        clear HW e1 e2 e3 hand hcn
        go_wp2_with fail
        have e1 := E1.out
        have e2 := E2.out
        have e3 := E3.out
        refine wp_region_ext (by kernel_rfl) (by kernel_rfl) ?_
        iterate 11 (quiet_step (fail))
        refine wpQuiet_nil ?_
        rintro _ ⟨e, rfl⟩
        have HE := HWH.out.ext e.below
        have hcs : e.wd.cell? ⟨b8, k, none⟩ = some (.int .u64 0) := by
          rw [HE.num 5 rfl hlt]; simp [part32]
        have hfz := HE.frozen 5 rfl k
        have HS := Lib.hid (HE.set 5 rfl k (.int .u64 (d32 (x - y) k)) (part32_step _ _ _))
        have hand := HA.out
        clear HE hca hcb e1 e2 e3
        go_wp2_with fail
        go_roundw
        case rel => exact ⟨k + 1, by omega, by rw [HC.out], by go_num, HS.out⟩
        case measure => simp [intOf]; omega
      · obtain rfl : k = 8 := by omega
        have hJ := join_p (x - y) b8 0 8 wr (by have := HW.range 5 rfl; rw [part32_top] at this; exact this)
        have HJ := Lib.hid hJ
        have HC : Hid (b32 x y 8 = b64 x y 4) := Lib.hid (b32_top x y)
        clear hJ HW
        go_wp2_with fail
        go_at_call 42
        refine HJ.out.mono ?_
        rintro e V ⟨rfl, hV⟩
        have HV := HWH.out.ext hV
        go_wp2_with ((with_reducible refine g_store 24 ?_); refine wpList_blks_store HV 2 _ _ 24 rfl rfl _ _ rfl rfl (W (x - y)) rfl rfl ts24 (W_one _) ?_; intro w1 H1)
        exact bodyPost_ret (results_cell_tmp_row rfl _ _ (w.heap.size + 1 + 1) 24 (W (x - y)) (0, 0) _ (.int .u64 (b32 x y 8)) rfl rfl (H1.get 2 rfl) tu24 rfl ts24) rfl ⟨by rw [HC.out], H1.below⟩
end Go.Proofs.Ytjmckfebnoaheaa
