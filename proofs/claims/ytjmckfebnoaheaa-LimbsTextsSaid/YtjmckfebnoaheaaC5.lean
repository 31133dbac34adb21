/- The page's product, walked. -/
import Derived.Test.YtjmckfebnoaheaaC3
set_option linter.unusedVariables false
namespace Go.Proofs.Ytjmckfebnoaheaa
open Go.RowKit Go.KK Go.Lm

theorem d32_over {n : Int} {j k : Nat} (h0 : 0 ≤ n) (h1 : n < B32 ^ j) (hk : j ≤ k) : d32 n k = 0 := by
  obtain ⟨e, rfl⟩ : ∃ e, k = j + e := ⟨k - j, by omega⟩
  have h2 : n < B32 ^ (j + e) := by
    rw [Int.pow_add]
    have := pw_pos B32_pos e
    have hj := pw_pos B32_pos j
    have h3 : B32 ^ j * 1 ≤ B32 ^ j * B32 ^ e := Int.mul_le_mul_of_nonneg_left (by omega) (by omega)
    omega
  show n / B32 ^ (j + e) % B32 = 0
  rw [Int.ediv_eq_zero_of_lt h0 h2]
  rfl
theorem R256_32 : R256 = B32 ^ 8 := by unfold R256 B64 B32; decide
theorem d32_shift (n : Int) (j k : Nat) : d32 n (j + k) = d32 (n / B32 ^ j) k := by
  show n / B32 ^ (j + k) % B32 = n / B32 ^ j / B32 ^ k % B32
  rw [Int.pow_add, Int.ediv_ediv_of_nonneg (Int.le_of_lt (pw_pos B32_pos j))]
theorem po32_bd {x y : Int} (i : Nat) (hy0 : 0 ≤ y) (hy1 : y < R256) : 0 ≤ po B32 x y i ∧ po B32 x y i < B32 ^ (i + 8) := by
  have hp := pw_pos B32_pos i
  have h1 := Int.emod_nonneg x (show B32 ^ i ≠ 0 by omega)
  have h2 := Int.emod_lt_of_pos x hp
  refine ⟨Int.mul_nonneg h1 hy0, ?_⟩
  have h3 : po B32 x y i ≤ (B32 ^ i - 1) * (R256 - 1) := Int.mul_le_mul (by omega) (by omega) hy0 (by omega)
  have h4 : (B32 ^ i - 1) * (R256 - 1) = B32 ^ i * R256 - B32 ^ i - R256 + 1 := by grind
  have h5 : B32 ^ (i + 8) = B32 ^ i * R256 := by rw [Int.pow_add, R256_32]
  have h6 := R256_pos
  omega
/-- The sixteen halves under way. -/
def tz32 (x y : Int) (i j k : Nat) : Int := if k < i + j then d32 (pz B32 x y i j) k else d32 (po B32 x y i) k
theorem tz32_zero (x y : Int) (i : Nat) : nums .u64 16 (tz32 x y i 0) = nums .u64 16 (d32 (po B32 x y i)) := nums_congr _ fun k _ => by
  unfold tz32
  rw [pz_zero]
  split <;> rfl
theorem tz32_at (x y : Int) (i j : Nat) : tz32 x y i j (i + j) = d32 (po B32 x y i) (i + j) := by unfold tz32; rw [if_neg (by omega)]
theorem tz32_step (x y : Int) (i j : Nat) : (nums .u64 16 (tz32 x y i j)).setIfInBounds (i + j) (.int .u64 (d32 (pz B32 x y i (j + 1)) (i + j))) = nums .u64 16 (tz32 x y i (j + 1)) := by
  rw [nums_set]
  refine nums_congr _ fun k _ => ?_
  unfold tz32
  by_cases h1 : k = i + j
  · subst h1; rw [if_pos rfl, if_pos (by omega)]
  · rw [if_neg h1]
    by_cases h2 : k < i + j
    · rw [if_pos h2, if_pos (by omega)]
      exact (pz_low B32_pos x y i j h2).symm
    · rw [if_neg h2, if_neg (by omega)]
theorem tz32_row {x y : Int} (i : Nat) (hy0 : 0 ≤ y) (hy1 : y < R256) : (nums .u64 16 (tz32 x y i 8)).setIfInBounds (i + 8) (.int .u64 (pc B32 x y i 8)) = nums .u64 16 (d32 (po B32 x y (i + 1))) := by
  rw [nums_set]
  have hy2 := hy1
  rw [R256_32] at hy2
  refine nums_congr _ fun k _ => ?_
  by_cases h1 : k = i + 8
  · subst h1; rw [if_pos rfl]; exact (pc_top B32_pos x y i 8 hy0 hy2).symm
  · rw [if_neg h1]
    unfold tz32
    by_cases h2 : k < i + 8
    · rw [if_pos h2, pz_top B32_pos x y i 8 hy0 hy2]
    · rw [if_neg h2]
      have b1 := po32_bd (x := x) i hy0 hy1
      have b2 := po32_bd (x := x) (i + 1) hy0 hy1
      rw [d32_over b1.1 b1.2 (by omega), d32_over b2.1 b2.2 (by omega)]
theorem tu65 : Try.prog.underlying 65 = some (.array 16 22) := by kernel_rfl
theorem ts65 : (Try.prog.info? 65).map (·.size) = some 16 := by kernel_rfl
def Z16 : Array Value := nums .u64 16 fun _ => 0
theorem zero65 (w : World) : (zeroValue 65).run Try.prog w = .ok (.agg Z16) w := by kernel_rfl
set_option maxRecDepth 100000 in
set_option maxHeartbeats 8000000 in
theorem rmul_p {x y : Int} (hx0 : 0 ≤ x) (hx1 : x < R256) (hy0 : 0 ≤ y) (hy1 : y < R256) (w : World) :
    Calls Try.prog 14 #[.agg (W x), .agg (W y)] w fun e w' => e = .returned (.tuple #[.agg (W (x * y / R256)), .agg (W (x * y))]) ∧ Below w.heap.size w w' := by
  have HX : Hid (0 ≤ x ∧ x < R256) := Lib.hid ⟨hx0, hx1⟩
  have HY : Hid (0 ≤ y ∧ y < R256) := Lib.hid ⟨hy0, hy1⟩
  have H0 := ((((Blks.nil w).alloc (W x) 24 rfl).alloc (W y) 24 (b := w.heap.size + 1) (by simp)).alloc Z4 24 (b := w.heap.size + 1 + 1) (by simp)).alloc Z4 24 (b := w.heap.size + 1 + 1 + 1) (by simp)
  have HB0 := Lib.hid H0
  clear H0 hx0 hx1 hy0 hy1
  go_enter Try.func14, Try.ntmps14
  go_upto_region 1 with (fail)
  go_cut [6, 7] from 13 (fun p q wx => ∃ b6 b7, p = .pointer (some ⟨b6, 0, none⟩) ∧ q = .pointer (some ⟨b7, 0, none⟩) ∧ Blks w ([(w.heap.size, W x, 24), (w.heap.size + 1, W y, 24), (w.heap.size + 1 + 1, Z4, 24), (w.heap.size + 1 + 1 + 1, Z4, 24)] ++ [(b6, H8 x, 59), (b7, H8 y, 59)]) wx)
  case first =>
    have HB : Hid (Blks w [(w.heap.size, W x, 24), (w.heap.size + 1, W y, 24), (w.heap.size + 1 + 1, Z4, 24), (w.heap.size + 1 + 1 + 1, Z4, 24)] ((((w.alloc (Obj.cells (W x) 24)).alloc (Obj.cells (W y) 24)).alloc (Obj.cells Z4 24)).alloc (Obj.cells Z4 24))) := HB0
    clear HB0
    change Code.wp _ _ _ _ ((((w.alloc (Obj.cells (W x) 24)).alloc (Obj.cells (W y) 24)).alloc (Obj.cells Z4 24)).alloc (Obj.cells Z4 24))
    generalize (((w.alloc (Obj.cells (W x) 24)).alloc (Obj.cells (W y) 24)).alloc (Obj.cells Z4 24)).alloc (Obj.cells Z4 24) = W0 at *
    have HCX : Hid (∀ e : ExtOf W0, e.wd.rangeAt w.heap.size 0 (W x).toList) := Lib.hid fun e => (HB.out.ext e.below).range 0 rfl
    have HCY : Hid (∀ e : ExtOf W0, e.wd.rangeAt (w.heap.size + 1) 0 (W y).toList) := Lib.hid fun e => (HB.out.ext e.below).range 1 rfl
    refine wp_region_headany (fun w' => ∃ e : ExtOf W0, w' = e.wd) 7 [0, 2] 6 (by kernel_rfl) (by kernel_rfl) (fun d _ _ _ _ h => by cases d <;> exact h) ⟨⟨W0.drew, (Below.refl _ _).drew⟩, rfl⟩ ?_
    simp only [List.map_cons, List.map_nil, List.getD_cons_zero, List.getD_cons_succ]
    refine wpHead_loade rfl 24 _ rfl w.heap.size 0 rfl (W x).toList _ HCX.out tu24 rfl ts24 ?_
    refine wpHead_loade rfl 24 _ rfl (w.heap.size + 1) 0 rfl (W y).toList _ HCY.out tu24 rfl ts24 ?_
    refine wpHead_nil ?_
    have T : Two W0 none none W0.drew := ⟨(Below.refl _ _).drew, by simp, by simp, by simp⟩
    clear HCX HCY
    generalize W0.drew = V0 at *
    refine wpAnyT_ready (rs := [1, 4, 5]) (by kernel_rfl) (by decide) ?_
    refine AllT.cons rfl ?_ ?_
    · skip
      refine wpList_plain rfl (fun K hK => ?_)
      go_simp
      go_at_call 41
      refine (halves_p x _).mono ?_
      rintro e V1 ⟨rfl, hb⟩
      refine hK _ _ ?_
      clear hK K
      have T := T.call hb
      refine wpList_end ⟨fun _ _ => IsExt.of T.e, ?_⟩
      clear hb
      refine wpAnyT_ready (rs := [3, 4, 5]) (by kernel_rfl) (by decide) ?_
      refine AllT.cons rfl ?_ ?_
      · skip
        refine wpList_plain rfl (fun K hK => ?_)
        go_simp
        go_at_call 41
        refine (halves_p y _).mono ?_
        rintro e V2 ⟨rfl, hb⟩
        refine hK _ _ ?_
        clear hK K
        have T := T.call hb
        refine wpList_end ⟨fun _ _ => IsExt.of T.e, ?_⟩
        clear hb
        refine wpAnyT_ready (rs := [4, 5]) (by kernel_rfl) (by decide) ?_
        refine AllT.cons rfl ?_ ?_
        · skip
          refine al59 rfl rfl ?_
          have T := T.alloc_p
          refine wpList_end ⟨fun _ _ => IsExt.of T.e, ?_⟩
          generalize V2.alloc (.cells Z8 59) = V3 at *
          generalize V2.heap.size = b6 at *
          refine wpAnyT_ready (rs := [5]) (by kernel_rfl) (by decide) ?_
          refine AllT.cons rfl ?_ ?_
          · skip
            refine al59 rfl rfl ?_
            have T := T.alloc_q
            refine wpList_end ⟨fun _ _ => IsExt.of T.e, ?_⟩
            generalize V3.alloc (.cells Z8 59) = V4 at *
            generalize V3.heap.size = b7 at *
            refine wpAnyT_ready (rs := [6]) (by kernel_rfl) (by decide) ?_
            refine AllT.cons rfl ?_ ?_
            · skip
              refine wpList_store_mid rfl 59 _ _ rfl b6 0 (H8 x) rfl rfl (there_block ((T.hp _ rfl).1) 0 8 (by simp [Z8, nums_size])) ts59 (H8_one _) ?_
              have T := T.store (x := x)
              refine wpList_end ⟨fun _ _ => IsExt.of T.e, ?_⟩
              generalize V4.setCells b6 0 (H8 x).toList = V5 at *
              refine wpAnyT_ready (rs := [7]) (by kernel_rfl) (by decide) ?_
              refine AllT.cons rfl ?_ ?_
              · skip
                refine wpList_store_mid rfl 59 _ _ rfl b7 0 (H8 y) rfl rfl (there_block (T.hq) 0 8 (by simp [Z8, nums_size])) ts59 (H8_one _) ?_
                have T := T.store (y := y) HB.out
                refine wpList_end ⟨fun h _ => absurd rfl h, ?_⟩
                generalize V5.setCells b7 0 (H8 y).toList = V6 at *
                refine wpAnyT_done (by kernel_rfl) ?_
                go_wp2_with fail
                go_meet
                exact ⟨_, _, rfl, rfl, T⟩
              exact AllT.nil
            exact AllT.nil
          exact AllT.nil
        refine AllT.cons rfl ?_ ?_
        · skip
          refine al59 rfl rfl ?_
          have T := T.alloc_q
          refine wpList_end ⟨fun _ _ => IsExt.of T.e, ?_⟩
          generalize V2.alloc (.cells Z8 59) = V3 at *
          generalize V2.heap.size = b7 at *
          refine wpAnyT_ready (rs := [4]) (by kernel_rfl) (by decide) ?_
          refine AllT.cons rfl ?_ ?_
          · skip
            refine al59 rfl rfl ?_
            have T := T.alloc_p
            refine wpList_end ⟨fun _ _ => IsExt.of T.e, ?_⟩
            generalize V3.alloc (.cells Z8 59) = V4 at *
            generalize V3.heap.size = b6 at *
            refine wpAnyT_ready (rs := [6]) (by kernel_rfl) (by decide) ?_
            refine AllT.cons rfl ?_ ?_
            · skip
              refine wpList_store_mid rfl 59 _ _ rfl b6 0 (H8 x) rfl rfl (there_block ((T.hp _ rfl).1) 0 8 (by simp [Z8, nums_size])) ts59 (H8_one _) ?_
              have T := T.store (x := x)
              refine wpList_end ⟨fun _ _ => IsExt.of T.e, ?_⟩
              generalize V4.setCells b6 0 (H8 x).toList = V5 at *
              refine wpAnyT_ready (rs := [7]) (by kernel_rfl) (by decide) ?_
              refine AllT.cons rfl ?_ ?_
              · skip
                refine wpList_store_mid rfl 59 _ _ rfl b7 0 (H8 y) rfl rfl (there_block (T.hq) 0 8 (by simp [Z8, nums_size])) ts59 (H8_one _) ?_
                have T := T.store (y := y) HB.out
                refine wpList_end ⟨fun h _ => absurd rfl h, ?_⟩
                generalize V5.setCells b7 0 (H8 y).toList = V6 at *
                refine wpAnyT_done (by kernel_rfl) ?_
                go_wp2_with fail
                go_meet
                exact ⟨_, _, rfl, rfl, T⟩
              exact AllT.nil
            exact AllT.nil
          exact AllT.nil
        exact AllT.nil
      refine AllT.cons rfl ?_ ?_
      · skip
        refine al59 rfl rfl ?_
        have T := T.alloc_p
        refine wpList_end ⟨fun _ _ => IsExt.of T.e, ?_⟩
        generalize V1.alloc (.cells Z8 59) = V2 at *
        generalize V1.heap.size = b6 at *
        refine wpAnyT_ready (rs := [3, 5]) (by kernel_rfl) (by decide) ?_
        refine AllT.cons rfl ?_ ?_
        · skip
          refine wpList_plain rfl (fun K hK => ?_)
          go_simp
          go_at_call 41
          refine (halves_p y _).mono ?_
          rintro e V3 ⟨rfl, hb⟩
          refine hK _ _ ?_
          clear hK K
          have T := T.call hb
          refine wpList_end ⟨fun _ _ => IsExt.of T.e, ?_⟩
          clear hb
          refine wpAnyT_ready (rs := [5]) (by kernel_rfl) (by decide) ?_
          refine AllT.cons rfl ?_ ?_
          · skip
            refine al59 rfl rfl ?_
            have T := T.alloc_q
            refine wpList_end ⟨fun _ _ => IsExt.of T.e, ?_⟩
            generalize V3.alloc (.cells Z8 59) = V4 at *
            generalize V3.heap.size = b7 at *
            refine wpAnyT_ready (rs := [6]) (by kernel_rfl) (by decide) ?_
            refine AllT.cons rfl ?_ ?_
            · skip
              refine wpList_store_mid rfl 59 _ _ rfl b6 0 (H8 x) rfl rfl (there_block ((T.hp _ rfl).1) 0 8 (by simp [Z8, nums_size])) ts59 (H8_one _) ?_
              have T := T.store (x := x)
              refine wpList_end ⟨fun _ _ => IsExt.of T.e, ?_⟩
              generalize V4.setCells b6 0 (H8 x).toList = V5 at *
              refine wpAnyT_ready (rs := [7]) (by kernel_rfl) (by decide) ?_
              refine AllT.cons rfl ?_ ?_
              · skip
                refine wpList_store_mid rfl 59 _ _ rfl b7 0 (H8 y) rfl rfl (there_block (T.hq) 0 8 (by simp [Z8, nums_size])) ts59 (H8_one _) ?_
                have T := T.store (y := y) HB.out
                refine wpList_end ⟨fun h _ => absurd rfl h, ?_⟩
                generalize V5.setCells b7 0 (H8 y).toList = V6 at *
                refine wpAnyT_done (by kernel_rfl) ?_
                go_wp2_with fail
                go_meet
                exact ⟨_, _, rfl, rfl, T⟩
              exact AllT.nil
            exact AllT.nil
          exact AllT.nil
        refine AllT.cons rfl ?_ ?_
        · skip
          refine al59 rfl rfl ?_
          have T := T.alloc_q
          refine wpList_end ⟨fun _ _ => IsExt.of T.e, ?_⟩
          generalize V2.alloc (.cells Z8 59) = V3 at *
          generalize V2.heap.size = b7 at *
          refine wpAnyT_ready (rs := [3]) (by kernel_rfl) (by decide) ?_
          refine AllT.cons rfl ?_ ?_
          · skip
            refine wpList_plain rfl (fun K hK => ?_)
            go_simp
            go_at_call 41
            refine (halves_p y _).mono ?_
            rintro e V4 ⟨rfl, hb⟩
            refine hK _ _ ?_
            clear hK K
            have T := T.call hb
            refine wpList_end ⟨fun _ _ => IsExt.of T.e, ?_⟩
            clear hb
            refine wpAnyT_ready (rs := [6]) (by kernel_rfl) (by decide) ?_
            refine AllT.cons rfl ?_ ?_
            · skip
              refine wpList_store_mid rfl 59 _ _ rfl b6 0 (H8 x) rfl rfl (there_block ((T.hp _ rfl).1) 0 8 (by simp [Z8, nums_size])) ts59 (H8_one _) ?_
              have T := T.store (x := x)
              refine wpList_end ⟨fun _ _ => IsExt.of T.e, ?_⟩
              generalize V4.setCells b6 0 (H8 x).toList = V5 at *
              refine wpAnyT_ready (rs := [7]) (by kernel_rfl) (by decide) ?_
              refine AllT.cons rfl ?_ ?_
              · skip
                refine wpList_store_mid rfl 59 _ _ rfl b7 0 (H8 y) rfl rfl (there_block (T.hq) 0 8 (by simp [Z8, nums_size])) ts59 (H8_one _) ?_
                have T := T.store (y := y) HB.out
                refine wpList_end ⟨fun h _ => absurd rfl h, ?_⟩
                generalize V5.setCells b7 0 (H8 y).toList = V6 at *
                refine wpAnyT_done (by kernel_rfl) ?_
                go_wp2_with fail
                go_meet
                exact ⟨_, _, rfl, rfl, T⟩
              exact AllT.nil
            exact AllT.nil
          exact AllT.nil
        exact AllT.nil
      refine AllT.cons rfl ?_ ?_
      · skip
        refine al59 rfl rfl ?_
        have T := T.alloc_q
        refine wpList_end ⟨fun _ _ => IsExt.of T.e, ?_⟩
        generalize V1.alloc (.cells Z8 59) = V2 at *
        generalize V1.heap.size = b7 at *
        refine wpAnyT_ready (rs := [3, 4]) (by kernel_rfl) (by decide) ?_
        refine AllT.cons rfl ?_ ?_
        · skip
          refine wpList_plain rfl (fun K hK => ?_)
          go_simp
          go_at_call 41
          refine (halves_p y _).mono ?_
          rintro e V3 ⟨rfl, hb⟩
          refine hK _ _ ?_
          clear hK K
          have T := T.call hb
          refine wpList_end ⟨fun _ _ => IsExt.of T.e, ?_⟩
          clear hb
          refine wpAnyT_ready (rs := [4]) (by kernel_rfl) (by decide) ?_
          refine AllT.cons rfl ?_ ?_
          · skip
            refine al59 rfl rfl ?_
            have T := T.alloc_p
            refine wpList_end ⟨fun _ _ => IsExt.of T.e, ?_⟩
            generalize V3.alloc (.cells Z8 59) = V4 at *
            generalize V3.heap.size = b6 at *
            refine wpAnyT_ready (rs := [6]) (by kernel_rfl) (by decide) ?_
            refine AllT.cons rfl ?_ ?_
            · skip
              refine wpList_store_mid rfl 59 _ _ rfl b6 0 (H8 x) rfl rfl (there_block ((T.hp _ rfl).1) 0 8 (by simp [Z8, nums_size])) ts59 (H8_one _) ?_
              have T := T.store (x := x)
              refine wpList_end ⟨fun _ _ => IsExt.of T.e, ?_⟩
              generalize V4.setCells b6 0 (H8 x).toList = V5 at *
              refine wpAnyT_ready (rs := [7]) (by kernel_rfl) (by decide) ?_
              refine AllT.cons rfl ?_ ?_
              · skip
                refine wpList_store_mid rfl 59 _ _ rfl b7 0 (H8 y) rfl rfl (there_block (T.hq) 0 8 (by simp [Z8, nums_size])) ts59 (H8_one _) ?_
                have T := T.store (y := y) HB.out
                refine wpList_end ⟨fun h _ => absurd rfl h, ?_⟩
                generalize V5.setCells b7 0 (H8 y).toList = V6 at *
                refine wpAnyT_done (by kernel_rfl) ?_
                go_wp2_with fail
                go_meet
                exact ⟨_, _, rfl, rfl, T⟩
              exact AllT.nil
            exact AllT.nil
          exact AllT.nil
        refine AllT.cons rfl ?_ ?_
        · skip
          refine al59 rfl rfl ?_
          have T := T.alloc_p
          refine wpList_end ⟨fun _ _ => IsExt.of T.e, ?_⟩
          generalize V2.alloc (.cells Z8 59) = V3 at *
          generalize V2.heap.size = b6 at *
          refine wpAnyT_ready (rs := [3]) (by kernel_rfl) (by decide) ?_
          refine AllT.cons rfl ?_ ?_
          · skip
            refine wpList_plain rfl (fun K hK => ?_)
            go_simp
            go_at_call 41
            refine (halves_p y _).mono ?_
            rintro e V4 ⟨rfl, hb⟩
            refine hK _ _ ?_
            clear hK K
            have T := T.call hb
            refine wpList_end ⟨fun _ _ => IsExt.of T.e, ?_⟩
            clear hb
            refine wpAnyT_ready (rs := [6]) (by kernel_rfl) (by decide) ?_
            refine AllT.cons rfl ?_ ?_
            · skip
              refine wpList_store_mid rfl 59 _ _ rfl b6 0 (H8 x) rfl rfl (there_block ((T.hp _ rfl).1) 0 8 (by simp [Z8, nums_size])) ts59 (H8_one _) ?_
              have T := T.store (x := x)
              refine wpList_end ⟨fun _ _ => IsExt.of T.e, ?_⟩
              generalize V4.setCells b6 0 (H8 x).toList = V5 at *
              refine wpAnyT_ready (rs := [7]) (by kernel_rfl) (by decide) ?_
              refine AllT.cons rfl ?_ ?_
              · skip
                refine wpList_store_mid rfl 59 _ _ rfl b7 0 (H8 y) rfl rfl (there_block (T.hq) 0 8 (by simp [Z8, nums_size])) ts59 (H8_one _) ?_
                have T := T.store (y := y) HB.out
                refine wpList_end ⟨fun h _ => absurd rfl h, ?_⟩
                generalize V5.setCells b7 0 (H8 y).toList = V6 at *
                refine wpAnyT_done (by kernel_rfl) ?_
                go_wp2_with fail
                go_meet
                exact ⟨_, _, rfl, rfl, T⟩
              exact AllT.nil
            exact AllT.nil
          exact AllT.nil
        exact AllT.nil
      exact AllT.nil
    refine AllT.cons rfl ?_ ?_
    · skip
      refine al59 rfl rfl ?_
      have T := T.alloc_p
      refine wpList_end ⟨fun _ _ => IsExt.of T.e, ?_⟩
      generalize V0.alloc (.cells Z8 59) = V1 at *
      generalize V0.heap.size = b6 at *
      refine wpAnyT_ready (rs := [1, 5]) (by kernel_rfl) (by decide) ?_
      refine AllT.cons rfl ?_ ?_
      · skip
        refine wpList_plain rfl (fun K hK => ?_)
        go_simp
        go_at_call 41
        refine (halves_p x _).mono ?_
        rintro e V2 ⟨rfl, hb⟩
        refine hK _ _ ?_
        clear hK K
        have T := T.call hb
        refine wpList_end ⟨fun _ _ => IsExt.of T.e, ?_⟩
        clear hb
        refine wpAnyT_ready (rs := [3, 5]) (by kernel_rfl) (by decide) ?_
        refine AllT.cons rfl ?_ ?_
        · skip
          refine wpList_plain rfl (fun K hK => ?_)
          go_simp
          go_at_call 41
          refine (halves_p y _).mono ?_
          rintro e V3 ⟨rfl, hb⟩
          refine hK _ _ ?_
          clear hK K
          have T := T.call hb
          refine wpList_end ⟨fun _ _ => IsExt.of T.e, ?_⟩
          clear hb
          refine wpAnyT_ready (rs := [5]) (by kernel_rfl) (by decide) ?_
          refine AllT.cons rfl ?_ ?_
          · skip
            refine al59 rfl rfl ?_
            have T := T.alloc_q
            refine wpList_end ⟨fun _ _ => IsExt.of T.e, ?_⟩
            generalize V3.alloc (.cells Z8 59) = V4 at *
            generalize V3.heap.size = b7 at *
            refine wpAnyT_ready (rs := [6]) (by kernel_rfl) (by decide) ?_
            refine AllT.cons rfl ?_ ?_
            · skip
              refine wpList_store_mid rfl 59 _ _ rfl b6 0 (H8 x) rfl rfl (there_block ((T.hp _ rfl).1) 0 8 (by simp [Z8, nums_size])) ts59 (H8_one _) ?_
              have T := T.store (x := x)
              refine wpList_end ⟨fun _ _ => IsExt.of T.e, ?_⟩
              generalize V4.setCells b6 0 (H8 x).toList = V5 at *
              refine wpAnyT_ready (rs := [7]) (by kernel_rfl) (by decide) ?_
              refine AllT.cons rfl ?_ ?_
              · skip
                refine wpList_store_mid rfl 59 _ _ rfl b7 0 (H8 y) rfl rfl (there_block (T.hq) 0 8 (by simp [Z8, nums_size])) ts59 (H8_one _) ?_
                have T := T.store (y := y) HB.out
                refine wpList_end ⟨fun h _ => absurd rfl h, ?_⟩
                generalize V5.setCells b7 0 (H8 y).toList = V6 at *
                refine wpAnyT_done (by kernel_rfl) ?_
                go_wp2_with fail
                go_meet
                exact ⟨_, _, rfl, rfl, T⟩
              exact AllT.nil
            exact AllT.nil
          exact AllT.nil
        refine AllT.cons rfl ?_ ?_
        · skip
          refine al59 rfl rfl ?_
          have T := T.alloc_q
          refine wpList_end ⟨fun _ _ => IsExt.of T.e, ?_⟩
          generalize V2.alloc (.cells Z8 59) = V3 at *
          generalize V2.heap.size = b7 at *
          refine wpAnyT_ready (rs := [3]) (by kernel_rfl) (by decide) ?_
          refine AllT.cons rfl ?_ ?_
          · skip
            refine wpList_plain rfl (fun K hK => ?_)
            go_simp
            go_at_call 41
            refine (halves_p y _).mono ?_
            rintro e V4 ⟨rfl, hb⟩
            refine hK _ _ ?_
            clear hK K
            have T := T.call hb
            refine wpList_end ⟨fun _ _ => IsExt.of T.e, ?_⟩
            clear hb
            refine wpAnyT_ready (rs := [6]) (by kernel_rfl) (by decide) ?_
            refine AllT.cons rfl ?_ ?_
            · skip
              refine wpList_store_mid rfl 59 _ _ rfl b6 0 (H8 x) rfl rfl (there_block ((T.hp _ rfl).1) 0 8 (by simp [Z8, nums_size])) ts59 (H8_one _) ?_
              have T := T.store (x := x)
              refine wpList_end ⟨fun _ _ => IsExt.of T.e, ?_⟩
              generalize V4.setCells b6 0 (H8 x).toList = V5 at *
              refine wpAnyT_ready (rs := [7]) (by kernel_rfl) (by decide) ?_
              refine AllT.cons rfl ?_ ?_
              · skip
                refine wpList_store_mid rfl 59 _ _ rfl b7 0 (H8 y) rfl rfl (there_block (T.hq) 0 8 (by simp [Z8, nums_size])) ts59 (H8_one _) ?_
                have T := T.store (y := y) HB.out
                refine wpList_end ⟨fun h _ => absurd rfl h, ?_⟩
                generalize V5.setCells b7 0 (H8 y).toList = V6 at *
                refine wpAnyT_done (by kernel_rfl) ?_
                go_wp2_with fail
                go_meet
                exact ⟨_, _, rfl, rfl, T⟩
              exact AllT.nil
            exact AllT.nil
          exact AllT.nil
        exact AllT.nil
      refine AllT.cons rfl ?_ ?_
      · skip
        refine al59 rfl rfl ?_
        have T := T.alloc_q
        refine wpList_end ⟨fun _ _ => IsExt.of T.e, ?_⟩
        generalize V1.alloc (.cells Z8 59) = V2 at *
        generalize V1.heap.size = b7 at *
        refine wpAnyT_ready (rs := [1]) (by kernel_rfl) (by decide) ?_
        refine AllT.cons rfl ?_ ?_
        · skip
          refine wpList_plain rfl (fun K hK => ?_)
          go_simp
          go_at_call 41
          refine (halves_p x _).mono ?_
          rintro e V3 ⟨rfl, hb⟩
          refine hK _ _ ?_
          clear hK K
          have T := T.call hb
          refine wpList_end ⟨fun _ _ => IsExt.of T.e, ?_⟩
          clear hb
          refine wpAnyT_ready (rs := [3]) (by kernel_rfl) (by decide) ?_
          refine AllT.cons rfl ?_ ?_
          · skip
            refine wpList_plain rfl (fun K hK => ?_)
            go_simp
            go_at_call 41
            refine (halves_p y _).mono ?_
            rintro e V4 ⟨rfl, hb⟩
            refine hK _ _ ?_
            clear hK K
            have T := T.call hb
            refine wpList_end ⟨fun _ _ => IsExt.of T.e, ?_⟩
            clear hb
            refine wpAnyT_ready (rs := [6]) (by kernel_rfl) (by decide) ?_
            refine AllT.cons rfl ?_ ?_
            · skip
              refine wpList_store_mid rfl 59 _ _ rfl b6 0 (H8 x) rfl rfl (there_block ((T.hp _ rfl).1) 0 8 (by simp [Z8, nums_size])) ts59 (H8_one _) ?_
              have T := T.store (x := x)
              refine wpList_end ⟨fun _ _ => IsExt.of T.e, ?_⟩
              generalize V4.setCells b6 0 (H8 x).toList = V5 at *
              refine wpAnyT_ready (rs := [7]) (by kernel_rfl) (by decide) ?_
              refine AllT.cons rfl ?_ ?_
              · skip
                refine wpList_store_mid rfl 59 _ _ rfl b7 0 (H8 y) rfl rfl (there_block (T.hq) 0 8 (by simp [Z8, nums_size])) ts59 (H8_one _) ?_
                have T := T.store (y := y) HB.out
                refine wpList_end ⟨fun h _ => absurd rfl h, ?_⟩
                generalize V5.setCells b7 0 (H8 y).toList = V6 at *
                refine wpAnyT_done (by kernel_rfl) ?_
                go_wp2_with fail
                go_meet
                exact ⟨_, _, rfl, rfl, T⟩
              exact AllT.nil
            exact AllT.nil
          exact AllT.nil
        exact AllT.nil
      exact AllT.nil
    refine AllT.cons rfl ?_ ?_
    · skip
      refine al59 rfl rfl ?_
      have T := T.alloc_q
      refine wpList_end ⟨fun _ _ => IsExt.of T.e, ?_⟩
      generalize V0.alloc (.cells Z8 59) = V1 at *
      generalize V0.heap.size = b7 at *
      refine wpAnyT_ready (rs := [1, 4]) (by kernel_rfl) (by decide) ?_
      refine AllT.cons rfl ?_ ?_
      · skip
        refine wpList_plain rfl (fun K hK => ?_)
        go_simp
        go_at_call 41
        refine (halves_p x _).mono ?_
        rintro e V2 ⟨rfl, hb⟩
        refine hK _ _ ?_
        clear hK K
        have T := T.call hb
        refine wpList_end ⟨fun _ _ => IsExt.of T.e, ?_⟩
        clear hb
        refine wpAnyT_ready (rs := [3, 4]) (by kernel_rfl) (by decide) ?_
        refine AllT.cons rfl ?_ ?_
        · skip
          refine wpList_plain rfl (fun K hK => ?_)
          go_simp
          go_at_call 41
          refine (halves_p y _).mono ?_
          rintro e V3 ⟨rfl, hb⟩
          refine hK _ _ ?_
          clear hK K
          have T := T.call hb
          refine wpList_end ⟨fun _ _ => IsExt.of T.e, ?_⟩
          clear hb
          refine wpAnyT_ready (rs := [4]) (by kernel_rfl) (by decide) ?_
          refine AllT.cons rfl ?_ ?_
          · skip
            refine al59 rfl rfl ?_
            have T := T.alloc_p
            refine wpList_end ⟨fun _ _ => IsExt.of T.e, ?_⟩
            generalize V3.alloc (.cells Z8 59) = V4 at *
            generalize V3.heap.size = b6 at *
            refine wpAnyT_ready (rs := [6]) (by kernel_rfl) (by decide) ?_
            refine AllT.cons rfl ?_ ?_
            · skip
              refine wpList_store_mid rfl 59 _ _ rfl b6 0 (H8 x) rfl rfl (there_block ((T.hp _ rfl).1) 0 8 (by simp [Z8, nums_size])) ts59 (H8_one _) ?_
              have T := T.store (x := x)
              refine wpList_end ⟨fun _ _ => IsExt.of T.e, ?_⟩
              generalize V4.setCells b6 0 (H8 x).toList = V5 at *
              refine wpAnyT_ready (rs := [7]) (by kernel_rfl) (by decide) ?_
              refine AllT.cons rfl ?_ ?_
              · skip
                refine wpList_store_mid rfl 59 _ _ rfl b7 0 (H8 y) rfl rfl (there_block (T.hq) 0 8 (by simp [Z8, nums_size])) ts59 (H8_one _) ?_
                have T := T.store (y := y) HB.out
                refine wpList_end ⟨fun h _ => absurd rfl h, ?_⟩
                generalize V5.setCells b7 0 (H8 y).toList = V6 at *
                refine wpAnyT_done (by kernel_rfl) ?_
                go_wp2_with fail
                go_meet
                exact ⟨_, _, rfl, rfl, T⟩
              exact AllT.nil
            exact AllT.nil
          exact AllT.nil
        refine AllT.cons rfl ?_ ?_
        · skip
          refine al59 rfl rfl ?_
          have T := T.alloc_p
          refine wpList_end ⟨fun _ _ => IsExt.of T.e, ?_⟩
          generalize V2.alloc (.cells Z8 59) = V3 at *
          generalize V2.heap.size = b6 at *
          refine wpAnyT_ready (rs := [3]) (by kernel_rfl) (by decide) ?_
          refine AllT.cons rfl ?_ ?_
          · skip
            refine wpList_plain rfl (fun K hK => ?_)
            go_simp
            go_at_call 41
            refine (halves_p y _).mono ?_
            rintro e V4 ⟨rfl, hb⟩
            refine hK _ _ ?_
            clear hK K
            have T := T.call hb
            refine wpList_end ⟨fun _ _ => IsExt.of T.e, ?_⟩
            clear hb
            refine wpAnyT_ready (rs := [6]) (by kernel_rfl) (by decide) ?_
            refine AllT.cons rfl ?_ ?_
            · skip
              refine wpList_store_mid rfl 59 _ _ rfl b6 0 (H8 x) rfl rfl (there_block ((T.hp _ rfl).1) 0 8 (by simp [Z8, nums_size])) ts59 (H8_one _) ?_
              have T := T.store (x := x)
              refine wpList_end ⟨fun _ _ => IsExt.of T.e, ?_⟩
              generalize V4.setCells b6 0 (H8 x).toList = V5 at *
              refine wpAnyT_ready (rs := [7]) (by kernel_rfl) (by decide) ?_
              refine AllT.cons rfl ?_ ?_
              · skip
                refine wpList_store_mid rfl 59 _ _ rfl b7 0 (H8 y) rfl rfl (there_block (T.hq) 0 8 (by simp [Z8, nums_size])) ts59 (H8_one _) ?_
                have T := T.store (y := y) HB.out
                refine wpList_end ⟨fun h _ => absurd rfl h, ?_⟩
                generalize V5.setCells b7 0 (H8 y).toList = V6 at *
                refine wpAnyT_done (by kernel_rfl) ?_
                go_wp2_with fail
                go_meet
                exact ⟨_, _, rfl, rfl, T⟩
              exact AllT.nil
            exact AllT.nil
          exact AllT.nil
        exact AllT.nil
      refine AllT.cons rfl ?_ ?_
      · skip
        refine al59 rfl rfl ?_
        have T := T.alloc_p
        refine wpList_end ⟨fun _ _ => IsExt.of T.e, ?_⟩
        generalize V1.alloc (.cells Z8 59) = V2 at *
        generalize V1.heap.size = b6 at *
        refine wpAnyT_ready (rs := [1]) (by kernel_rfl) (by decide) ?_
        refine AllT.cons rfl ?_ ?_
        · skip
          refine wpList_plain rfl (fun K hK => ?_)
          go_simp
          go_at_call 41
          refine (halves_p x _).mono ?_
          rintro e V3 ⟨rfl, hb⟩
          refine hK _ _ ?_
          clear hK K
          have T := T.call hb
          refine wpList_end ⟨fun _ _ => IsExt.of T.e, ?_⟩
          clear hb
          refine wpAnyT_ready (rs := [3]) (by kernel_rfl) (by decide) ?_
          refine AllT.cons rfl ?_ ?_
          · skip
            refine wpList_plain rfl (fun K hK => ?_)
            go_simp
            go_at_call 41
            refine (halves_p y _).mono ?_
            rintro e V4 ⟨rfl, hb⟩
            refine hK _ _ ?_
            clear hK K
            have T := T.call hb
            refine wpList_end ⟨fun _ _ => IsExt.of T.e, ?_⟩
            clear hb
            refine wpAnyT_ready (rs := [6]) (by kernel_rfl) (by decide) ?_
            refine AllT.cons rfl ?_ ?_
            · skip
              refine wpList_store_mid rfl 59 _ _ rfl b6 0 (H8 x) rfl rfl (there_block ((T.hp _ rfl).1) 0 8 (by simp [Z8, nums_size])) ts59 (H8_one _) ?_
              have T := T.store (x := x)
              refine wpList_end ⟨fun _ _ => IsExt.of T.e, ?_⟩
              generalize V4.setCells b6 0 (H8 x).toList = V5 at *
              refine wpAnyT_ready (rs := [7]) (by kernel_rfl) (by decide) ?_
              refine AllT.cons rfl ?_ ?_
              · skip
                refine wpList_store_mid rfl 59 _ _ rfl b7 0 (H8 y) rfl rfl (there_block (T.hq) 0 8 (by simp [Z8, nums_size])) ts59 (H8_one _) ?_
                have T := T.store (y := y) HB.out
                refine wpList_end ⟨fun h _ => absurd rfl h, ?_⟩
                generalize V5.setCells b7 0 (H8 y).toList = V6 at *
                refine wpAnyT_done (by kernel_rfl) ?_
                go_wp2_with fail
                go_meet
                exact ⟨_, _, rfl, rfl, T⟩
              exact AllT.nil
            exact AllT.nil
          exact AllT.nil
        exact AllT.nil
      exact AllT.nil
    exact AllT.nil
  case rest =>
    obtain ⟨b6, b7, rfl, rfl, hW⟩ := hcut
    have HW0 := Lib.hid hW
    clear hW HB0
    go_wp2_with ((with_reducible refine g_alloc 65 ?_); refine wpList_alloc_zero rfl 65 rfl _ zero65 ?_)
    generalize hb8 : wc.heap.size = b8 at *
    have HW1 := Lib.hid (HW0.out.alloc Z16 65 hb8)
    clear HW0 hb8
    go_loopw [9] (fun h wr => ∃ i : Nat, i ≤ 8 ∧ h = .int .i64 i ∧ Blks w [(w.heap.size, W x, 24), (w.heap.size + 1, W y, 24), (w.heap.size + 1 + 1, Z4, 24), (w.heap.size + 1 + 1 + 1, Z4, 24), (b6, H8 x, 59), (b7, H8 y, 59), (b8, nums .u64 16 (d32 (po B32 x y i)), 65)] wr) (fun h _ => 8 - (intOf h).toNat)
    case atStart =>
      exact ⟨0, by omega, rfl, by rw [po_zero, show nums .u64 16 (d32 0) = Z16 from nums_congr _ fun i _ => dg_zero i]; exact HW1.out⟩
    case round =>
      obtain ⟨i, hi, rfl, HW⟩ := hrel
      clear HW1
      by_cases hlt : i < 8
      · have hiI : (i : Int) < 8 := by omega
        have HWH := Lib.hid HW
        clear HW
        go_wp2_with fail
        obtain ⟨wo, rfl⟩ : ∃ wo : World, wo = wr := ⟨_, rfl⟩
        go_loopw [10, 11, 12] (fun c h _ wq => ∃ j : Nat, j ≤ 8 ∧ h = .int .i64 j ∧ c = .int .u64 (pc B32 x y i j) ∧ Blks w [(w.heap.size, W x, 24), (w.heap.size + 1, W y, 24), (w.heap.size + 1 + 1, Z4, 24), (w.heap.size + 1 + 1 + 1, Z4, 24), (b6, H8 x, 59), (b7, H8 y, 59), (b8, nums .u64 16 (tz32 x y i j), 65)] wq) (fun _ h _ _ => 8 - (intOf h).toNat)
        case atStart =>
          exact ⟨0, by omega, rfl, by rw [pc_zero], by rw [tz32_zero]; exact HWH.out⟩
        case round =>
          obtain ⟨j, hj, rfl, rfl, HQ⟩ := hrel
          clear HWH
          have HQH := Lib.hid HQ
          by_cases hlt2 : j < 8
          · have hjI : (j : Int) < 8 := by omega
            have hx0 := d32_lo x i
            have hx1 := d32_hi x i
            have hy0 := d32_lo y j
            have hy1 := d32_hi y j
            have ht0 := d32_lo (po B32 x y i) (i + j)
            have ht1 := d32_hi (po B32 x y i) (i + j)
            have hcb := pc_bd B32_pos x y i j
            have hc0 := hcb.1
            have hc1 : pc B32 x y i j ≤ 4294967295 := by have := hcb.2; unfold B32 at this ⊢; omega
            have hca : ∀ e : ExtOf wr, e.wd.cell? ⟨b8, i + j, none⟩ = some (.int .u64 (d32 (po B32 x y i) (i + j))) := fun e => by
              rw [(HQH.out.ext e.below).num 6 rfl (by omega), tz32_at]
            have hcx : ∀ e : ExtOf wr, e.wd.cell? ⟨b6, i, none⟩ = some (.int .u64 (d32 x i)) := fun e => (HQH.out.ext e.below).num 4 rfl hlt
            have hcy : ∀ e : ExtOf wr, e.wd.cell? ⟨b7, j, none⟩ = some (.int .u64 (d32 y j)) := fun e => (HQH.out.ext e.below).num 5 rfl hlt2
            have w1 : IntKind.i64.wrap ((i : Int) + j) = (i : Int) + j := IntWalk.i64_in _ (by omega)
            have p1 : (0 : Int) ≤ (i : Int) + j := by omega
            have p2 : (i : Int) + j < 16 := by omega
            have t1 : ((i : Int) + j).toNat = i + j := by omega
            have hP0 : 0 ≤ d32 x i * d32 y j := Int.mul_nonneg hx0 hy0
            have hP1 : d32 x i * d32 y j ≤ 4294967295 * 4294967295 := Int.mul_le_mul hx1 hy1 hy0 (by omega)
            have hdz := dg_pz B32_pos x y i j
            have hcz := pc_succ B32_pos x y i j
            change d32 (pz B32 x y i (j + 1)) (i + j) = (d32 x i * d32 y j + d32 (po B32 x y i) (i + j) + pc B32 x y i j) % 4294967296 at hdz
            change pc B32 x y i (j + 1) = (d32 x i * d32 y j + d32 (po B32 x y i) (i + j) + pc B32 x y i j) / 4294967296 at hcz
            generalize hP : d32 x i * d32 y j = P at *
            generalize d32 (po B32 x y i) (i + j) = t at *
            have e1 : IntKind.u64.wrap P = P := IntWalk.u64_in _ (by omega)
            have e2 : IntKind.u64.wrap (t + P) = t + P := IntWalk.u64_in _ (by omega)
            have e3 : IntKind.u64.wrap (t + P + pc B32 x y i j) = t + P + pc B32 x y i j := IntWalk.u64_in _ (by omega)
            have hand := u64_and32 (x := t + P + pc B32 x y i j) (by omega) (by omega)
            rw [show (t + P + pc B32 x y i j) % 4294967296 = d32 (pz B32 x y i (j + 1)) (i + j) by rw [hdz]; congr 1; omega] at hand
            have hcn : (t + P + pc B32 x y i j) / 4294967296 = pc B32 x y i (j + 1) := by rw [hcz]; congr 1; omega
            have hS0 : 0 ≤ t + P + pc B32 x y i j := by omega
            have hS1 : t + P + pc B32 x y i j ≤ 18446744073709551615 := by omega
            have E1 := Lib.hid e1
            have E2 := Lib.hid e2
            have E3 := Lib.hid e3
            have EP := Lib.hid hP
            have HA := Lib.hid hand
            have HC := Lib.hid hcn
            have W1 := Lib.hid w1
            have T1 := Lib.hid t1
            clear HQ hcb hdz hcz e1 e2 e3 hP hand hcn w1 t1 hP0 hP1
            go_wp2_with fail
            have e1 := E1.out
            have e2 := E2.out
            have e3 := E3.out
            have eP := EP.out
            have w1 := W1.out
            have t1 := T1.out
            refine wp_region_ext (by kernel_rfl) (by kernel_rfl) ?_
            iterate 16 (quiet_step (fail))
            refine wpQuiet_nil ?_
            rintro _ ⟨e, rfl⟩
            have HE := HQH.out.ext e.below
            have hcs : e.wd.cell? ⟨b8, i + j, none⟩ = some (.int .u64 t) := hca e
            have hfz := HE.frozen 6 rfl (i + j)
            have HS := Lib.hid (HE.set 6 rfl (i + j) (.int .u64 (d32 (pz B32 x y i (j + 1)) (i + j))) (tz32_step x y i j))
            have hand := HA.out
            have hcn := HC.out
            clear HE hca hcx hcy e1 e2 e3 eP w1 t1
            go_wp2_with fail
            go_roundw
            case rel => exact ⟨j + 1, by omega, by go_num, rfl, HS.out⟩
            case measure => simp [intOf]; omega
          · obtain rfl : j = 8 := by omega
            have hcell : wr.cell? ⟨b8, i + 8, none⟩ = some (.int .u64 (tz32 x y i 8 (i + 8))) := HQ.num 6 rfl (by omega)
            have hfz := HQ.frozen 6 rfl (i + 8)
            have HS := Lib.hid (HQ.set 6 rfl (i + 8) (.int .u64 (pc B32 x y i 8)) (tz32_row i HY.out.1 HY.out.2))
            clear HQ HQH
            go_wp2_with fail
            go_roundw
            case rel => exact ⟨i + 1, by omega, by go_num, HS.out⟩
            case measure => simp [intOf]; omega
      · obtain rfl : i = 8 := by omega
        have hx1 := HX.out.2
        rw [R256_32] at hx1
        rw [po_top HX.out.1 hx1] at HW
        have HWH := Lib.hid HW
        have HR1 : Hid (∀ e : ExtOf wr, e.wd.rangeAt b8 8 (H8 (x * y / R256)).toList) := Lib.hid fun e => range_nums ((HWH.out.ext e.below).get 6 rfl) 8 8 _ (by omega) (fun j hj => by rw [R256_32]; exact d32_shift _ _ _)
        have HR0 : Hid (∀ e : ExtOf wr, e.wd.rangeAt b8 0 (H8 (x * y)).toList) := Lib.hid fun e => range_nums ((HWH.out.ext e.below).get 6 rfl) 0 8 _ (by omega) (fun j hj => by rw [Nat.zero_add])
        clear HW hx1
        go_wp2_with fail
        have HWD := Lib.hid HWH.out.drew
        have hR1 := HR1.out ⟨wr.drew, (Below.refl _ _).drew⟩
        have hR0 : ∀ V, Below wr.drew.heap.size wr.drew V → V.rangeAt b8 0 (H8 (x * y)).toList := fun V hV => HR0.out ⟨V, below_all (Below.refl _ _).drew hV⟩
        have HRR1 : Hid (wr.drew.rangeAt b8 8 (H8 (x * y / R256)).toList) := Lib.hid hR1
        have HRR0 := Lib.hid hR0
        clear hR1 hR0
        refine wp_region_headany (fun _ => True) 5 [0, 2] 4 (by kernel_rfl) (by kernel_rfl) (fun d _ _ _ _ h => by cases d <;> exact h) trivial ?_
        simp only [List.map_cons, List.map_nil, List.getD_cons_zero, List.getD_cons_succ]
        iterate 2 (((with_reducible refine wpHead_step (fun K hK => ?_)); go_simp; refine hK _ ?_; clear hK K))
        refine wpHead_nil ?_
        generalize wr.drew = W1 at *
        refine wpAnyT_ready (rs := [1]) (by kernel_rfl) (by decide) ?_
        refine AllT.cons rfl ?_ AllT.nil
        refine wpList_plain rfl (fun K hK => ?_)
        go_simp
        go_at_call 42
        refine (join_p (x * y / R256) b8 8 8 _ HRR1.out).mono ?_
        rintro e V1 ⟨rfl, hV1⟩
        refine hK _ _ ?_
        clear hK K
        refine wpList_end ⟨fun _ _ => trivial, ?_⟩
        have H1 := HWD.out.ext hV1
        have hB1 := HRR0.out V1 hV1
        refine wpAnyT_ready (rs := [3]) (by kernel_rfl) (by decide) ?_
        refine AllT.cons rfl ?_ AllT.nil
        · refine wpList_plain rfl (fun K hK => ?_)
          go_simp
          go_at_call 42
          refine (join_p (x * y) b8 0 16 _ hB1).mono ?_
          rintro e V2 ⟨rfl, hV2⟩
          refine hK _ _ ?_
          clear hK K
          refine wpList_end ⟨fun _ _ => trivial, ?_⟩
          have H2 := H1.ext hV2
          refine wpAnyT_ready (rs := [4]) (by kernel_rfl) (by decide) ?_
          refine AllT.cons rfl ?_ AllT.nil
          refine wpList_blks_store H2 2 _ _ 24 rfl rfl _ _ rfl rfl (W (x * y / R256)) rfl rfl ts24 (W_one _) ?_
          intro V3 H3
          refine wpList_end ⟨fun _ _ => trivial, ?_⟩
          refine wpAnyT_ready (rs := [5]) (by kernel_rfl) (by decide) ?_
          refine AllT.cons rfl ?_ AllT.nil
          refine wpList_blks_store H3 3 _ _ 24 rfl rfl _ _ rfl rfl (W (x * y)) rfl rfl ts24 (W_one _) ?_
          intro V4 H4
          refine wpList_end ⟨fun _ _ => trivial, ?_⟩
          refine wpAnyT_done (by kernel_rfl) ?_
          go_wp2_with fail
          exact bodyPost_ret (results_cell2 rfl _ _ (w.heap.size + 1 + 1) (w.heap.size + 1 + 1 + 1) 24 (W (x * y / R256)) (W (x * y)) _ rfl rfl (H4.get 2 rfl) (H4.get 3 rfl) tu24 rfl ts24 ts24) rfl ⟨rfl, H4.below⟩
end Go.Proofs.Ytjmckfebnoaheaa
