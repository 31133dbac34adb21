/- LimbsRests, walked. -/
import Derived.Test.YtjmckfebnoaheaaE4
import Derived.Test.YtjmckfebnoaheaaD0
set_option linter.unusedVariables false
namespace Go.Proofs.Ytjmckfebnoaheaa
open Go.RowKit Go.KK Go.Lm
/-- Both divisions' one answer. -/
theorem div_any {x y : Int} (hx0 : 0 ≤ x) (hx1 : x < R256) (hy0 : 0 ≤ y) (hy1 : y ≤ 18446744073709551615) : ∃ q r e : Int,
    (∀ W', Calls Try.prog 18 #[.agg (W x), .int .u64 y] W' fun o w' => o = .returned (.tuple #[.agg (W q), .int .u64 r, .int .i64 e]) ∧ Below W'.heap.size W' w') ∧
    (∀ W', Calls Try.prog 19 #[.agg (W x), .int .u64 y] W' fun o w' => o = .returned (.tuple #[.agg (W q), .int .u64 r, .int .i64 e]) ∧ Below W'.heap.size W' w') := by
  by_cases h : y = 0
  · subst h; exact ⟨0, 0, 22, fun W' => div_z x W', fun W' => rdiv_z x W'⟩
  · exact ⟨x / y, x % y, 0, fun W' => div_p hx0 hx1 (by omega) hy1 W', fun W' => rdiv_p hx0 hx1 (by omega) hy1 W'⟩
theorem mod_any {h l m : Int} (hh0 : 0 ≤ h) (hh1 : h < R256) (hl0 : 0 ≤ l) (hl1 : l < R256) (hm0 : 0 ≤ m) (hm1 : m < R256) : ∃ r e : Int,
    (∀ W', Calls Try.prog 20 #[.agg (W h), .agg (W l), .agg (W m)] W' fun o w' => o = .returned (.tuple #[.agg (W r), .int .i64 e]) ∧ Below W'.heap.size W' w') ∧
    (∀ W', Calls Try.prog 21 #[.agg (W h), .agg (W l), .agg (W m)] W' fun o w' => o = .returned (.tuple #[.agg (W r), .int .i64 e]) ∧ Below W'.heap.size W' w') := by
  by_cases h : m = 0
  · subst h; exact ⟨0, 22, fun W' => mod_z _ _ W', fun W' => rmod_z _ _ W'⟩
  · exact ⟨_, 0, fun W' => mod_p hh0 hh1 hl0 hl1 (by omega) hm1 W', fun W' => rmod_p hh0 hh1 hl0 hl1 (by omega) hm1 W'⟩
set_option maxRecDepth 100000 in
set_option maxHeartbeats 8000000 in
theorem LimbsRests_walk {a y h m : Int} (ha0 : 0 ≤ a) (ha1 : a < R256) (hy0 : 0 ≤ y) (hy1 : y ≤ 18446744073709551615) (hh0 : 0 ≤ h) (hh1 : h < R256) (hm0 : 0 ≤ m) (hm1 : m < R256) (w : World) :
    Calls Try.prog 4 #[.agg (W a), .int .u64 y, .agg (W h), .agg (W m)] w fun e w' => e = .returned (.bool true) ∧ Below w.heap.size w w' := by
  obtain ⟨q, r, e, hD, hE⟩ := div_any ha0 ha1 hy0 hy1
  obtain ⟨s, f, hM, hN⟩ := mod_any hh0 hh1 ha0 ha1 hm0 hm1
  have HD := Lib.hid hD
  have HE := Lib.hid hE
  have HM := Lib.hid hM
  have HF := Lib.hid hN
  have heq := eqlW_self
  have H0 := (((Blks.nil w).alloc (W a) 24 rfl).alloc (W h) 24 (b := w.heap.size + 1) (by simp)).alloc (W m) 24 (b := w.heap.size + 1 + 1) (by simp)
  have HH := Lib.hid H0
  clear H0 hD hE hM hN ha0 ha1 hy0 hy1 hh0 hh1 hm0 hm1
  go_enter Try.func4, Try.ntmps4
  go_upto_region 2 with (first
    | ((with_reducible refine g_load 24 ?_); refine wpList_blks_load HH.out 0 _ _ 24 rfl rfl (.tmp 4) rfl rfl tu24 rfl ts24 ?_)
    | (go_at_call 18; refine (HD.out _).mono ?_; rintro _ V ⟨rfl, hV⟩)
    | ((with_reducible refine g_store 24 ?_); refine wpList_blks_store ((HH.out.ext hV).alloc Z4 24 rfl) 3 _ _ 24 rfl rfl _ _ rfl rfl (W q) rfl rfl ts24 (W_one _) ?_; intro w1 H1))
  generalize hgv : V.heap.size = g0 at *
  clear hgv
  have HN : Hid (Blks w [(w.heap.size, W a, 24), ((w.heap.size + 1), W h, 24), ((w.heap.size + 1 + 1), W m, 24), (g0, W q, 24)] _) := Lib.hid H1
  clear hV H1 HH
  have HH := HN
  clear HN
  go_upto_region 3 with (first
    | ((with_reducible refine g_load 24 ?_); refine wpList_blks_load HH.out 0 _ _ 24 rfl rfl (.tmp 4) rfl rfl tu24 rfl ts24 ?_)
    | (go_at_call 19; refine (HE.out _).mono ?_; rintro _ V ⟨rfl, hV⟩)
    | ((with_reducible refine g_store 24 ?_); refine wpList_blks_store ((HH.out.ext hV).alloc Z4 24 rfl) 4 _ _ 24 rfl rfl _ _ rfl rfl (W q) rfl rfl ts24 (W_one _) ?_; intro w1 H1))
  generalize hgv : V.heap.size = g1 at *
  clear hgv
  have HN : Hid (Blks w [(w.heap.size, W a, 24), ((w.heap.size + 1), W h, 24), ((w.heap.size + 1 + 1), W m, 24), (g0, W q, 24), (g1, W q, 24)] _) := Lib.hid H1
  clear hV H1 HH
  have HH := HN
  clear HN
  go_upto_region 4 with (first
    | ((with_reducible refine g_load 24 ?_); refine wpList_blks_load HH.out 1 _ _ 24 rfl rfl (.tmp 6) rfl rfl tu24 rfl ts24 ?_)
    | ((with_reducible refine g_load 24 ?_); refine wpList_blks_load HH.out 0 _ _ 24 rfl rfl (.tmp 4) rfl rfl tu24 rfl ts24 ?_)
    | ((with_reducible refine g_load 24 ?_); refine wpList_blks_load HH.out 2 _ _ 24 rfl rfl (.tmp 7) rfl rfl tu24 rfl ts24 ?_)
    | (go_at_call 20; refine (HM.out _).mono ?_; rintro _ V ⟨rfl, hV⟩)
    | ((with_reducible refine g_store 24 ?_); refine wpList_blks_store ((HH.out.ext hV).alloc Z4 24 rfl) 5 _ _ 24 rfl rfl _ _ rfl rfl (W s) rfl rfl ts24 (W_one _) ?_; intro w1 H1))
  generalize hgv : V.heap.size = g2 at *
  clear hgv
  have HN : Hid (Blks w [(w.heap.size, W a, 24), ((w.heap.size + 1), W h, 24), ((w.heap.size + 1 + 1), W m, 24), (g0, W q, 24), (g1, W q, 24), (g2, W s, 24)] _) := Lib.hid H1
  clear hV H1 HH
  have HH := HN
  clear HN
  go_upto_region 5 with (first
    | ((with_reducible refine g_load 24 ?_); refine wpList_blks_load HH.out 1 _ _ 24 rfl rfl (.tmp 6) rfl rfl tu24 rfl ts24 ?_)
    | ((with_reducible refine g_load 24 ?_); refine wpList_blks_load HH.out 0 _ _ 24 rfl rfl (.tmp 4) rfl rfl tu24 rfl ts24 ?_)
    | ((with_reducible refine g_load 24 ?_); refine wpList_blks_load HH.out 2 _ _ 24 rfl rfl (.tmp 7) rfl rfl tu24 rfl ts24 ?_)
    | (go_at_call 21; refine (HF.out _).mono ?_; rintro _ V ⟨rfl, hV⟩)
    | ((with_reducible refine g_store 24 ?_); refine wpList_blks_store ((HH.out.ext hV).alloc Z4 24 rfl) 6 _ _ 24 rfl rfl _ _ rfl rfl (W s) rfl rfl ts24 (W_one _) ?_; intro w1 H1))
  generalize hgv : V.heap.size = g3 at *
  clear hgv
  have HN : Hid (Blks w [(w.heap.size, W a, 24), ((w.heap.size + 1), W h, 24), ((w.heap.size + 1 + 1), W m, 24), (g0, W q, 24), (g1, W q, 24), (g2, W s, 24), (g3, W s, 24)] _) := Lib.hid H1
  clear hV H1 HH
  have HH := HN
  clear HN
  go_wp2_with (first
    | ((with_reducible refine g_load 24 ?_); refine wpList_blks_load HH.out 3 _ _ 24 rfl rfl (.tmp 9) rfl rfl tu24 rfl ts24 ?_)
    | ((with_reducible refine g_load 24 ?_); refine wpList_blks_load HH.out 4 _ _ 24 rfl rfl (.tmp 12) rfl rfl tu24 rfl ts24 ?_)
    | ((with_reducible refine g_load 24 ?_); refine wpList_blks_load HH.out 5 _ _ 24 rfl rfl (.tmp 15) rfl rfl tu24 rfl ts24 ?_)
    | ((with_reducible refine g_load 24 ?_); refine wpList_blks_load HH.out 6 _ _ 24 rfl rfl (.tmp 17) rfl rfl tu24 rfl ts24 ?_)
    | ((with_reducible refine g_load 24 ?_); refine wpList_blks_loadg HH.out 5 _ _ 24 rfl rfl (.tmp 15) rfl rfl tu24 rfl ts24 ?_)
    | ((with_reducible refine g_load 24 ?_); refine wpList_blks_loadg HH.out 6 _ _ 24 rfl rfl (.tmp 17) rfl rfl tu24 rfl ts24 ?_)
    | (go_at_call 17; refine (alive_p _).mono ?_; rintro _ V ⟨rfl, hV⟩)
    | (go_at_call 22; refine (num_p _ _).mono ?_; rintro _ V2 ⟨rfl, rfl⟩))
  go_ret
  exact ⟨rfl, (HH.out.ext hV).below⟩
end Go.Proofs.Ytjmckfebnoaheaa
