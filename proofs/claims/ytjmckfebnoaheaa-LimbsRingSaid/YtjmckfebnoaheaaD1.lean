/- LimbsRing, walked. -/
import Derived.Test.YtjmckfebnoaheaaD0
set_option linter.unusedVariables false
namespace Go.Proofs.Ytjmckfebnoaheaa
open Go.RowKit Go.KK Go.Lm
set_option maxRecDepth 100000 in
set_option maxHeartbeats 8000000 in
theorem ring_zero {a b : Int} (ha0 : 0 ≤ a) (ha1 : a < R256) (hb0 : 0 ≤ b) (hb1 : b < R256) (w : World) :
    Calls Try.prog 5 #[.agg (W a), .agg (W b), .agg (W 0)] w fun e w' => e = .returned (.bool true) ∧ Below w.heap.size w w' := by
  have hov := ring_over ha0 ha1 hb0 hb1
  have hsub := Lib.hid (sub_p (a + b) b)
  rw [Int.add_sub_cancel, hov] at hsub
  have HAC := Lib.hid (fun W' => mul_p ha0 ha1 (Int.le_refl 0) R256_pos W')
  have HBC := Lib.hid (fun W' => mul_p hb0 hb1 (Int.le_refl 0) R256_pos W')
  have HSC := Lib.hid (fun W' => mulS (a := a) (b := b) (Int.le_refl 0) R256_pos W')
  have HAB := Lib.hid (fun W' => mul_p ha0 ha1 hb0 hb1 W')
  have HBA := Lib.hid (fun W' => mul_p hb0 hb1 ha0 ha1 W')
  rw [Int.mul_comm b a] at HBA
  have HMZ := Lib.hid (fun W' => mod_z (a * b / R256) (a * b) W')
  rw [Int.mul_zero, Int.zero_ediv] at HAC HBC
  rw [Int.mul_zero, Int.mul_zero, Int.mul_zero, Int.zero_ediv, Int.add_zero] at HSC
  have HZZ := Lib.hid (fun W' => add_p 0 0 W')
  rw [Int.add_zero] at HZZ
  have hnq := neqW_self
  have heq := eqlW_self
  have H0 := (((Blks.nil w).alloc (W a) 24 rfl).alloc (W b) 24 (b := w.heap.size + 1) (by simp)).alloc (W 0) 24 (b := w.heap.size + 1 + 1) (by simp)
  have HH := Lib.hid H0
  clear H0 hov ha0 ha1 hb0 hb1
  go_enter Try.func5, Try.ntmps5
  go_wp2_with fail
  refine (alive_p _).mono ?_
  rintro _ V0 ⟨rfl, hV0⟩
  have HN := Lib.hid (HH.out.ext hV0)
  clear HH hV0
  have HH := HN
  clear HN
  go_upto_region 4 with (first
    | ((with_reducible refine g_load 24 ?_); refine wpList_blks_load HH.out 0 _ _ 24 rfl rfl (.tmp 3) rfl rfl tu24 rfl ts24 ?_)
    | ((with_reducible refine g_load 24 ?_); refine wpList_blks_load HH.out 1 _ _ 24 rfl rfl (.tmp 4) rfl rfl tu24 rfl ts24 ?_)
    | (go_at_call 9; refine (add_p a b _).mono ?_; rintro _ V ⟨rfl, hV⟩)
    | ((with_reducible refine g_store 24 ?_); refine wpList_blks_store ((HH.out.ext hV).alloc Z4 24 rfl) 3 _ _ 24 rfl rfl _ _ rfl rfl (W (a + b)) rfl rfl ts24 (W_one _) ?_; intro w1 H1))
  generalize hgv : V.heap.size = g0 at *
  clear hgv
  have HN : Hid (Blks w [(w.heap.size, W a, 24), ((w.heap.size + 1), W b, 24), ((w.heap.size + 1 + 1), W 0, 24), (g0, W (a + b), 24)] _) := Lib.hid H1
  clear hV H1 HH
  have HH := HN
  clear HN
  go_upto_region 5 with (first
    | ((with_reducible refine g_load 24 ?_); refine wpList_blks_load HH.out 3 _ _ 24 rfl rfl (.tmp 7) rfl rfl tu24 rfl ts24 ?_)
    | ((with_reducible refine g_load 24 ?_); refine wpList_blks_load HH.out 1 _ _ 24 rfl rfl (.tmp 4) rfl rfl tu24 rfl ts24 ?_)
    | (go_at_call 11; refine (hsub.out _).mono ?_; rintro _ V ⟨rfl, hV⟩)
    | ((with_reducible refine g_store 24 ?_); refine wpList_blks_store ((HH.out.ext hV).alloc Z4 24 rfl) 4 _ _ 24 rfl rfl _ _ rfl rfl (W a) rfl rfl ts24 (W_one _) ?_; intro w1 H1))
  generalize hgv : V.heap.size = g1 at *
  clear hgv
  have HN : Hid (Blks w [(w.heap.size, W a, 24), ((w.heap.size + 1), W b, 24), ((w.heap.size + 1 + 1), W 0, 24), (g0, W (a + b), 24), (g1, W a, 24)] _) := Lib.hid H1
  clear hV H1 HH
  have HH := HN
  clear HN
  generalize c64 a b 4 = cy at *
  go_upto_region 8 with (first
    | ((with_reducible refine g_load 24 ?_); refine wpList_blks_load HH.out 4 _ _ 24 rfl rfl (.tmp 9) rfl rfl tu24 rfl ts24 ?_)
    | ((with_reducible refine g_load 24 ?_); refine wpList_blks_load HH.out 0 _ _ 24 rfl rfl (.tmp 3) rfl rfl tu24 rfl ts24 ?_)
    | ((with_reducible refine g_load 24 ?_); refine wpList_blks_load HH.out 2 _ _ 24 rfl rfl (.tmp 5) rfl rfl tu24 rfl ts24 ?_)
    | (go_at_call 13; refine (HAC.out _).mono ?_; rintro _ V ⟨rfl, hV⟩)
    | ((with_reducible refine g_store 24 ?_); refine wpList_blks_store (((HH.out.ext hV).alloc Z4 24 rfl).alloc Z4 24 (b := V.heap.size + 1) (by simp)) 5 _ _ 24 rfl rfl (.tmp 11) _ rfl rfl (W 0) rfl rfl ts24 (W_one _) ?_; intro w1 H1)
    | ((with_reducible refine g_store 24 ?_); refine wpList_blks_store H1 6 _ _ 24 rfl rfl (.tmp 12) _ rfl rfl (W 0) rfl rfl ts24 (W_one _) ?_; intro w2 H2))
  generalize hgv : V.heap.size = g2 at *
  clear hgv
  have HN : Hid (Blks w [(w.heap.size, W a, 24), ((w.heap.size + 1), W b, 24), ((w.heap.size + 1 + 1), W 0, 24), (g0, W (a + b), 24), (g1, W a, 24), (g2, W 0, 24), ((g2 + 1), W 0, 24)] _) := Lib.hid H2
  clear hV H1 H2 HH
  have HH := HN
  clear HN
  go_upto_region 9 with (first
    | ((with_reducible refine g_load 24 ?_); refine wpList_blks_load HH.out 1 _ _ 24 rfl rfl (.tmp 4) rfl rfl tu24 rfl ts24 ?_)
    | ((with_reducible refine g_load 24 ?_); refine wpList_blks_load HH.out 2 _ _ 24 rfl rfl (.tmp 5) rfl rfl tu24 rfl ts24 ?_)
    | (go_at_call 13; refine (HBC.out _).mono ?_; rintro _ V ⟨rfl, hV⟩)
    | ((with_reducible refine g_store 24 ?_); refine wpList_blks_store (((HH.out.ext hV).alloc Z4 24 rfl).alloc Z4 24 (b := V.heap.size + 1) (by simp)) 7 _ _ 24 rfl rfl (.tmp 13) _ rfl rfl (W 0) rfl rfl ts24 (W_one _) ?_; intro w1 H1)
    | ((with_reducible refine g_store 24 ?_); refine wpList_blks_store H1 8 _ _ 24 rfl rfl (.tmp 14) _ rfl rfl (W 0) rfl rfl ts24 (W_one _) ?_; intro w2 H2))
  generalize hgv : V.heap.size = g3 at *
  clear hgv
  have HN : Hid (Blks w [(w.heap.size, W a, 24), ((w.heap.size + 1), W b, 24), ((w.heap.size + 1 + 1), W 0, 24), (g0, W (a + b), 24), (g1, W a, 24), (g2, W 0, 24), ((g2 + 1), W 0, 24), (g3, W 0, 24), ((g3 + 1), W 0, 24)] _) := Lib.hid H2
  clear hV H1 H2 HH
  have HH := HN
  clear HN
  go_upto_region 10 with (first
    | ((with_reducible refine g_load 24 ?_); refine wpList_blks_load HH.out 3 _ _ 24 rfl rfl (.tmp 7) rfl rfl tu24 rfl ts24 ?_)
    | ((with_reducible refine g_load 24 ?_); refine wpList_blks_load HH.out 2 _ _ 24 rfl rfl (.tmp 5) rfl rfl tu24 rfl ts24 ?_)
    | (go_at_call 13; refine (HSC.out _).mono ?_; rintro _ V ⟨rfl, hV⟩)
    | ((with_reducible refine g_store 24 ?_); refine wpList_blks_store (((HH.out.ext hV).alloc Z4 24 rfl).alloc Z4 24 (b := V.heap.size + 1) (by simp)) 9 _ _ 24 rfl rfl (.tmp 15) _ rfl rfl (W 0) rfl rfl ts24 (W_one _) ?_; intro w1 H1)
    | ((with_reducible refine g_store 24 ?_); refine wpList_blks_store H1 10 _ _ 24 rfl rfl (.tmp 16) _ rfl rfl (W 0) rfl rfl ts24 (W_one _) ?_; intro w2 H2))
  generalize hgv : V.heap.size = g4 at *
  clear hgv
  have HN : Hid (Blks w [(w.heap.size, W a, 24), ((w.heap.size + 1), W b, 24), ((w.heap.size + 1 + 1), W 0, 24), (g0, W (a + b), 24), (g1, W a, 24), (g2, W 0, 24), ((g2 + 1), W 0, 24), (g3, W 0, 24), ((g3 + 1), W 0, 24), (g4, W 0, 24), ((g4 + 1), W 0, 24)] _) := Lib.hid H2
  clear hV H1 H2 HH
  have HH := HN
  clear HN
  go_upto_region 11 with (first
    | ((with_reducible refine g_load 24 ?_); refine wpList_blks_load HH.out 6 _ _ 24 rfl rfl (.tmp 12) rfl rfl tu24 rfl ts24 ?_)
    | ((with_reducible refine g_load 24 ?_); refine wpList_blks_load HH.out 8 _ _ 24 rfl rfl (.tmp 14) rfl rfl tu24 rfl ts24 ?_)
    | (go_at_call 9; refine (HZZ.out _).mono ?_; rintro _ V ⟨rfl, hV⟩)
    | ((with_reducible refine g_store 24 ?_); refine wpList_blks_store ((HH.out.ext hV).alloc Z4 24 rfl) 11 _ _ 24 rfl rfl _ _ rfl rfl (W 0) rfl rfl ts24 (W_one _) ?_; intro w1 H1))
  generalize hgv : V.heap.size = g5 at *
  clear hgv
  have HN : Hid (Blks w [(w.heap.size, W a, 24), ((w.heap.size + 1), W b, 24), ((w.heap.size + 1 + 1), W 0, 24), (g0, W (a + b), 24), (g1, W a, 24), (g2, W 0, 24), ((g2 + 1), W 0, 24), (g3, W 0, 24), ((g3 + 1), W 0, 24), (g4, W 0, 24), ((g4 + 1), W 0, 24), (g5, W 0, 24)] _) := Lib.hid H1
  clear hV H1 HH
  have HH := HN
  clear HN
  go_upto_region 12 with (first
    | ((with_reducible refine g_load 24 ?_); refine wpList_blks_load HH.out 0 _ _ 24 rfl rfl (.tmp 3) rfl rfl tu24 rfl ts24 ?_)
    | ((with_reducible refine g_load 24 ?_); refine wpList_blks_load HH.out 1 _ _ 24 rfl rfl (.tmp 4) rfl rfl tu24 rfl ts24 ?_)
    | (go_at_call 13; refine (HAB.out _).mono ?_; rintro _ V ⟨rfl, hV⟩)
    | ((with_reducible refine g_store 24 ?_); refine wpList_blks_store (((HH.out.ext hV).alloc Z4 24 rfl).alloc Z4 24 (b := V.heap.size + 1) (by simp)) 12 _ _ 24 rfl rfl (.tmp 19) _ rfl rfl (W (a * b / R256)) rfl rfl ts24 (W_one _) ?_; intro w1 H1)
    | ((with_reducible refine g_store 24 ?_); refine wpList_blks_store H1 13 _ _ 24 rfl rfl (.tmp 20) _ rfl rfl (W (a * b)) rfl rfl ts24 (W_one _) ?_; intro w2 H2))
  generalize hgv : V.heap.size = g6 at *
  clear hgv
  have HN : Hid (Blks w [(w.heap.size, W a, 24), ((w.heap.size + 1), W b, 24), ((w.heap.size + 1 + 1), W 0, 24), (g0, W (a + b), 24), (g1, W a, 24), (g2, W 0, 24), ((g2 + 1), W 0, 24), (g3, W 0, 24), ((g3 + 1), W 0, 24), (g4, W 0, 24), ((g4 + 1), W 0, 24), (g5, W 0, 24), (g6, W (a * b / R256), 24), ((g6 + 1), W (a * b), 24)] _) := Lib.hid H2
  clear hV H1 H2 HH
  have HH := HN
  clear HN
  go_upto_region 13 with (first
    | ((with_reducible refine g_load 24 ?_); refine wpList_blks_load HH.out 1 _ _ 24 rfl rfl (.tmp 4) rfl rfl tu24 rfl ts24 ?_)
    | ((with_reducible refine g_load 24 ?_); refine wpList_blks_load HH.out 0 _ _ 24 rfl rfl (.tmp 3) rfl rfl tu24 rfl ts24 ?_)
    | (go_at_call 13; refine (HBA.out _).mono ?_; rintro _ V ⟨rfl, hV⟩)
    | ((with_reducible refine g_store 24 ?_); refine wpList_blks_store (((HH.out.ext hV).alloc Z4 24 rfl).alloc Z4 24 (b := V.heap.size + 1) (by simp)) 14 _ _ 24 rfl rfl (.tmp 21) _ rfl rfl (W (a * b / R256)) rfl rfl ts24 (W_one _) ?_; intro w1 H1)
    | ((with_reducible refine g_store 24 ?_); refine wpList_blks_store H1 15 _ _ 24 rfl rfl (.tmp 22) _ rfl rfl (W (a * b)) rfl rfl ts24 (W_one _) ?_; intro w2 H2))
  generalize hgv : V.heap.size = g7 at *
  clear hgv
  have HN : Hid (Blks w [(w.heap.size, W a, 24), ((w.heap.size + 1), W b, 24), ((w.heap.size + 1 + 1), W 0, 24), (g0, W (a + b), 24), (g1, W a, 24), (g2, W 0, 24), ((g2 + 1), W 0, 24), (g3, W 0, 24), ((g3 + 1), W 0, 24), (g4, W 0, 24), ((g4 + 1), W 0, 24), (g5, W 0, 24), (g6, W (a * b / R256), 24), ((g6 + 1), W (a * b), 24), (g7, W (a * b / R256), 24), ((g7 + 1), W (a * b), 24)] _) := Lib.hid H2
  clear hV H1 H2 HH
  have HH := HN
  clear HN
  go_upto_region 16 with (first
    | (fail)
    | ((with_reducible refine g_load 24 ?_); refine wpList_blks_loadg HH.out 12 _ _ 24 rfl rfl (.tmp 19) rfl rfl tu24 rfl ts24 ?_)
    | ((with_reducible refine g_load 24 ?_); refine wpList_blks_loadg HH.out 14 _ _ 24 rfl rfl (.tmp 21) rfl rfl tu24 rfl ts24 ?_)
    | ((with_reducible refine g_load 24 ?_); refine wpList_blks_loadg HH.out 13 _ _ 24 rfl rfl (.tmp 20) rfl rfl tu24 rfl ts24 ?_)
    | ((with_reducible refine g_load 24 ?_); refine wpList_blks_loadg HH.out 15 _ _ 24 rfl rfl (.tmp 22) rfl rfl tu24 rfl ts24 ?_)
    | ((with_reducible refine g_load 24 ?_); refine wpList_blks_load HH.out 10 _ _ 24 rfl rfl (.tmp 16) rfl rfl tu24 rfl ts24 ?_)
    | ((with_reducible refine g_load 24 ?_); refine wpList_blks_load HH.out 11 _ _ 24 rfl rfl (.tmp 17) rfl rfl tu24 rfl ts24 ?_)
    | ((with_reducible refine g_load 24 ?_); refine wpList_blks_load HH.out 12 _ _ 24 rfl rfl (.tmp 19) rfl rfl tu24 rfl ts24 ?_)
    | ((with_reducible refine g_load 24 ?_); refine wpList_blks_load HH.out 13 _ _ 24 rfl rfl (.tmp 20) rfl rfl tu24 rfl ts24 ?_)
    | ((with_reducible refine g_load 24 ?_); refine wpList_blks_load HH.out 2 _ _ 24 rfl rfl (.tmp 5) rfl rfl tu24 rfl ts24 ?_)
    | (go_at_call 20; refine (HMZ.out _).mono ?_; rintro _ V ⟨rfl, hV⟩)
    | ((with_reducible refine g_store 24 ?_); refine wpList_blks_store ((HH.out.ext hV).alloc Z4 24 rfl) 16 _ _ 24 rfl rfl _ _ rfl rfl (W 0) rfl rfl ts24 (W_one _) ?_; intro w1 H1))
  generalize hgv : V.heap.size = g8 at *
  clear hgv
  have HN : Hid (Blks w [(w.heap.size, W a, 24), ((w.heap.size + 1), W b, 24), ((w.heap.size + 1 + 1), W 0, 24), (g0, W (a + b), 24), (g1, W a, 24), (g2, W 0, 24), ((g2 + 1), W 0, 24), (g3, W 0, 24), ((g3 + 1), W 0, 24), (g4, W 0, 24), ((g4 + 1), W 0, 24), (g5, W 0, 24), (g6, W (a * b / R256), 24), ((g6 + 1), W (a * b), 24), (g7, W (a * b / R256), 24), ((g7 + 1), W (a * b), 24), (g8, W 0, 24)] _) := Lib.hid H1
  clear hV H1 HH
  have HH := HN
  clear HN
  have heq2 : ∀ W', (binOp .eql 24 (.agg (W 0)) (.agg #[.int .u64 0, .int .u64 0, .int .u64 0, .int .u64 0])).run Try.prog W' = .ok (.bool true) W' := eqlW_self 0
  go_wp2_with (first
    | (go_at_call 22; refine (num_p 22 _).mono ?_; rintro _ V2 ⟨rfl, rfl⟩)
    | ((with_reducible refine g_load 24 ?_); refine wpList_blks_load HH.out 2 _ _ 24 rfl rfl (.tmp 5) rfl rfl tu24 rfl ts24 ?_))
  go_ret
  exact ⟨rfl, HH.out.below⟩
set_option maxRecDepth 100000 in
set_option maxHeartbeats 8000000 in
theorem ring_pos {a b c : Int} (ha0 : 0 ≤ a) (ha1 : a < R256) (hb0 : 0 ≤ b) (hb1 : b < R256) (hc0 : 0 < c) (hc1 : c < R256) (w : World) :
    Calls Try.prog 5 #[.agg (W a), .agg (W b), .agg (W c)] w fun e w' => e = .returned (.bool true) ∧ Below w.heap.size w w' := by
  have hov := ring_over ha0 ha1 hb0 hb1
  have hsub := Lib.hid (sub_p (a + b) b)
  rw [Int.add_sub_cancel, hov] at hsub
  have HAC := Lib.hid (fun W' => mul_p ha0 ha1 (Int.le_of_lt hc0) hc1 W')
  have HBC := Lib.hid (fun W' => mul_p hb0 hb1 (Int.le_of_lt hc0) hc1 W')
  have HSC := Lib.hid (fun W' => mulS (a := a) (b := b) (Int.le_of_lt hc0) hc1 W')
  have HAB := Lib.hid (fun W' => mul_p ha0 ha1 hb0 hb1 W')
  have HBA := Lib.hid (fun W' => mul_p hb0 hb1 ha0 ha1 W')
  rw [Int.mul_comm b a] at HBA
  have HMP := Lib.hid (fun W' => modP ha0 ha1 hb0 hb1 hc0 hc1 W')
  have HMA := Lib.hid (fun W' => mod0 ha0 ha1 hc0 hc1 W')
  have HMB := Lib.hid (fun W' => mod0 hb0 hb1 hc0 hc1 W')
  have hra0 := Int.emod_nonneg a (show c ≠ 0 by omega)
  have hra1 := Int.emod_lt_of_pos a hc0
  have hrb0 := Int.emod_nonneg b (show c ≠ 0 by omega)
  have hrb1 := Int.emod_lt_of_pos b hc0
  have hrm0 := Int.emod_nonneg (a * b) (show c ≠ 0 by omega)
  have hrm1 := Int.emod_lt_of_pos (a * b) hc0
  have HPQ := Lib.hid (fun W' => mul_p hra0 (show a % c < R256 by omega) hrb0 (show b % c < R256 by omega) W')
  have HMN := Lib.hid (fun W' => modP hra0 (show a % c < R256 by omega) hrb0 (show b % c < R256 by omega) hc0 hc1 W')
  rw [show a % c * (b % c) % c = a * b % c from (Int.mul_emod a b c).symm] at HMN
  have HCM := Lib.hid (fun W' => cmp_p hrm0 (show a * b % c < R256 by omega) (Int.le_of_lt hc0) hc1 W')
  rw [cmpI_lt hrm1] at HCM
  have hnq := neqW_self
  have heq := eqlW_self
  have H0 := (((Blks.nil w).alloc (W a) 24 rfl).alloc (W b) 24 (b := w.heap.size + 1) (by simp)).alloc (W c) 24 (b := w.heap.size + 1 + 1) (by simp)
  have HH := Lib.hid H0
  clear H0 hov ha0 ha1 hb0 hb1 hc0 hc1 hra0 hra1 hrb0 hrb1 hrm0 hrm1
  go_enter Try.func5, Try.ntmps5
  go_wp2_with fail
  refine (alive_p _).mono ?_
  rintro _ V0 ⟨rfl, hV0⟩
  have HN := Lib.hid (HH.out.ext hV0)
  clear HH hV0
  have HH := HN
  clear HN
  go_upto_region 4 with (first
    | ((with_reducible refine g_load 24 ?_); refine wpList_blks_load HH.out 0 _ _ 24 rfl rfl (.tmp 3) rfl rfl tu24 rfl ts24 ?_)
    | ((with_reducible refine g_load 24 ?_); refine wpList_blks_load HH.out 1 _ _ 24 rfl rfl (.tmp 4) rfl rfl tu24 rfl ts24 ?_)
    | (go_at_call 9; refine (add_p a b _).mono ?_; rintro _ V ⟨rfl, hV⟩)
    | ((with_reducible refine g_store 24 ?_); refine wpList_blks_store ((HH.out.ext hV).alloc Z4 24 rfl) 3 _ _ 24 rfl rfl _ _ rfl rfl (W (a + b)) rfl rfl ts24 (W_one _) ?_; intro w1 H1))
  generalize hgv : V.heap.size = g0 at *
  clear hgv
  have HN : Hid (Blks w [(w.heap.size, W a, 24), ((w.heap.size + 1), W b, 24), ((w.heap.size + 1 + 1), W c, 24), (g0, W (a + b), 24)] _) := Lib.hid H1
  clear hV H1 HH
  have HH := HN
  clear HN
  go_upto_region 5 with (first
    | ((with_reducible refine g_load 24 ?_); refine wpList_blks_load HH.out 3 _ _ 24 rfl rfl (.tmp 7) rfl rfl tu24 rfl ts24 ?_)
    | ((with_reducible refine g_load 24 ?_); refine wpList_blks_load HH.out 1 _ _ 24 rfl rfl (.tmp 4) rfl rfl tu24 rfl ts24 ?_)
    | (go_at_call 11; refine (hsub.out _).mono ?_; rintro _ V ⟨rfl, hV⟩)
    | ((with_reducible refine g_store 24 ?_); refine wpList_blks_store ((HH.out.ext hV).alloc Z4 24 rfl) 4 _ _ 24 rfl rfl _ _ rfl rfl (W a) rfl rfl ts24 (W_one _) ?_; intro w1 H1))
  generalize hgv : V.heap.size = g1 at *
  clear hgv
  have HN : Hid (Blks w [(w.heap.size, W a, 24), ((w.heap.size + 1), W b, 24), ((w.heap.size + 1 + 1), W c, 24), (g0, W (a + b), 24), (g1, W a, 24)] _) := Lib.hid H1
  clear hV H1 HH
  have HH := HN
  clear HN
  generalize c64 a b 4 = cy at *
  go_upto_region 8 with (first
    | ((with_reducible refine g_load 24 ?_); refine wpList_blks_load HH.out 4 _ _ 24 rfl rfl (.tmp 9) rfl rfl tu24 rfl ts24 ?_)
    | ((with_reducible refine g_load 24 ?_); refine wpList_blks_load HH.out 0 _ _ 24 rfl rfl (.tmp 3) rfl rfl tu24 rfl ts24 ?_)
    | ((with_reducible refine g_load 24 ?_); refine wpList_blks_load HH.out 2 _ _ 24 rfl rfl (.tmp 5) rfl rfl tu24 rfl ts24 ?_)
    | (go_at_call 13; refine (HAC.out _).mono ?_; rintro _ V ⟨rfl, hV⟩)
    | ((with_reducible refine g_store 24 ?_); refine wpList_blks_store (((HH.out.ext hV).alloc Z4 24 rfl).alloc Z4 24 (b := V.heap.size + 1) (by simp)) 5 _ _ 24 rfl rfl (.tmp 11) _ rfl rfl (W (a * c / R256)) rfl rfl ts24 (W_one _) ?_; intro w1 H1)
    | ((with_reducible refine g_store 24 ?_); refine wpList_blks_store H1 6 _ _ 24 rfl rfl (.tmp 12) _ rfl rfl (W (a * c)) rfl rfl ts24 (W_one _) ?_; intro w2 H2))
  generalize hgv : V.heap.size = g2 at *
  clear hgv
  have HN : Hid (Blks w [(w.heap.size, W a, 24), ((w.heap.size + 1), W b, 24), ((w.heap.size + 1 + 1), W c, 24), (g0, W (a + b), 24), (g1, W a, 24), (g2, W (a * c / R256), 24), ((g2 + 1), W (a * c), 24)] _) := Lib.hid H2
  clear hV H1 H2 HH
  have HH := HN
  clear HN
  go_upto_region 9 with (first
    | ((with_reducible refine g_load 24 ?_); refine wpList_blks_load HH.out 1 _ _ 24 rfl rfl (.tmp 4) rfl rfl tu24 rfl ts24 ?_)
    | ((with_reducible refine g_load 24 ?_); refine wpList_blks_load HH.out 2 _ _ 24 rfl rfl (.tmp 5) rfl rfl tu24 rfl ts24 ?_)
    | (go_at_call 13; refine (HBC.out _).mono ?_; rintro _ V ⟨rfl, hV⟩)
    | ((with_reducible refine g_store 24 ?_); refine wpList_blks_store (((HH.out.ext hV).alloc Z4 24 rfl).alloc Z4 24 (b := V.heap.size + 1) (by simp)) 7 _ _ 24 rfl rfl (.tmp 13) _ rfl rfl (W (b * c / R256)) rfl rfl ts24 (W_one _) ?_; intro w1 H1)
    | ((with_reducible refine g_store 24 ?_); refine wpList_blks_store H1 8 _ _ 24 rfl rfl (.tmp 14) _ rfl rfl (W (b * c)) rfl rfl ts24 (W_one _) ?_; intro w2 H2))
  generalize hgv : V.heap.size = g3 at *
  clear hgv
  have HN : Hid (Blks w [(w.heap.size, W a, 24), ((w.heap.size + 1), W b, 24), ((w.heap.size + 1 + 1), W c, 24), (g0, W (a + b), 24), (g1, W a, 24), (g2, W (a * c / R256), 24), ((g2 + 1), W (a * c), 24), (g3, W (b * c / R256), 24), ((g3 + 1), W (b * c), 24)] _) := Lib.hid H2
  clear hV H1 H2 HH
  have HH := HN
  clear HN
  go_upto_region 10 with (first
    | ((with_reducible refine g_load 24 ?_); refine wpList_blks_load HH.out 3 _ _ 24 rfl rfl (.tmp 7) rfl rfl tu24 rfl ts24 ?_)
    | ((with_reducible refine g_load 24 ?_); refine wpList_blks_load HH.out 2 _ _ 24 rfl rfl (.tmp 5) rfl rfl tu24 rfl ts24 ?_)
    | (go_at_call 13; refine (HSC.out _).mono ?_; rintro _ V ⟨rfl, hV⟩)
    | ((with_reducible refine g_store 24 ?_); refine wpList_blks_store (((HH.out.ext hV).alloc Z4 24 rfl).alloc Z4 24 (b := V.heap.size + 1) (by simp)) 9 _ _ 24 rfl rfl (.tmp 15) _ rfl rfl (W ((a + b) % R256 * c / R256)) rfl rfl ts24 (W_one _) ?_; intro w1 H1)
    | ((with_reducible refine g_store 24 ?_); refine wpList_blks_store H1 10 _ _ 24 rfl rfl (.tmp 16) _ rfl rfl (W (a * c + b * c)) rfl rfl ts24 (W_one _) ?_; intro w2 H2))
  generalize hgv : V.heap.size = g4 at *
  clear hgv
  have HN : Hid (Blks w [(w.heap.size, W a, 24), ((w.heap.size + 1), W b, 24), ((w.heap.size + 1 + 1), W c, 24), (g0, W (a + b), 24), (g1, W a, 24), (g2, W (a * c / R256), 24), ((g2 + 1), W (a * c), 24), (g3, W (b * c / R256), 24), ((g3 + 1), W (b * c), 24), (g4, W ((a + b) % R256 * c / R256), 24), ((g4 + 1), W (a * c + b * c), 24)] _) := Lib.hid H2
  clear hV H1 H2 HH
  have HH := HN
  clear HN
  go_upto_region 11 with (first
    | ((with_reducible refine g_load 24 ?_); refine wpList_blks_load HH.out 6 _ _ 24 rfl rfl (.tmp 12) rfl rfl tu24 rfl ts24 ?_)
    | ((with_reducible refine g_load 24 ?_); refine wpList_blks_load HH.out 8 _ _ 24 rfl rfl (.tmp 14) rfl rfl tu24 rfl ts24 ?_)
    | (go_at_call 9; refine (add_p (a * c) (b * c) _).mono ?_; rintro _ V ⟨rfl, hV⟩)
    | ((with_reducible refine g_store 24 ?_); refine wpList_blks_store ((HH.out.ext hV).alloc Z4 24 rfl) 11 _ _ 24 rfl rfl _ _ rfl rfl (W (a * c + b * c)) rfl rfl ts24 (W_one _) ?_; intro w1 H1))
  generalize hgv : V.heap.size = g5 at *
  clear hgv
  have HN : Hid (Blks w [(w.heap.size, W a, 24), ((w.heap.size + 1), W b, 24), ((w.heap.size + 1 + 1), W c, 24), (g0, W (a + b), 24), (g1, W a, 24), (g2, W (a * c / R256), 24), ((g2 + 1), W (a * c), 24), (g3, W (b * c / R256), 24), ((g3 + 1), W (b * c), 24), (g4, W ((a + b) % R256 * c / R256), 24), ((g4 + 1), W (a * c + b * c), 24), (g5, W (a * c + b * c), 24)] _) := Lib.hid H1
  clear hV H1 HH
  have HH := HN
  clear HN
  go_upto_region 12 with (first
    | ((with_reducible refine g_load 24 ?_); refine wpList_blks_load HH.out 0 _ _ 24 rfl rfl (.tmp 3) rfl rfl tu24 rfl ts24 ?_)
    | ((with_reducible refine g_load 24 ?_); refine wpList_blks_load HH.out 1 _ _ 24 rfl rfl (.tmp 4) rfl rfl tu24 rfl ts24 ?_)
    | (go_at_call 13; refine (HAB.out _).mono ?_; rintro _ V ⟨rfl, hV⟩)
    | ((with_reducible refine g_store 24 ?_); refine wpList_blks_store (((HH.out.ext hV).alloc Z4 24 rfl).alloc Z4 24 (b := V.heap.size + 1) (by simp)) 12 _ _ 24 rfl rfl (.tmp 19) _ rfl rfl (W (a * b / R256)) rfl rfl ts24 (W_one _) ?_; intro w1 H1)
    | ((with_reducible refine g_store 24 ?_); refine wpList_blks_store H1 13 _ _ 24 rfl rfl (.tmp 20) _ rfl rfl (W (a * b)) rfl rfl ts24 (W_one _) ?_; intro w2 H2))
  generalize hgv : V.heap.size = g6 at *
  clear hgv
  have HN : Hid (Blks w [(w.heap.size, W a, 24), ((w.heap.size + 1), W b, 24), ((w.heap.size + 1 + 1), W c, 24), (g0, W (a + b), 24), (g1, W a, 24), (g2, W (a * c / R256), 24), ((g2 + 1), W (a * c), 24), (g3, W (b * c / R256), 24), ((g3 + 1), W (b * c), 24), (g4, W ((a + b) % R256 * c / R256), 24), ((g4 + 1), W (a * c + b * c), 24), (g5, W (a * c + b * c), 24), (g6, W (a * b / R256), 24), ((g6 + 1), W (a * b), 24)] _) := Lib.hid H2
  clear hV H1 H2 HH
  have HH := HN
  clear HN
  go_upto_region 13 with (first
    | ((with_reducible refine g_load 24 ?_); refine wpList_blks_load HH.out 1 _ _ 24 rfl rfl (.tmp 4) rfl rfl tu24 rfl ts24 ?_)
    | ((with_reducible refine g_load 24 ?_); refine wpList_blks_load HH.out 0 _ _ 24 rfl rfl (.tmp 3) rfl rfl tu24 rfl ts24 ?_)
    | (go_at_call 13; refine (HBA.out _).mono ?_; rintro _ V ⟨rfl, hV⟩)
    | ((with_reducible refine g_store 24 ?_); refine wpList_blks_store (((HH.out.ext hV).alloc Z4 24 rfl).alloc Z4 24 (b := V.heap.size + 1) (by simp)) 14 _ _ 24 rfl rfl (.tmp 21) _ rfl rfl (W (a * b / R256)) rfl rfl ts24 (W_one _) ?_; intro w1 H1)
    | ((with_reducible refine g_store 24 ?_); refine wpList_blks_store H1 15 _ _ 24 rfl rfl (.tmp 22) _ rfl rfl (W (a * b)) rfl rfl ts24 (W_one _) ?_; intro w2 H2))
  generalize hgv : V.heap.size = g7 at *
  clear hgv
  have HN : Hid (Blks w [(w.heap.size, W a, 24), ((w.heap.size + 1), W b, 24), ((w.heap.size + 1 + 1), W c, 24), (g0, W (a + b), 24), (g1, W a, 24), (g2, W (a * c / R256), 24), ((g2 + 1), W (a * c), 24), (g3, W (b * c / R256), 24), ((g3 + 1), W (b * c), 24), (g4, W ((a + b) % R256 * c / R256), 24), ((g4 + 1), W (a * c + b * c), 24), (g5, W (a * c + b * c), 24), (g6, W (a * b / R256), 24), ((g6 + 1), W (a * b), 24), (g7, W (a * b / R256), 24), ((g7 + 1), W (a * b), 24)] _) := Lib.hid H2
  clear hV H1 H2 HH
  have HH := HN
  clear HN
  go_upto_region 16 with (first
    | (fail)
    | ((with_reducible refine g_load 24 ?_); refine wpList_blks_loadg HH.out 12 _ _ 24 rfl rfl (.tmp 19) rfl rfl tu24 rfl ts24 ?_)
    | ((with_reducible refine g_load 24 ?_); refine wpList_blks_loadg HH.out 14 _ _ 24 rfl rfl (.tmp 21) rfl rfl tu24 rfl ts24 ?_)
    | ((with_reducible refine g_load 24 ?_); refine wpList_blks_loadg HH.out 13 _ _ 24 rfl rfl (.tmp 20) rfl rfl tu24 rfl ts24 ?_)
    | ((with_reducible refine g_load 24 ?_); refine wpList_blks_loadg HH.out 15 _ _ 24 rfl rfl (.tmp 22) rfl rfl tu24 rfl ts24 ?_)
    | ((with_reducible refine g_load 24 ?_); refine wpList_blks_load HH.out 10 _ _ 24 rfl rfl (.tmp 16) rfl rfl tu24 rfl ts24 ?_)
    | ((with_reducible refine g_load 24 ?_); refine wpList_blks_load HH.out 11 _ _ 24 rfl rfl (.tmp 17) rfl rfl tu24 rfl ts24 ?_)
    | ((with_reducible refine g_load 24 ?_); refine wpList_blks_load HH.out 12 _ _ 24 rfl rfl (.tmp 19) rfl rfl tu24 rfl ts24 ?_)
    | ((with_reducible refine g_load 24 ?_); refine wpList_blks_load HH.out 13 _ _ 24 rfl rfl (.tmp 20) rfl rfl tu24 rfl ts24 ?_)
    | ((with_reducible refine g_load 24 ?_); refine wpList_blks_load HH.out 2 _ _ 24 rfl rfl (.tmp 5) rfl rfl tu24 rfl ts24 ?_)
    | (go_at_call 20; refine (HMP.out _).mono ?_; rintro _ V ⟨rfl, hV⟩)
    | ((with_reducible refine g_store 24 ?_); refine wpList_blks_store ((HH.out.ext hV).alloc Z4 24 rfl) 16 _ _ 24 rfl rfl _ _ rfl rfl (W (a * b % c)) rfl rfl ts24 (W_one _) ?_; intro w1 H1))
  generalize hgv : V.heap.size = g8 at *
  clear hgv
  have HN : Hid (Blks w [(w.heap.size, W a, 24), ((w.heap.size + 1), W b, 24), ((w.heap.size + 1 + 1), W c, 24), (g0, W (a + b), 24), (g1, W a, 24), (g2, W (a * c / R256), 24), ((g2 + 1), W (a * c), 24), (g3, W (b * c / R256), 24), ((g3 + 1), W (b * c), 24), (g4, W ((a + b) % R256 * c / R256), 24), ((g4 + 1), W (a * c + b * c), 24), (g5, W (a * c + b * c), 24), (g6, W (a * b / R256), 24), ((g6 + 1), W (a * b), 24), (g7, W (a * b / R256), 24), ((g7 + 1), W (a * b), 24), (g8, W (a * b % c), 24)] _) := Lib.hid H1
  clear hV H1 HH
  have HH := HN
  clear HN
  go_upto_region 19 with (first
    | (go_at_call 22; refine (num_p 0 _).mono ?_; rintro _ V2 ⟨rfl, rfl⟩)
    | ((with_reducible refine g_build 24 ?_); refine wpList_build0 rfl 24 rfl _ (build24z _) ?_)
    | ((with_reducible refine g_load 24 ?_); refine wpList_blks_load HH.out 0 _ _ 24 rfl rfl (.tmp 3) rfl rfl tu24 rfl ts24 ?_)
    | ((with_reducible refine g_load 24 ?_); refine wpList_blks_load HH.out 2 _ _ 24 rfl rfl (.tmp 5) rfl rfl tu24 rfl ts24 ?_)
    | (go_at_call 20; refine (HMA.out _).mono ?_; rintro _ V ⟨rfl, hV⟩)
    | ((with_reducible refine g_store 24 ?_); refine wpList_blks_store ((HH.out.ext hV).alloc Z4 24 rfl) 17 _ _ 24 rfl rfl _ _ rfl rfl (W (a % c)) rfl rfl ts24 (W_one _) ?_; intro w1 H1))
  generalize hgv : V.heap.size = g9 at *
  clear hgv
  have HN : Hid (Blks w [(w.heap.size, W a, 24), ((w.heap.size + 1), W b, 24), ((w.heap.size + 1 + 1), W c, 24), (g0, W (a + b), 24), (g1, W a, 24), (g2, W (a * c / R256), 24), ((g2 + 1), W (a * c), 24), (g3, W (b * c / R256), 24), ((g3 + 1), W (b * c), 24), (g4, W ((a + b) % R256 * c / R256), 24), ((g4 + 1), W (a * c + b * c), 24), (g5, W (a * c + b * c), 24), (g6, W (a * b / R256), 24), ((g6 + 1), W (a * b), 24), (g7, W (a * b / R256), 24), ((g7 + 1), W (a * b), 24), (g8, W (a * b % c), 24), (g9, W (a % c), 24)] _) := Lib.hid H1
  clear hV H1 HH
  have HH := HN
  clear HN
  go_upto_region 20 with (first
    | ((with_reducible refine g_build 24 ?_); refine wpList_build0 rfl 24 rfl _ (build24z _) ?_)
    | ((with_reducible refine g_load 24 ?_); refine wpList_blks_load HH.out 1 _ _ 24 rfl rfl (.tmp 4) rfl rfl tu24 rfl ts24 ?_)
    | ((with_reducible refine g_load 24 ?_); refine wpList_blks_load HH.out 2 _ _ 24 rfl rfl (.tmp 5) rfl rfl tu24 rfl ts24 ?_)
    | (go_at_call 20; refine (HMB.out _).mono ?_; rintro _ V ⟨rfl, hV⟩)
    | ((with_reducible refine g_store 24 ?_); refine wpList_blks_store ((HH.out.ext hV).alloc Z4 24 rfl) 18 _ _ 24 rfl rfl _ _ rfl rfl (W (b % c)) rfl rfl ts24 (W_one _) ?_; intro w1 H1))
  generalize hgv : V.heap.size = g10 at *
  clear hgv
  have HN : Hid (Blks w [(w.heap.size, W a, 24), ((w.heap.size + 1), W b, 24), ((w.heap.size + 1 + 1), W c, 24), (g0, W (a + b), 24), (g1, W a, 24), (g2, W (a * c / R256), 24), ((g2 + 1), W (a * c), 24), (g3, W (b * c / R256), 24), ((g3 + 1), W (b * c), 24), (g4, W ((a + b) % R256 * c / R256), 24), ((g4 + 1), W (a * c + b * c), 24), (g5, W (a * c + b * c), 24), (g6, W (a * b / R256), 24), ((g6 + 1), W (a * b), 24), (g7, W (a * b / R256), 24), ((g7 + 1), W (a * b), 24), (g8, W (a * b % c), 24), (g9, W (a % c), 24), (g10, W (b % c), 24)] _) := Lib.hid H1
  clear hV H1 HH
  have HH := HN
  clear HN
  go_upto_region 21 with (first
    | ((with_reducible refine g_load 24 ?_); refine wpList_blks_load HH.out 17 _ _ 24 rfl rfl (.tmp 25) rfl rfl tu24 rfl ts24 ?_)
    | ((with_reducible refine g_load 24 ?_); refine wpList_blks_load HH.out 18 _ _ 24 rfl rfl (.tmp 27) rfl rfl tu24 rfl ts24 ?_)
    | (go_at_call 13; refine (HPQ.out _).mono ?_; rintro _ V ⟨rfl, hV⟩)
    | ((with_reducible refine g_store 24 ?_); refine wpList_blks_store (HH.out.ext hV) 12 _ _ 24 rfl rfl (.tmp 19) _ rfl rfl (W (a % c * (b % c) / R256)) rfl rfl ts24 (W_one _) ?_; intro w1 H1)
    | ((with_reducible refine g_store 24 ?_); refine wpList_blks_store H1 13 _ _ 24 rfl rfl (.tmp 20) _ rfl rfl (W (a % c * (b % c))) rfl rfl ts24 (W_one _) ?_; intro w2 H2))
  have HN : Hid (Blks w [(w.heap.size, W a, 24), ((w.heap.size + 1), W b, 24), ((w.heap.size + 1 + 1), W c, 24), (g0, W (a + b), 24), (g1, W a, 24), (g2, W (a * c / R256), 24), ((g2 + 1), W (a * c), 24), (g3, W (b * c / R256), 24), ((g3 + 1), W (b * c), 24), (g4, W ((a + b) % R256 * c / R256), 24), ((g4 + 1), W (a * c + b * c), 24), (g5, W (a * c + b * c), 24), (g6, W (a % c * (b % c) / R256), 24), ((g6 + 1), W (a % c * (b % c)), 24), (g7, W (a * b / R256), 24), ((g7 + 1), W (a * b), 24), (g8, W (a * b % c), 24), (g9, W (a % c), 24), (g10, W (b % c), 24)] _) := Lib.hid H2
  clear hV H1 H2 HH
  have HH := HN
  clear HN
  go_upto_region 22 with (first
    | ((with_reducible refine g_load 24 ?_); refine wpList_blks_load HH.out 12 _ _ 24 rfl rfl (.tmp 19) rfl rfl tu24 rfl ts24 ?_)
    | ((with_reducible refine g_load 24 ?_); refine wpList_blks_load HH.out 13 _ _ 24 rfl rfl (.tmp 20) rfl rfl tu24 rfl ts24 ?_)
    | ((with_reducible refine g_load 24 ?_); refine wpList_blks_load HH.out 2 _ _ 24 rfl rfl (.tmp 5) rfl rfl tu24 rfl ts24 ?_)
    | (go_at_call 20; refine (HMN.out _).mono ?_; rintro _ V ⟨rfl, hV⟩)
    | ((with_reducible refine g_store 24 ?_); refine wpList_blks_store ((HH.out.ext hV).alloc Z4 24 rfl) 19 _ _ 24 rfl rfl _ _ rfl rfl (W (a * b % c)) rfl rfl ts24 (W_one _) ?_; intro w1 H1))
  generalize hgv : V.heap.size = g11 at *
  clear hgv
  have HN : Hid (Blks w [(w.heap.size, W a, 24), ((w.heap.size + 1), W b, 24), ((w.heap.size + 1 + 1), W c, 24), (g0, W (a + b), 24), (g1, W a, 24), (g2, W (a * c / R256), 24), ((g2 + 1), W (a * c), 24), (g3, W (b * c / R256), 24), ((g3 + 1), W (b * c), 24), (g4, W ((a + b) % R256 * c / R256), 24), ((g4 + 1), W (a * c + b * c), 24), (g5, W (a * c + b * c), 24), (g6, W (a % c * (b % c) / R256), 24), ((g6 + 1), W (a % c * (b % c)), 24), (g7, W (a * b / R256), 24), ((g7 + 1), W (a * b), 24), (g8, W (a * b % c), 24), (g9, W (a % c), 24), (g10, W (b % c), 24), (g11, W (a * b % c), 24)] _) := Lib.hid H1
  clear hV H1 HH
  have HH := HN
  clear HN
  go_wp2_with (first
    | ((with_reducible refine g_load 24 ?_); refine wpList_blks_load HH.out 16 _ _ 24 rfl rfl (.tmp 23) rfl rfl tu24 rfl ts24 ?_)
    | ((with_reducible refine g_load 24 ?_); refine wpList_blks_load HH.out 19 _ _ 24 rfl rfl (.tmp 29) rfl rfl tu24 rfl ts24 ?_)
    | ((with_reducible refine g_load 24 ?_); refine wpList_blks_loadg HH.out 16 _ _ 24 rfl rfl (.tmp 23) rfl rfl tu24 rfl ts24 ?_)
    | ((with_reducible refine g_load 24 ?_); refine wpList_blks_loadg HH.out 2 _ _ 24 rfl rfl (.tmp 5) rfl rfl tu24 rfl ts24 ?_)
    | (go_at_call 15; refine (HCM.out _).mono ?_; rintro _ V ⟨rfl, hV⟩))
  go_ret
  exact ⟨rfl, (HH.out.ext hV).below⟩
theorem LimbsRing_walk {a b c : Int} (ha0 : 0 ≤ a) (ha1 : a < R256) (hb0 : 0 ≤ b) (hb1 : b < R256) (hc0 : 0 ≤ c) (hc1 : c < R256) (w : World) :
    Calls Try.prog 5 #[.agg (W a), .agg (W b), .agg (W c)] w fun e w' => e = .returned (.bool true) ∧ Below w.heap.size w w' := by
  by_cases h : c = 0
  · subst h; exact ring_zero ha0 ha1 hb0 hb1 w
  · exact ring_pos ha0 ha1 hb0 hb1 (by omega) hc1 w
end Go.Proofs.Ytjmckfebnoaheaa
