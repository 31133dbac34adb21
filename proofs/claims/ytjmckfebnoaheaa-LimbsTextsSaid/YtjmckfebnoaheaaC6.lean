/- LimbsSums, walked. -/
import Derived.Test.YtjmckfebnoaheaaC4
import Derived.Test.YtjmckfebnoaheaaC5
set_option linter.unusedVariables false
namespace Go.Proofs.Ytjmckfebnoaheaa
open Go.RowKit Go.KK Go.Lm

theorem eqlW_self (x : Int) (w : World) : (binOp .eql 24 (.agg (W x)) (.agg (W x))).run Try.prog w = .ok (.bool true) w := by
  rw [run_eql_struct, eqW_bool]; simp
set_option maxRecDepth 100000 in
set_option maxHeartbeats 8000000 in
theorem LimbsSums_walk {x y : Int} (hx0 : 0 ≤ x) (hx1 : x < R256) (hy0 : 0 ≤ y) (hy1 : y < R256) (w : World) :
    Calls Try.prog 3 #[.agg (W x), .agg (W y)] w fun e w' => e = .returned (.bool true) ∧ Below w.heap.size w w' := by
  have HM := Lib.hid (fun W' => mul_p hx0 hx1 hy0 hy1 W')
  have HRM := Lib.hid (fun W' => rmul_p hx0 hx1 hy0 hy1 W')
  have HC := Lib.hid (fun W' => cmp_p hx0 hx1 hy0 hy1 W')
  have HRC := Lib.hid (fun W' => rcmp_p hx0 hx1 hy0 hy1 W')
  have H0 := ((Blks.nil w).alloc (W x) 24 rfl).alloc (W y) 24 (b := w.heap.size + 1) (by simp)
  have HH := Lib.hid H0
  clear H0 hx0 hx1 hy0 hy1
  go_enter Try.func3, Try.ntmps3
  go_upto_region 2 with (first
    | ((with_reducible refine g_load 24 ?_); refine wpList_blks_load HH.out 0 _ _ 24 rfl rfl (.tmp 2) rfl rfl tu24 rfl ts24 ?_)
    | ((with_reducible refine g_load 24 ?_); refine wpList_blks_load HH.out 1 _ _ 24 rfl rfl (.tmp 3) rfl rfl tu24 rfl ts24 ?_)
    | (go_at_call 9; refine (add_p x y _).mono ?_; rintro _ V ⟨rfl, hV⟩)
    | ((with_reducible refine g_store 24 ?_); refine wpList_blks_store ((HH.out.ext hV).alloc Z4 24 rfl) 2 _ _ 24 rfl rfl _ _ rfl rfl (W (x + y)) rfl rfl ts24 (W_one _) ?_; intro w1 H1))
  have HN := Lib.hid H1
  generalize V.heap.size = g2 at *
  clear hV H1 HH
  have HH := HN
  clear HN
  go_upto_region 3 with (first
    | ((with_reducible refine g_load 24 ?_); refine wpList_blks_load HH.out 0 _ _ 24 rfl rfl (.tmp 2) rfl rfl tu24 rfl ts24 ?_)
    | ((with_reducible refine g_load 24 ?_); refine wpList_blks_load HH.out 1 _ _ 24 rfl rfl (.tmp 3) rfl rfl tu24 rfl ts24 ?_)
    | (go_at_call 10; refine (radd_p x y _).mono ?_; rintro _ V ⟨rfl, hV⟩)
    | ((with_reducible refine g_store 24 ?_); refine wpList_blks_store ((HH.out.ext hV).alloc Z4 24 rfl) 3 _ _ 24 rfl rfl _ _ rfl rfl (W (x + y)) rfl rfl ts24 (W_one _) ?_; intro w1 H1))
  have HN := Lib.hid H1
  generalize V.heap.size = g3 at *
  clear hV H1 HH
  have HH := HN
  clear HN
  go_upto_region 4 with (first
    | ((with_reducible refine g_load 24 ?_); refine wpList_blks_load HH.out 0 _ _ 24 rfl rfl (.tmp 2) rfl rfl tu24 rfl ts24 ?_)
    | ((with_reducible refine g_load 24 ?_); refine wpList_blks_load HH.out 1 _ _ 24 rfl rfl (.tmp 3) rfl rfl tu24 rfl ts24 ?_)
    | (go_at_call 11; refine (sub_p x y _).mono ?_; rintro _ V ⟨rfl, hV⟩)
    | ((with_reducible refine g_store 24 ?_); refine wpList_blks_store ((HH.out.ext hV).alloc Z4 24 rfl) 4 _ _ 24 rfl rfl _ _ rfl rfl (W (x - y)) rfl rfl ts24 (W_one _) ?_; intro w1 H1))
  have HN := Lib.hid H1
  generalize V.heap.size = g4 at *
  clear hV H1 HH
  have HH := HN
  clear HN
  go_upto_region 5 with (first
    | ((with_reducible refine g_load 24 ?_); refine wpList_blks_load HH.out 0 _ _ 24 rfl rfl (.tmp 2) rfl rfl tu24 rfl ts24 ?_)
    | ((with_reducible refine g_load 24 ?_); refine wpList_blks_load HH.out 1 _ _ 24 rfl rfl (.tmp 3) rfl rfl tu24 rfl ts24 ?_)
    | (go_at_call 12; refine (rsub_p x y _).mono ?_; rintro _ V ⟨rfl, hV⟩)
    | ((with_reducible refine g_store 24 ?_); refine wpList_blks_store ((HH.out.ext hV).alloc Z4 24 rfl) 5 _ _ 24 rfl rfl _ _ rfl rfl (W (x - y)) rfl rfl ts24 (W_one _) ?_; intro w1 H1))
  have HN := Lib.hid H1
  generalize V.heap.size = g5 at *
  clear hV H1 HH
  have HH := HN
  clear HN
  go_upto_region 6 with (first
    | ((with_reducible refine g_load 24 ?_); refine wpList_blks_load HH.out 0 _ _ 24 rfl rfl (.tmp 2) rfl rfl tu24 rfl ts24 ?_)
    | ((with_reducible refine g_load 24 ?_); refine wpList_blks_load HH.out 1 _ _ 24 rfl rfl (.tmp 3) rfl rfl tu24 rfl ts24 ?_)
    | (go_at_call 13; refine (HM.out _).mono ?_; rintro _ V ⟨rfl, hV⟩)
    | ((with_reducible refine g_store 24 ?_); refine wpList_blks_store (((HH.out.ext hV).alloc Z4 24 rfl).alloc Z4 24 (b := V.heap.size + 1) (by simp)) 6 _ _ 24 rfl rfl (.tmp 13) _ rfl rfl (W (x * y / R256)) rfl rfl ts24 (W_one _) ?_; intro w1 H1)
    | ((with_reducible refine g_store 24 ?_); refine wpList_blks_store H1 7 _ _ 24 rfl rfl (.tmp 14) _ rfl rfl (W (x * y)) rfl rfl ts24 (W_one _) ?_; intro w2 H2))
  have HN := Lib.hid H2
  generalize V.heap.size = g6 at *
  clear hV H1 H2 HH
  have HH := HN
  clear HN
  go_upto_region 7 with (first
    | ((with_reducible refine g_load 24 ?_); refine wpList_blks_load HH.out 0 _ _ 24 rfl rfl (.tmp 2) rfl rfl tu24 rfl ts24 ?_)
    | ((with_reducible refine g_load 24 ?_); refine wpList_blks_load HH.out 1 _ _ 24 rfl rfl (.tmp 3) rfl rfl tu24 rfl ts24 ?_)
    | (go_at_call 14; refine (HRM.out _).mono ?_; rintro _ V ⟨rfl, hV⟩)
    | ((with_reducible refine g_store 24 ?_); refine wpList_blks_store (((HH.out.ext hV).alloc Z4 24 rfl).alloc Z4 24 (b := V.heap.size + 1) (by simp)) 8 _ _ 24 rfl rfl (.tmp 15) _ rfl rfl (W (x * y / R256)) rfl rfl ts24 (W_one _) ?_; intro w1 H1)
    | ((with_reducible refine g_store 24 ?_); refine wpList_blks_store H1 9 _ _ 24 rfl rfl (.tmp 16) _ rfl rfl (W (x * y)) rfl rfl ts24 (W_one _) ?_; intro w2 H2))
  have HN := Lib.hid H2
  generalize V.heap.size = g8 at *
  clear hV H1 H2 HH
  have HH := HN
  clear HN
  have hq := eqlW_self
  have hV := HH.out
  generalize cmpI x y = cm at *
  generalize c64 x y 4 = c at *
  generalize b64 x y 4 = b at *
  have HL : Hid (Blks w [(w.heap.size, W x, 24), (w.heap.size + 1, W y, 24), (g2, W (x + y), 24), (g3, W (x + y), 24), (g4, W (x - y), 24), (g5, W (x - y), 24), (g6, W (x * y / R256), 24), (g6 + 1, W (x * y), 24), (g8, W (x * y / R256), 24), (g8 + 1, W (x * y), 24)] w2) := HH
  clear HH hV
  have R0 : Hid (∀ e : ExtOf w2, e.wd.rangeAt w.heap.size 0 (W x).toList) := Lib.hid fun e => (HL.out.ext e.below).range 0 rfl
  have R1 : Hid (∀ e : ExtOf w2, e.wd.rangeAt (w.heap.size + 1) 0 (W y).toList) := Lib.hid fun e => (HL.out.ext e.below).range 1 rfl
  have R2 : Hid (∀ e : ExtOf w2, e.wd.rangeAt g2 0 (W (x + y)).toList) := Lib.hid fun e => (HL.out.ext e.below).range 2 rfl
  have R3 : Hid (∀ e : ExtOf w2, e.wd.rangeAt g3 0 (W (x + y)).toList) := Lib.hid fun e => (HL.out.ext e.below).range 3 rfl
  have R4 : Hid (∀ e : ExtOf w2, e.wd.rangeAt g4 0 (W (x - y)).toList) := Lib.hid fun e => (HL.out.ext e.below).range 4 rfl
  have R5 : Hid (∀ e : ExtOf w2, e.wd.rangeAt g5 0 (W (x - y)).toList) := Lib.hid fun e => (HL.out.ext e.below).range 5 rfl
  have R6 : Hid (∀ e : ExtOf w2, e.wd.rangeAt g6 0 (W (x * y / R256)).toList) := Lib.hid fun e => (HL.out.ext e.below).range 6 rfl
  have R7 : Hid (∀ e : ExtOf w2, e.wd.rangeAt (g6 + 1) 0 (W (x * y)).toList) := Lib.hid fun e => (HL.out.ext e.below).range 7 rfl
  have R8 : Hid (∀ e : ExtOf w2, e.wd.rangeAt g8 0 (W (x * y / R256)).toList) := Lib.hid fun e => (HL.out.ext e.below).range 8 rfl
  have R9 : Hid (∀ e : ExtOf w2, e.wd.rangeAt (g8 + 1) 0 (W (x * y)).toList) := Lib.hid fun e => (HL.out.ext e.below).range 9 rfl
  have f1 : Hid (∀ e : ExtOf w2, Calls Try.prog 15 #[.agg (W x), .agg (W y)] e.wd fun r w' => r = .returned (.int .i64 cm) ∧ ∃ e' : ExtOf w2, w' = e'.wd) := Lib.hid fun e => calls_ext e (HC.out _)
  have f2 : Hid (∀ e : ExtOf w2, Calls Try.prog 16 #[.agg (W x), .agg (W y)] e.wd fun r w' => r = .returned (.int .i64 cm) ∧ ∃ e' : ExtOf w2, w' = e'.wd) := Lib.hid fun e => calls_ext e (HRC.out _)
  have f3 : Hid (∀ e : ExtOf w2, Calls Try.prog 17 #[] e.wd fun r w' => r = .returned (.bool true) ∧ ∃ e' : ExtOf w2, w' = e'.wd) := Lib.hid fun e => calls_ext e (alive_p _)
  refine wp_region_ext (by kernel_rfl) (by kernel_rfl) ?_
  refine wpQuiet_load_ext rfl 24 _ rfl g2 0 rfl (W (x + y)).toList _ R2.out tu24 rfl ts24 ?_
  refine wpQuiet_load_ext rfl 24 _ rfl g3 0 rfl (W (x + y)).toList _ R3.out tu24 rfl ts24 ?_
  iterate 7 (quiet_step (fail))
  refine wpQuiet_load_extg rfl 24 _ rfl g4 0 rfl (W (x - y)).toList _ R4.out tu24 rfl ts24 ?_
  refine wpQuiet_load_extg rfl 24 _ rfl g5 0 rfl (W (x - y)).toList _ R5.out tu24 rfl ts24 ?_
  iterate 8 (quiet_step (fail))
  refine wpQuiet_load_extg rfl 24 _ rfl g6 0 rfl (W (x * y / R256)).toList _ R6.out tu24 rfl ts24 ?_
  refine wpQuiet_load_extg rfl 24 _ rfl g8 0 rfl (W (x * y / R256)).toList _ R8.out tu24 rfl ts24 ?_
  iterate 3 (quiet_step (fail))
  refine wpQuiet_load_extg rfl 24 _ rfl (g6 + 1) 0 rfl (W (x * y)).toList _ R7.out tu24 rfl ts24 ?_
  refine wpQuiet_load_extg rfl 24 _ rfl (g8 + 1) 0 rfl (W (x * y)).toList _ R9.out tu24 rfl ts24 ?_
  iterate 3 (quiet_step (fail))
  refine wpQuiet_load_extg rfl 24 _ rfl w.heap.size 0 rfl (W x).toList _ R0.out tu24 rfl ts24 ?_
  refine wpQuiet_load_extg rfl 24 _ rfl (w.heap.size + 1) 0 rfl (W y).toList _ R1.out tu24 rfl ts24 ?_
  quiet_step ((go_at_call 15; exact f1.out _))
  refine wpQuiet_load_extg rfl 24 _ rfl w.heap.size 0 rfl (W x).toList _ R0.out tu24 rfl ts24 ?_
  refine wpQuiet_load_extg rfl 24 _ rfl (w.heap.size + 1) 0 rfl (W y).toList _ R1.out tu24 rfl ts24 ?_
  quiet_step ((go_at_call 16; exact f2.out _))
  iterate 3 (quiet_step (fail))
  quiet_step ((go_at_call 17; exact f3.out _))
  iterate 2 (quiet_step (fail))
  refine wpQuiet_nil ?_
  rintro _ ⟨e, rfl⟩
  go_wp2_with fail
  go_ret
  exact ⟨rfl, (HL.out.ext e.below).below⟩
end Go.Proofs.Ytjmckfebnoaheaa
