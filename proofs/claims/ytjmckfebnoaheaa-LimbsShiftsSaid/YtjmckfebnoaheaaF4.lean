/- LimbsShifts, walked. -/
import Derived.Test.YtjmckfebnoaheaaF3
import Derived.Test.YtjmckfebnoaheaaB15
import Derived.Test.YtjmckfebnoaheaaC6
set_option linter.unusedVariables false
namespace Go.Proofs.Ytjmckfebnoaheaa
open Go.RowKit Go.KK Go.Lm
set_option maxRecDepth 100000 in
set_option maxHeartbeats 8000000 in
theorem LimbsShifts_walk {x : Int} (hx0 : 0 ≤ x) (hx1 : x < R256) (n : Int) (hn : n ≤ 9223372036854775807) (w : World) :
    Calls Try.prog 6 #[.agg (W x), .int .i64 n] w fun e w' => e = .returned (.bool true) ∧ Below w.heap.size w w' := by
  obtain ⟨y, hA, hB⟩ := shl_any x n hn
  obtain ⟨z, hC, hD⟩ := shr_any hx0 hx1 n hn
  have heq := eqlW_self
  have HH : Hid (Blks w [(w.heap.size, W x, 24)] _) := Lib.hid ((Blks.nil w).alloc (W x) 24 rfl)
  have H1 := Lib.hid (fun W' => len_p hx0 hx1 W')
  have H2 := Lib.hid (fun W' => rlen_p hx0 hx1 W')
  have H3 := Lib.hid (fun W' => bit_p x n W')
  have H4 := Lib.hid (fun W' => rbit_p x n W')
  generalize (blen x : Int) = l at *
  generalize bitI x n = b at *
  have H5 := Lib.hid hA
  have H6 := Lib.hid hB
  have H7 := Lib.hid hC
  have H8 := Lib.hid hD
  clear hA hB hC hD hx0 hx1 hn
  go_enter Try.func6, Try.ntmps6
  go_upto_region 1 with (fail)
  generalize w.alloc (.cells (W x) 24) = V at *
  have R0 : Hid (∀ e : ExtOf V, e.wd.rangeAt w.heap.size 0 (W x).toList) := Lib.hid fun e => (HH.out.ext e.below).range 0 rfl
  have f1 : Hid (∀ e : ExtOf V, Calls Try.prog 23 #[.agg (W x)] e.wd fun r w' => r = .returned (.int .i64 l) ∧ ∃ e' : ExtOf V, w' = e'.wd) := Lib.hid fun e => calls_ext e (H1.out _)
  have f2 : Hid (∀ e : ExtOf V, Calls Try.prog 24 #[.agg (W x)] e.wd fun r w' => r = .returned (.int .i64 l) ∧ ∃ e' : ExtOf V, w' = e'.wd) := Lib.hid fun e => calls_ext e (H2.out _)
  have f3 : Hid (∀ e : ExtOf V, Calls Try.prog 25 #[.agg (W x), .int .i64 n] e.wd fun r w' => r = .returned (.int .i64 b) ∧ ∃ e' : ExtOf V, w' = e'.wd) := Lib.hid fun e => calls_ext e (H3.out _)
  have f4 : Hid (∀ e : ExtOf V, Calls Try.prog 26 #[.agg (W x), .int .i64 n] e.wd fun r w' => r = .returned (.int .i64 b) ∧ ∃ e' : ExtOf V, w' = e'.wd) := Lib.hid fun e => calls_ext e (H4.out _)
  have f5 : Hid (∀ e : ExtOf V, Calls Try.prog 27 #[.agg (W x), .int .i64 n] e.wd fun r w' => r = .returned (.agg (W y)) ∧ ∃ e' : ExtOf V, w' = e'.wd) := Lib.hid fun e => calls_ext e (H5.out _)
  have f6 : Hid (∀ e : ExtOf V, Calls Try.prog 28 #[.agg (W x), .int .i64 n] e.wd fun r w' => r = .returned (.agg (W y)) ∧ ∃ e' : ExtOf V, w' = e'.wd) := Lib.hid fun e => calls_ext e (H6.out _)
  have f7 : Hid (∀ e : ExtOf V, Calls Try.prog 29 #[.agg (W x), .int .i64 n] e.wd fun r w' => r = .returned (.agg (W z)) ∧ ∃ e' : ExtOf V, w' = e'.wd) := Lib.hid fun e => calls_ext e (H7.out _)
  have f8 : Hid (∀ e : ExtOf V, Calls Try.prog 30 #[.agg (W x), .int .i64 n] e.wd fun r w' => r = .returned (.agg (W z)) ∧ ∃ e' : ExtOf V, w' = e'.wd) := Lib.hid fun e => calls_ext e (H8.out _)
  have f9 : Hid (∀ e : ExtOf V, Calls Try.prog 17 #[] e.wd fun r w' => r = .returned (.bool true) ∧ ∃ e' : ExtOf V, w' = e'.wd) := Lib.hid fun e => calls_ext e (alive_p _)
  refine wp_region_ext (by kernel_rfl) (by kernel_rfl) ?_
  refine wpQuiet_load_ext rfl 24 _ rfl w.heap.size 0 rfl (W x).toList _ R0.out tu24 rfl ts24 ?_
  quiet_step ((go_at_call 23; exact f1.out _))
  refine wpQuiet_load_ext rfl 24 _ rfl w.heap.size 0 rfl (W x).toList _ R0.out tu24 rfl ts24 ?_
  quiet_step ((go_at_call 24; exact f2.out _))
  iterate 2 (quiet_step (fail))
  refine wpQuiet_load_extg rfl 24 _ rfl w.heap.size 0 rfl (W x).toList _ R0.out tu24 rfl ts24 ?_
  quiet_step (fail)
  quiet_step ((go_at_call 25; exact f3.out _))
  refine wpQuiet_load_extg rfl 24 _ rfl w.heap.size 0 rfl (W x).toList _ R0.out tu24 rfl ts24 ?_
  quiet_step (fail)
  quiet_step ((go_at_call 26; exact f4.out _))
  iterate 3 (quiet_step (fail))
  refine wpQuiet_load_extg rfl 24 _ rfl w.heap.size 0 rfl (W x).toList _ R0.out tu24 rfl ts24 ?_
  quiet_step (fail)
  quiet_step ((go_at_call 27; exact f5.out _))
  refine wpQuiet_load_extg rfl 24 _ rfl w.heap.size 0 rfl (W x).toList _ R0.out tu24 rfl ts24 ?_
  quiet_step (fail)
  quiet_step ((go_at_call 28; exact f6.out _))
  iterate 3 (quiet_step (fail))
  refine wpQuiet_load_extg rfl 24 _ rfl w.heap.size 0 rfl (W x).toList _ R0.out tu24 rfl ts24 ?_
  quiet_step (fail)
  quiet_step ((go_at_call 29; exact f7.out _))
  refine wpQuiet_load_extg rfl 24 _ rfl w.heap.size 0 rfl (W x).toList _ R0.out tu24 rfl ts24 ?_
  quiet_step (fail)
  quiet_step ((go_at_call 30; exact f8.out _))
  iterate 3 (quiet_step (fail))
  quiet_step ((go_at_call 17; exact f9.out _))
  iterate 2 (quiet_step (fail))
  refine wpQuiet_nil ?_
  rintro _ ⟨e, rfl⟩
  go_wp2_with fail
  go_ret
  exact ⟨rfl, (HH.out.ext e.below).below⟩
end Go.Proofs.Ytjmckfebnoaheaa
