/- Comparisons, the program's and the page's. -/
import Derived.Test.YtjmckfebnoaheaaB2
set_option linter.unusedVariables false
namespace Go.Proofs.Ytjmckfebnoaheaa
open Go.RowKit Go.KK Go.Lm

def cmpI (x y : Int) : Int := if x < y then -1 else if y < x then 1 else 0
theorem div_word (x : Int) (k : Nat) : x / B64 ^ k = B64 * (x / B64 ^ (k + 1)) + d64 x k := by
  rw [div_succ B64_pos]
  have := Int.mul_ediv_add_emod (x / B64 ^ k) B64
  unfold d64 dg
  omega
theorem cmp_lt {x y : Int} {k : Nat} (h : x / B64 ^ (k + 1) = y / B64 ^ (k + 1)) (hl : d64 x k < d64 y k) : x < y := by
  rcases Int.lt_or_le x y with h1 | h1
  · exact h1
  · have h2 := Int.ediv_le_ediv (pw_pos B64_pos k) h1
    rw [div_word x, div_word y, h] at h2
    omega
theorem cmp_step {x y : Int} {k : Nat} (h : x / B64 ^ (k + 1) = y / B64 ^ (k + 1)) (hl : d64 x k = d64 y k) : x / B64 ^ k = y / B64 ^ k := by
  rw [div_word x, div_word y, h, hl]
theorem cmpI_lt {x y : Int} (h : x < y) : cmpI x y = -1 := by unfold cmpI; rw [if_pos h]
theorem cmpI_gt {x y : Int} (h : y < x) : cmpI x y = 1 := by unfold cmpI; rw [if_neg (by omega), if_pos h]
theorem cmpI_eq (x : Int) : cmpI x x = 0 := by unfold cmpI; rw [if_neg (by omega), if_neg (by omega)]
theorem top_zero {x : Int} (h0 : 0 ≤ x) (h1 : x < R256) : x / B64 ^ 4 = 0 := Int.ediv_eq_zero_of_lt h0 h1

set_option maxHeartbeats 1000000 in
theorem cmp_p {x y : Int} (hx0 : 0 ≤ x) (hx1 : x < R256) (hy0 : 0 ≤ y) (hy1 : y < R256) (w : World) :
    Calls Try.prog 15 #[.agg (W x), .agg (W y)] w fun e w' => e = .returned (.int .i64 (cmpI x y)) ∧ Below w.heap.size w w' := by
  have HT : Hid (x / B64 ^ 4 = y / B64 ^ 4) := Lib.hid (by rw [top_zero hx0 hx1, top_zero hy0 hy1])
  clear hx0 hx1 hy0 hy1
  go_enter Try.func15, Try.ntmps15
  go_wp2_with fail
  go_loopw [5, 6, 7] (fun _ _ h wr => ∃ j : Nat, j ≤ 4 ∧ h = .int .i64 j ∧ x / B64 ^ (4 - j) = y / B64 ^ (4 - j) ∧ Blks w [(w.heap.size, W x, 24), (w.heap.size + 1, W y, 24)] wr) (fun _ _ h _ => 4 - (intOf h).toNat)
  case atStart => exact ⟨0, by omega, rfl, HT.out, ((Blks.nil w).alloc (W x) 24 rfl).alloc (W y) 24 (by simp)⟩
  case round =>
    obtain ⟨j, hj, rfl, hxy, HW⟩ := hrel
    by_cases hlt : j < 4
    · obtain ⟨k, hk⟩ : ∃ k : Nat, 3 = j + k := ⟨3 - j, by omega⟩
      rw [show 4 - j = k + 1 by omega] at hxy
      have HXY := Lib.hid hxy
      have hca : ∀ e : ExtOf wr, e.wd.cell? ⟨w.heap.size, k, none⟩ = some (.int .u64 (d64 x k)) := fun e => (HW.ext e.below).num 0 rfl (by omega)
      have hcb : ∀ e : ExtOf wr, e.wd.cell? ⟨w.heap.size + 1, k, none⟩ = some (.int .u64 (d64 y k)) := fun e => (HW.ext e.below).num 1 rfl (by omega)
      have HWH := Lib.hid HW
      have hkI : (k : Int) < 4 := by omega
      have e1 : (3 : Int) - (j : Int) = (k : Int) := by omega
      have hj3 : (j : Int) ≤ 3 := by omega
      have HK := Lib.hid hk
      clear HW hxy hk
      by_cases h1 : d64 x k < d64 y k
      · have HL := Lib.hid (cmpI_lt (cmp_lt HXY.out h1))
        go_wp2_with fail
        refine wp_region_ext (by kernel_rfl) (by kernel_rfl) ?_
        iterate 8 (quiet_step (fail))
        refine wpQuiet_nil ?_
        rintro _ ⟨e, rfl⟩
        go_wp2_with fail
        go_ret
        exact ⟨ret_i HL.out.symm, (HWH.out.ext e.below).below⟩
      · by_cases h2 : d64 y k < d64 x k
        · have HL := Lib.hid (cmpI_gt (cmp_lt HXY.out.symm h2))
          have h1' : decide (d64 x k < d64 y k) = false := by simp; omega
          go_wp2_with fail
          refine wp_region_ext (by kernel_rfl) (by kernel_rfl) ?_
          iterate 8 (quiet_step (fail))
          refine wpQuiet_nil ?_
          rintro _ ⟨e, rfl⟩
          have hca2 : ∀ e' : ExtOf e.wd, e'.wd.cell? ⟨w.heap.size, k, none⟩ = some (.int .u64 (d64 x k)) := fun e' => e'.cell (hca e)
          have hcb2 : ∀ e' : ExtOf e.wd, e'.wd.cell? ⟨w.heap.size + 1, k, none⟩ = some (.int .u64 (d64 y k)) := fun e' => e'.cell (hcb e)
          go_wp2_with fail
          refine wp_region_ext (by kernel_rfl) (by kernel_rfl) ?_
          iterate 8 (quiet_step (fail))
          refine wpQuiet_nil ?_
          rintro _ ⟨e', rfl⟩
          go_wp2_with fail
          go_ret
          exact ⟨ret_i HL.out.symm, ((HWH.out.ext e.below).ext e'.below).below⟩
        · have HL := Lib.hid (cmp_step HXY.out (by omega : d64 x k = d64 y k))
          have h1' : decide (d64 x k < d64 y k) = false := by simp; omega
          have h2' : decide (d64 y k < d64 x k) = false := by simp; omega
          go_wp2_with fail
          refine wp_region_ext (by kernel_rfl) (by kernel_rfl) ?_
          iterate 8 (quiet_step (fail))
          refine wpQuiet_nil ?_
          rintro _ ⟨e, rfl⟩
          have hca2 : ∀ e' : ExtOf e.wd, e'.wd.cell? ⟨w.heap.size, k, none⟩ = some (.int .u64 (d64 x k)) := fun e' => e'.cell (hca e)
          have hcb2 : ∀ e' : ExtOf e.wd, e'.wd.cell? ⟨w.heap.size + 1, k, none⟩ = some (.int .u64 (d64 y k)) := fun e' => e'.cell (hcb e)
          go_wp2_with fail
          refine wp_region_ext (by kernel_rfl) (by kernel_rfl) ?_
          iterate 8 (quiet_step (fail))
          refine wpQuiet_nil ?_
          rintro _ ⟨e', rfl⟩
          clear hca hcb hca2 hcb2
          go_wp2_with fail
          go_roundw
          case rel => exact ⟨j + 1, by omega, by go_num, by rw [show 4 - (j + 1) = k by have := HK.out; omega]; exact HL.out, (HWH.out.ext e.below).ext e'.below⟩
          case measure => simp [intOf]; omega
    · obtain rfl : j = 4 := by omega
      have hE : x = y := by simpa using hxy
      subst hE
      have hc := cmpI_eq x
      have HC := Lib.hid hc
      clear hc hxy
      go_wp2_with fail
      go_ret
      exact ⟨ret_i HC.out.symm, HW.below⟩
end Go.Proofs.Ytjmckfebnoaheaa
