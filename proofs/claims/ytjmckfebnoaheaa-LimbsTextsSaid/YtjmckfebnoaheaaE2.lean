/- The page's Div, walked. -/
import Derived.Test.YtjmckfebnoaheaaE1
set_option linter.unusedVariables false
namespace Go.Proofs.Ytjmckfebnoaheaa
open Go.RowKit Go.KK Go.Lm

theorem half_step (x : Int) (e : Nat) : x / 2 ^ e = x / 2 ^ (e + 1) * 2 + x / 2 ^ e % 2 := by
  rw [Int.pow_succ, ← Int.ediv_ediv_of_nonneg (Int.le_of_lt (Int.pow_pos (by omega)))]
  omega
/-- One bit more of a quotient and its rest. -/
theorem long_step (x y : Int) (hy : 0 < y) (e : Nat) (r b : Int) (hr : x / 2 ^ (e + 1) % y = r) (hb : x / 2 ^ e % 2 = b) :
    x / 2 ^ e % y = (if y ≤ r * 2 + b then r * 2 + b - y else r * 2 + b) ∧ x / 2 ^ e / y * 2 ^ e = x / 2 ^ (e + 1) / y * 2 ^ (e + 1) + (if y ≤ r * 2 + b then 2 ^ e else 0) := by
  have h1 := half_step x e
  rw [hb] at h1
  have h2 := Int.mul_ediv_add_emod (x / 2 ^ (e + 1)) y
  have hr0 := Int.emod_nonneg (x / 2 ^ (e + 1)) (show y ≠ 0 by omega)
  have hr1 := Int.emod_lt_of_pos (x / 2 ^ (e + 1)) hy
  rw [hr] at h2 hr0 hr1
  have hb2 : b = 0 ∨ b = 1 := by omega
  have hb01 : 0 ≤ b ∧ b ≤ 1 := by omega
  generalize x / 2 ^ (e + 1) = z at *
  generalize z / y = q at *
  have h3 : x / 2 ^ e = (r * 2 + b) + (q * 2) * y := by rw [h1, ← h2]; grind
  have h4 := rest_once hr0 hr1 hb2
  rw [h3, Int.add_mul_emod_self_right, Int.add_mul_ediv_right _ _ (by omega), h4]
  refine ⟨rfl, ?_⟩
  rw [Int.pow_succ]
  split
  · rename_i h
    rw [show r * 2 + b = (r * 2 + b - y) + y * 1 by omega, Int.add_mul_ediv_left _ _ (by omega), Int.ediv_eq_zero_of_lt (by omega) (by omega)]
    grind
  · rename_i h
    rw [Int.ediv_eq_zero_of_lt (by omega) (by omega)]
    grind
theorem out_room (q : Int) (e : Nat) : q * 2 ^ (e + 1) / 2 ^ e % 2 = 0 := by
  have hp : (0 : Int) < 2 ^ e := Int.pow_pos (by omega)
  rw [Int.pow_succ, show q * (2 ^ e * 2) = (q * 2) * 2 ^ e by grind, Int.mul_ediv_cancel _ (by omega)]
  omega
theorem bitI_in (x : Int) {e : Nat} (h : e ≤ 255) : bitI x e = x / 2 ^ e % 2 := by unfold bitI; rw [if_neg (by omega), Int.toNat_natCast]
set_option maxHeartbeats 1000000 in
theorem rdiv_z (x : Int) (w : World) :
    Calls Try.prog 19 #[.agg (W x), .int .u64 0] w fun e w' => e = .returned (.tuple #[.agg (W 0), .int .u64 0, .int .i64 22]) ∧ Below w.heap.size w w' := by
  have H0 := Lib.hid ((((Blks.nil w).alloc (W x) 24 rfl).alloc Z4 24 (b := w.heap.size + 1) (by simp)).alloc Z4 24 (b := w.heap.size + 1 + 1) (by simp))
  have hZ : Z4 = W 0 := W_zero.symm
  rw [hZ] at H0
  clear hZ
  go_enter Try.func19, Try.ntmps19
  go_wp2_with (first
    | ((with_reducible refine g_load 24 ?_); refine wpList_blks_load H0.out 2 _ _ 24 rfl rfl (.tmp 7) rfl rfl tu24 rfl ts24 ?_)
    | ((with_reducible refine g_store 24 ?_); refine wpList_blks_store H0.out 1 _ _ 24 rfl rfl _ _ rfl rfl (W 0) rfl rfl ts24 (W_one _) ?_; intro w1 H1))
  exact bodyPost_ret (results_cell_tmp2_row rfl _ _ (w.heap.size + 1) 24 (W 0) (0, 0) _ (.int .u64 0) (.int .i64 22) rfl rfl rfl (H1.get 1 rfl) tu24 rfl ts24) rfl ⟨rfl, H1.below⟩
set_option maxRecDepth 100000 in
set_option maxHeartbeats 4000000 in
theorem rdiv_p {x y : Int} (hx0 : 0 ≤ x) (hx1 : x < R256) (hy0 : 0 < y) (hy1 : y ≤ 18446744073709551615) (w : World) :
    Calls Try.prog 19 #[.agg (W x), .int .u64 y] w fun e w' => e = .returned (.tuple #[.agg (W (x / y)), .int .u64 (x % y), .int .i64 0]) ∧ Below w.heap.size w w' := by
  have hz256 : x / 2 ^ 256 = 0 := Int.ediv_eq_zero_of_lt hx0 (by have := R256_lit; omega)
  have hyz : (y == 0) = false := by simp; omega
  have H0 := Lib.hid ((((Blks.nil w).alloc (W x) 24 rfl).alloc Z4 24 (b := w.heap.size + 1) (by simp)).alloc Z4 24 (b := w.heap.size + 1 + 1) (by simp))
  have HZ := Lib.hid hz256
  clear hx0 hx1 hz256
  go_enter Try.func19, Try.ntmps19
  go_wp2_with fail
  clear hyz
  go_loopw [8, 9, 10] (fun r i _ wr => ∃ m : Nat, m ≤ 256 ∧ i = .int .i64 ((m : Int) - 1) ∧ r = .int .u64 (x / 2 ^ m % y) ∧ Blks w [(w.heap.size, W x, 24), (w.heap.size + 1, Z4, 24), (w.heap.size + 1 + 1, W (x / 2 ^ m / y * 2 ^ m), 24)] wr) (fun _ i _ _ => (1 + intOf i).toNat)
  case atStart =>
    refine ⟨256, by omega, rfl, ?_, ?_⟩
    · rw [HZ.out, Int.zero_emod]
    · rw [HZ.out, Int.zero_ediv, Int.zero_mul, show W 0 = Z4 from W_zero]; exact H0.out
  case round =>
    obtain ⟨m, hm, rfl, rfl, HW⟩ := hrel
    clear H0
    cases m with
    | zero =>
      rw [show ((0 : Nat) : Int) - 1 = -1 from rfl]
      have e1 : x / 2 ^ 0 % y = x % y := by simp
      have e2 : x / 2 ^ 0 / y * 2 ^ 0 = x / y := by simp
      rw [e2] at HW
      rw [e1]
      have HWH := Lib.hid HW
      clear HW e1 e2
      go_wp2_with (first
        | ((with_reducible refine g_load 24 ?_); refine wpList_blks_load HWH.out 2 _ _ 24 rfl rfl _ rfl rfl tu24 rfl ts24 ?_)
        | ((with_reducible refine g_store 24 ?_); refine wpList_blks_store HWH.out 1 _ _ 24 rfl rfl _ _ rfl rfl (W (x / y)) rfl rfl ts24 (W_one _) ?_; intro w1 H1))
      exact bodyPost_ret (results_cell_tmp2_row rfl _ _ (w.heap.size + 1) 24 (W (x / y)) (0, 0) _ (.int .u64 (x % y)) (.int .i64 0) rfl rfl rfl (H1.get 1 rfl) tu24 rfl ts24) rfl ⟨rfl, H1.below⟩
    | succ e =>
      rw [show ((e + 1 : Nat) : Int) - 1 = (e : Int) by omega]
      have he : e ≤ 255 := by omega
      obtain ⟨r, hr⟩ : ∃ r, x / 2 ^ (e + 1) % y = r := ⟨_, rfl⟩
      obtain ⟨b, hb⟩ : ∃ b, x / 2 ^ e % 2 = b := ⟨_, rfl⟩
      have hst := long_step x y hy0 e r b hr hb
      have hr0 : 0 ≤ r := by rw [← hr]; exact Int.emod_nonneg _ (by omega)
      have hr1 : r < y := by rw [← hr]; exact Int.emod_lt_of_pos _ hy0
      have hb0 : 0 ≤ b := by omega
      have hb1 : b ≤ 1 := by omega
      rw [hr]
      have hbi : bitI x e = b := by rw [bitI_in x he, hb]
      have HB := Lib.hid (fun W' => rbit_p x e W')
      rw [hbi] at HB
      have hput := out_room (x / 2 ^ (e + 1) / y) e
      have HPUT := Lib.hid (fun W' => put_p e (by omega) hput W')
      have HST := Lib.hid hst
      have heI : (e : Int) ≤ 255 := by omega
      have hshl : IntKind.u64.wrap (r * 2) = r * 2 % 18446744073709551616 := by rw [IntKind.wrap_u64]
      have hor : bits .or .u64 (r * 2 % 18446744073709551616) b = r * 2 % 18446744073709551616 + b := u64_or 1 (by omega) (by omega) (by simp) hb0 (by omega) (by omega)
      obtain ⟨v, hv⟩ : ∃ v, r * 2 % 18446744073709551616 + b = v := ⟨_, rfl⟩
      rw [hv] at hor
      have hv0 : 0 ≤ v := by omega
      have hv1 : v ≤ 18446744073709551615 := by omega
      have HVV := Lib.hid hv
      have HWH := Lib.hid HW
      have hb64 : IntKind.u64.wrap b = b := IntWalk.u64_in _ (by omega)
      clear HW hr hb hst hput hbi hv
      by_cases hT : 9223372036854775808 ≤ r
      · have htp : r / 9223372036854775808 = 1 := by omega
        have hge : y ≤ r * 2 + b := by omega
        have hs := HST.out
        rw [if_pos hge, if_pos hge] at hs
        have hsub : IntKind.u64.wrap (v - y) = r * 2 + b - y := by rw [IntKind.wrap_u64]; have := HVV.out; omega
        have HS1 := Lib.hid hs.1
        have HS2 := Lib.hid hs.2
        clear hs hT HST
        go_wp2_with (first
          | ((with_reducible refine g_load 24 ?_); refine wpList_blks_load HWH.out 0 _ _ 24 rfl rfl (.tmp 2) rfl rfl tu24 rfl ts24 ?_)
          | (go_at_call 26; refine (HB.out _).mono ?_; rintro _ V ⟨rfl, hV⟩)
          | ((with_reducible refine g_load 24 ?_); refine wpList_blks_load (HWH.out.ext hV) 2 _ _ 24 rfl rfl (.tmp 7) rfl rfl tu24 rfl ts24 ?_)
          | (go_at_call 46; refine (HPUT.out _).mono ?_; rintro _ V2 ⟨rfl, hV2⟩)
          | ((with_reducible refine g_store 24 ?_); refine wpList_blks_store ((HWH.out.ext hV).ext hV2) 2 _ _ 24 rfl rfl _ _ rfl rfl (W (x / 2 ^ (e + 1) / y * 2 ^ (e + 1) + 2 ^ e)) rfl rfl ts24 (W_one _) ?_; intro w3 HW3))
        go_roundw
        case rel => exact ⟨e, by omega, rfl, by rw [HS1.out], by rw [HS2.out]; exact HW3⟩
        case measure => simp [intOf]; omega
      · have htp : r / 9223372036854775808 = 0 := by omega
        have hvv : v = r * 2 + b := by have := HVV.out; omega
        by_cases hge : y ≤ r * 2 + b
        · have hs := HST.out
          rw [if_pos hge, if_pos hge] at hs
          have hge' : y ≤ v := by omega
          have hsub : IntKind.u64.wrap (v - y) = r * 2 + b - y := by rw [IntKind.wrap_u64]; omega
          have HS1 := Lib.hid hs.1
          have HS2 := Lib.hid hs.2
          clear hs hT HST hvv hge
          go_wp2_with (first
            | ((with_reducible refine g_load 24 ?_); refine wpList_blks_load HWH.out 0 _ _ 24 rfl rfl (.tmp 2) rfl rfl tu24 rfl ts24 ?_)
            | (go_at_call 26; refine (HB.out _).mono ?_; rintro _ V ⟨rfl, hV⟩)
            | ((with_reducible refine g_load 24 ?_); refine wpList_blks_load (HWH.out.ext hV) 2 _ _ 24 rfl rfl (.tmp 7) rfl rfl tu24 rfl ts24 ?_)
            | (go_at_call 46; refine (HPUT.out _).mono ?_; rintro _ V2 ⟨rfl, hV2⟩)
            | ((with_reducible refine g_store 24 ?_); refine wpList_blks_store ((HWH.out.ext hV).ext hV2) 2 _ _ 24 rfl rfl _ _ rfl rfl (W (x / 2 ^ (e + 1) / y * 2 ^ (e + 1) + 2 ^ e)) rfl rfl ts24 (W_one _) ?_; intro w3 HW3))
          go_roundw
          case rel => exact ⟨e, by omega, rfl, by rw [HS1.out], by rw [HS2.out]; exact HW3⟩
          case measure => simp [intOf]; omega
        · have hs := HST.out
          rw [if_neg hge, if_neg hge, Int.add_zero] at hs
          have hge' : decide (y ≤ v) = false := by simp; omega
          have HS1 := Lib.hid (hs.1.trans hvv.symm)
          have HS2 := Lib.hid hs.2
          clear hs hT HST hvv hge
          go_wp2_with (first
            | ((with_reducible refine g_load 24 ?_); refine wpList_blks_load HWH.out 0 _ _ 24 rfl rfl (.tmp 2) rfl rfl tu24 rfl ts24 ?_)
            | (go_at_call 26; refine (HB.out _).mono ?_; rintro _ V ⟨rfl, hV⟩))
          go_roundw
          case rel => exact ⟨e, by omega, rfl, by rw [HS1.out], by rw [HS2.out]; exact HWH.out.ext hV⟩
          case measure => simp [intOf]; omega
end Go.Proofs.Ytjmckfebnoaheaa
