/- The page's Shl, walked. -/
import Derived.Test.YtjmckfebnoaheaaE2
set_option linter.unusedVariables false
namespace Go.Proofs.Ytjmckfebnoaheaa
open Go.RowKit Go.KK Go.Lm

theorem p256 : (2 : Int) ^ 256 = R256 := by decide
theorem mod_bit_low (y : Int) {e : Nat} (he : e ≤ 255) : y % R256 / 2 ^ e % 2 = y / 2 ^ e % 2 := by
  have hp : (0 : Int) < 2 ^ e := Int.pow_pos (by omega)
  have h1 := Int.mul_ediv_add_emod y R256
  have h2 : R256 = 2 ^ e * (2 * 2 ^ (255 - e)) := by
    rw [← p256, show (2 : Int) * 2 ^ (255 - e) = 2 ^ (255 - e + 1) by rw [Int.pow_succ]; omega, ← Int.pow_add, show e + (255 - e + 1) = 256 by omega]
  have h3 : y = y % R256 + (2 * (2 ^ (255 - e) * (y / R256))) * 2 ^ e := by
    have : R256 * (y / R256) = (2 * (2 ^ (255 - e) * (y / R256))) * 2 ^ e := by rw (config := {occs := .pos [1]}) [h2]; grind
    omega
  have h4 : y / 2 ^ e = y % R256 / 2 ^ e + 2 * (2 ^ (255 - e) * (y / R256)) := by
    rw (config := {occs := .pos [1]}) [h3]
    rw [Int.add_mul_ediv_right _ _ (by omega)]
  omega
theorem shl_bit (x : Int) {k e : Nat} (h : k ≤ e) (he : e ≤ 255) : x * 2 ^ k % R256 / 2 ^ e % 2 = x / 2 ^ (e - k) % 2 := by
  rw [mod_bit_low _ he]
  have hp : (0 : Int) < 2 ^ k := Int.pow_pos (by omega)
  obtain ⟨d, rfl⟩ : ∃ d, e = k + d := ⟨e - k, by omega⟩
  rw [show k + d - k = d by omega, Int.pow_add, ← Int.ediv_ediv_of_nonneg (by omega), Int.mul_ediv_cancel _ (by omega)]
theorem shl_low_none (x : Int) {k : Nat} (hk : k ≤ 256) : x * 2 ^ k % R256 / 2 ^ k * 2 ^ k = x * 2 ^ k % R256 := by
  have hp : (0 : Int) < 2 ^ k := Int.pow_pos (by omega)
  have h2 : R256 = 2 ^ (256 - k) * 2 ^ k := by rw [← p256, ← Int.pow_add, show 256 - k + k = 256 by omega]
  have h3 : x * 2 ^ k % R256 = (x % 2 ^ (256 - k)) * 2 ^ k := by
    rw [h2, Int.mul_comm x, Int.mul_comm (2 ^ (256 - k)), Int.mul_emod_mul_of_pos _ _ hp, Int.mul_comm]
  rw [h3, Int.mul_ediv_cancel _ (by omega)]
theorem shl_gone (x : Int) {k : Nat} (hk : 256 ≤ k) : x * 2 ^ k % R256 = 0 := by
  rw [show k = 256 + (k - 256) by omega, Int.pow_add, p256, show x * (R256 * 2 ^ (k - 256)) = (x * 2 ^ (k - 256)) * R256 by grind]
  exact Int.mul_emod_left _ _
theorem rshl_neg (x n : Int) (h : n < 0) (w : World) :
    Calls Try.prog 28 #[.agg (W x), .int .i64 n] w fun e w' => e = .returned (.agg (W x)) ∧ Below w.heap.size w w' := by
  have H0 := Lib.hid (((Blks.nil w).alloc (W x) 24 rfl).alloc Z4 24 (b := w.heap.size + 1) (by simp))
  go_enter Try.func28, Try.ntmps28
  go_wp2_with (first
    | ((with_reducible refine g_load 24 ?_); refine wpList_blks_load H0.out 0 _ _ 24 rfl rfl _ rfl rfl tu24 rfl ts24 ?_)
    | ((with_reducible refine g_store 24 ?_); refine wpList_blks_store H0.out 1 _ _ 24 rfl rfl _ _ rfl rfl (W x) rfl rfl ts24 (W_one _) ?_; intro w1 H1))
  exact bodyPost_ret (results_cell_row rfl _ _ (w.heap.size + 1) 24 (W x) (0, 0) _ rfl (H1.get 1 rfl) tu24 rfl ts24) rfl ⟨rfl, H1.below⟩
set_option maxHeartbeats 1000000 in
theorem rshl_gone (x n : Int) (h : 255 < n) (h1 : n ≤ 9223372036854775807) (w : World) :
    Calls Try.prog 28 #[.agg (W x), .int .i64 n] w fun e w' => e = .returned (.agg (W 0)) ∧ Below w.heap.size w w' := by
  have H0 := Lib.hid ((((Blks.nil w).alloc (W x) 24 rfl).alloc Z4 24 (b := w.heap.size + 1) (by simp)).alloc Z4 24 (b := w.heap.size + 1 + 1) (by simp))
  have hn : ¬ n < 0 := by omega
  have hd : decide (n ≤ 255) = false := by simp; omega
  go_enter Try.func28, Try.ntmps28
  go_wp2_with fail
  go_loopw [6] (fun i wr => i = .int .i64 255 ∧ Blks w [(w.heap.size, W x, 24), (w.heap.size + 1, Z4, 24), (w.heap.size + 1 + 1, W 0, 24)] wr) (fun i _ => (1 + intOf i).toNat)
  case atStart => exact ⟨rfl, by rw [show W 0 = Z4 from W_zero]; exact H0.out⟩
  case round =>
    obtain ⟨rfl, HW⟩ := hrel
    clear H0
    have HWH := Lib.hid HW
    clear HW
    go_wp2_with (first
      | ((with_reducible refine g_load 24 ?_); refine wpList_blks_load HWH.out 2 _ _ 24 rfl rfl _ rfl rfl tu24 rfl ts24 ?_)
      | ((with_reducible refine g_store 24 ?_); refine wpList_blks_store HWH.out 1 _ _ 24 rfl rfl _ _ rfl rfl (W 0) rfl rfl ts24 (W_one _) ?_; intro w1 H1))
    exact bodyPost_ret (results_cell_row rfl _ _ (w.heap.size + 1) 24 (W 0) (0, 0) _ rfl (H1.get 1 rfl) tu24 rfl ts24) rfl ⟨rfl, H1.below⟩
set_option maxRecDepth 100000 in
set_option maxHeartbeats 4000000 in
theorem rshl_in (x : Int) (k : Nat) (hk : k ≤ 255) (w : World) :
    Calls Try.prog 28 #[.agg (W x), .int .i64 k] w fun e w' => e = .returned (.agg (W (x * 2 ^ k % R256))) ∧ Below w.heap.size w w' := by
  have hz256 : x * 2 ^ k % R256 / 2 ^ 256 = 0 := Int.ediv_eq_zero_of_lt (Int.emod_nonneg _ (by have := R256_pos; omega)) (by rw [p256]; exact Int.emod_lt_of_pos _ R256_pos)
  have H0 := Lib.hid ((((Blks.nil w).alloc (W x) 24 rfl).alloc Z4 24 (b := w.heap.size + 1) (by simp)).alloc Z4 24 (b := w.heap.size + 1 + 1) (by simp))
  have HLN := Lib.hid (shl_low_none x (show k ≤ 256 by omega))
  have HSB : Hid (∀ e : Nat, k ≤ e → e ≤ 255 → x * 2 ^ k % R256 / 2 ^ e % 2 = x / 2 ^ (e - k) % 2) := Lib.hid fun e h1 h2 => shl_bit x h1 h2
  have HZ := Lib.hid hz256
  have hkI : (k : Int) ≤ 255 := by omega
  clear hz256
  generalize x * 2 ^ k % R256 = z at *
  go_enter Try.func28, Try.ntmps28
  go_wp2_with fail
  go_loopw [6] (fun i wr => ∃ m : Nat, k ≤ m ∧ m ≤ 256 ∧ i = .int .i64 ((m : Int) - 1) ∧ Blks w [(w.heap.size, W x, 24), (w.heap.size + 1, Z4, 24), (w.heap.size + 1 + 1, W (z / 2 ^ m * 2 ^ m), 24)] wr) (fun i _ => (1 + intOf i).toNat)
  case atStart =>
    refine ⟨256, by omega, by omega, rfl, ?_⟩
    rw [HZ.out, Int.zero_mul, show W 0 = Z4 from W_zero]; exact H0.out
  case round =>
    obtain ⟨m, hkm, hm, rfl, HW⟩ := hrel
    clear H0
    by_cases hme : m = k
    · subst hme
      rw [HLN.out] at HW
      have HWH := Lib.hid HW
      obtain ⟨j, hj⟩ : ∃ j : Int, (m : Int) - 1 = j := ⟨_, rfl⟩
      have hjk : decide ((m : Int) ≤ j) = false := by simp; omega
      rw [hj]
      clear HW hj
      go_wp2_with (first
        | ((with_reducible refine g_load 24 ?_); refine wpList_blks_load HWH.out 2 _ _ 24 rfl rfl _ rfl rfl tu24 rfl ts24 ?_)
        | ((with_reducible refine g_store 24 ?_); refine wpList_blks_store HWH.out 1 _ _ 24 rfl rfl _ _ rfl rfl (W z) rfl rfl ts24 (W_one _) ?_; intro w1 H1))
      exact bodyPost_ret (results_cell_row rfl _ _ (w.heap.size + 1) 24 (W z) (0, 0) _ rfl (H1.get 1 rfl) tu24 rfl ts24) rfl ⟨rfl, H1.below⟩
    · obtain ⟨e, rfl⟩ : ∃ e, m = e + 1 := ⟨m - 1, by omega⟩
      rw [show ((e + 1 : Nat) : Int) - 1 = (e : Int) by omega]
      have he : e ≤ 255 := by omega
      have hke : k ≤ e := by omega
      have hkeI : (k : Int) ≤ (e : Int) := by omega
      obtain ⟨d, hd⟩ : ∃ d, e - k = d := ⟨_, rfl⟩
      have hdI : (e : Int) - (k : Int) = (d : Int) := by omega
      have hd255 : d ≤ 255 := by omega
      have hbi : bitI x d = z / 2 ^ e % 2 := by rw [bitI_in x hd255, HSB.out e hke he, hd]
      have HB := Lib.hid (fun W' => rbit_p x d W')
      rw [hbi] at HB
      have hst := half_step z e
      have hput := out_room (z / 2 ^ (e + 1)) e
      have HPUT := Lib.hid (fun W' => put_p e (by omega) hput W')
      have hps : (2 : Int) ^ (e + 1) = 2 ^ e * 2 := Int.pow_succ _ _
      have HWH := Lib.hid HW
      have heI : (e : Int) ≤ 255 := by omega
      have h01 : z / 2 ^ e % 2 = 0 ∨ z / 2 ^ e % 2 = 1 := by omega
      have HKE : Hid (k ≤ e) := Lib.hid hke
      clear HW hbi hput hme hkm hd hke
      rcases h01 with h | h
      · rw [h] at HB hst
        have HS : Hid (z / 2 ^ e * 2 ^ e = z / 2 ^ (e + 1) * 2 ^ (e + 1)) := Lib.hid (by rw [hst, hps]; grind)
        clear h hst hps
        go_wp2_with (first
          | ((with_reducible refine g_load 24 ?_); refine wpList_blks_load HWH.out 0 _ _ 24 rfl rfl (.tmp 2) rfl rfl tu24 rfl ts24 ?_)
          | (go_at_call 26; refine (HB.out _).mono ?_; rintro _ V ⟨rfl, hV⟩))
        go_roundw
        case rel => exact ⟨e, HKE.out, by omega, rfl, by rw [HS.out]; exact HWH.out.ext hV⟩
        case measure => simp [intOf]; omega
      · rw [h] at HB hst
        have HS : Hid (z / 2 ^ e * 2 ^ e = z / 2 ^ (e + 1) * 2 ^ (e + 1) + 2 ^ e) := Lib.hid (by rw [hst, hps]; grind)
        clear h hst hps
        go_wp2_with (first
          | ((with_reducible refine g_load 24 ?_); refine wpList_blks_load HWH.out 0 _ _ 24 rfl rfl (.tmp 2) rfl rfl tu24 rfl ts24 ?_)
          | (go_at_call 26; refine (HB.out _).mono ?_; rintro _ V ⟨rfl, hV⟩)
          | ((with_reducible refine g_load 24 ?_); refine wpList_blks_load (HWH.out.ext hV) 2 _ _ 24 rfl rfl (.tmp 5) rfl rfl tu24 rfl ts24 ?_)
          | (go_at_call 46; refine (HPUT.out _).mono ?_; rintro _ V2 ⟨rfl, hV2⟩)
          | ((with_reducible refine g_store 24 ?_); refine wpList_blks_store ((HWH.out.ext hV).ext hV2) 2 _ _ 24 rfl rfl _ _ rfl rfl (W (z / 2 ^ (e + 1) * 2 ^ (e + 1) + 2 ^ e)) rfl rfl ts24 (W_one _) ?_; intro w3 HW3))
        go_roundw
        case rel => exact ⟨e, HKE.out, by omega, rfl, by rw [HS.out]; exact HW3⟩
        case measure => simp [intOf]; omega
theorem rshl_p (x n : Int) (h0 : 0 ≤ n) (h1 : n ≤ 9223372036854775807) (w : World) :
    Calls Try.prog 28 #[.agg (W x), .int .i64 n] w fun e w' => e = .returned (.agg (W (x * 2 ^ n.toNat))) ∧ Below w.heap.size w w' := by
  by_cases h : n ≤ 255
  · obtain ⟨k, rfl⟩ : ∃ k : Nat, n = k := ⟨n.toNat, by omega⟩
    have := rshl_in x k (by omega) w
    rwa [W_mod] at this
  · have := rshl_gone x n (by omega) h1 w
    rwa [← shl_gone x (k := n.toNat) (by omega), W_mod] at this
end Go.Proofs.Ytjmckfebnoaheaa
