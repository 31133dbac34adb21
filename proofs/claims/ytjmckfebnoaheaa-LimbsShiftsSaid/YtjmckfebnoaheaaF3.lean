/- The page's Shr, walked; the law's two shifts. -/
import Derived.Test.YtjmckfebnoaheaaF2
import Derived.Test.YtjmckfebnoaheaaF1
import Derived.Test.YtjmckfebnoaheaaF0
set_option linter.unusedVariables false
namespace Go.Proofs.Ytjmckfebnoaheaa
open Go.RowKit Go.KK Go.Lm

theorem low_step (y : Int) (e : Nat) : y % 2 ^ (e + 1) = y % 2 ^ e + (y / 2 ^ e % 2) * 2 ^ e := by
  have hp : (0 : Int) < 2 ^ e := Int.pow_pos (by omega)
  have h1 := Int.mul_ediv_add_emod y (2 ^ e)
  have h2 := Int.mul_ediv_add_emod (y / 2 ^ e) 2
  have h3 := Int.emod_nonneg y (show (2 : Int) ^ e ≠ 0 by omega)
  have h4 := Int.emod_lt_of_pos y hp
  have h5 : y = (y % 2 ^ e + (y / 2 ^ e % 2) * 2 ^ e) + 2 ^ (e + 1) * (y / 2 ^ e / 2) := by
    rw [Int.pow_succ]
    have : 2 ^ e * (y / 2 ^ e) = 2 ^ e * (2 * (y / 2 ^ e / 2) + y / 2 ^ e % 2) := by rw [h2]
    grind
  have hb : y / 2 ^ e % 2 = 0 ∨ y / 2 ^ e % 2 = 1 := by omega
  rw (config := {occs := .pos [1]}) [h5]
  rw [Int.add_mul_emod_self_left]
  refine Int.emod_eq_of_lt ?_ ?_
  · rcases hb with h | h <;> rw [h] <;> omega
  · rw [Int.pow_succ]; rcases hb with h | h <;> rw [h] <;> omega
theorem low_room (y : Int) (e : Nat) : y % 2 ^ e / 2 ^ e % 2 = 0 := by
  have hp : (0 : Int) < 2 ^ e := Int.pow_pos (by omega)
  rw [Int.ediv_eq_zero_of_lt (Int.emod_nonneg y (by omega)) (Int.emod_lt_of_pos y hp)]; rfl
theorem shr_bit (x : Int) (k e : Nat) : x / 2 ^ k / 2 ^ e % 2 = x / 2 ^ (e + k) % 2 := by
  have hp : (0 : Int) < 2 ^ k := Int.pow_pos (by omega)
  rw [Int.ediv_ediv_of_nonneg (by omega), ← Int.pow_add, Nat.add_comm]
theorem shr_end {x : Int} (hx0 : 0 ≤ x) (hx1 : x < R256) {k : Nat} (hk : k ≤ 255) : x / 2 ^ k % 2 ^ (256 - k) = x / 2 ^ k := by
  have hp : (0 : Int) < 2 ^ k := Int.pow_pos (by omega)
  refine Int.emod_eq_of_lt (Int.ediv_nonneg hx0 (by omega)) (Int.ediv_lt_of_lt_mul hp ?_)
  rw [← Int.pow_add, show 256 - k + k = 256 by omega, p256]; exact hx1
theorem shr_gone {x : Int} (hx0 : 0 ≤ x) (hx1 : x < R256) {k : Nat} (hk : 256 ≤ k) : x / 2 ^ k = 0 := by
  refine Int.ediv_eq_zero_of_lt hx0 (Int.lt_of_lt_of_le hx1 ?_)
  rw [show k = 256 + (k - 256) by omega, Int.pow_add, p256]
  have h1 : (1 : Int) ≤ 2 ^ (k - 256) := Int.pow_pos (by omega)
  have h2 : R256 * 1 ≤ R256 * 2 ^ (k - 256) := Int.mul_le_mul_of_nonneg_left h1 (by decide)
  omega
theorem rshr_neg (x n : Int) (h : n < 0) (w : World) :
    Calls Try.prog 30 #[.agg (W x), .int .i64 n] w fun e w' => e = .returned (.agg (W x)) ∧ Below w.heap.size w w' := by
  have H0 := Lib.hid (((Blks.nil w).alloc (W x) 24 rfl).alloc Z4 24 (b := w.heap.size + 1) (by simp))
  go_enter Try.func30, Try.ntmps30
  go_wp2_with (first
    | ((with_reducible refine g_load 24 ?_); refine wpList_blks_load H0.out 0 _ _ 24 rfl rfl _ rfl rfl tu24 rfl ts24 ?_)
    | ((with_reducible refine g_store 24 ?_); refine wpList_blks_store H0.out 1 _ _ 24 rfl rfl _ _ rfl rfl (W x) rfl rfl ts24 (W_one _) ?_; intro w1 H1))
  exact bodyPost_ret (results_cell_row rfl _ _ (w.heap.size + 1) 24 (W x) (0, 0) _ rfl (H1.get 1 rfl) tu24 rfl ts24) rfl ⟨rfl, H1.below⟩
set_option maxHeartbeats 1000000 in
theorem rshr_gone (x n : Int) (h : 255 < n) (h1 : n ≤ 9223372036854775807) (w : World) :
    Calls Try.prog 30 #[.agg (W x), .int .i64 n] w fun e w' => e = .returned (.agg (W 0)) ∧ Below w.heap.size w w' := by
  have H0 := ((((Blks.nil w).alloc (W x) 24 rfl).alloc Z4 24 (b := w.heap.size + 1) (by simp)).alloc Z4 24 (b := w.heap.size + 1 + 1) (by simp))
  have hZ : Z4 = W 0 := W_zero.symm
  rw [hZ] at H0
  clear hZ
  have HWH := Lib.hid H0
  clear H0
  have hn : ¬ n < 0 := by omega
  go_enter Try.func30, Try.ntmps30
  go_wp2_with (first
    | ((with_reducible refine g_load 24 ?_); refine wpList_blks_load HWH.out 2 _ _ 24 rfl rfl (.tmp 5) rfl rfl tu24 rfl ts24 ?_)
    | ((with_reducible refine g_store 24 ?_); refine wpList_blks_store HWH.out 1 _ _ 24 rfl rfl _ _ rfl rfl (W 0) rfl rfl ts24 (W_one _) ?_; intro w1 H1))
  exact bodyPost_ret (results_cell_row rfl _ _ (w.heap.size + 1) 24 (W 0) (0, 0) _ rfl (H1.get 1 rfl) tu24 rfl ts24) rfl ⟨rfl, H1.below⟩
set_option maxRecDepth 100000 in
set_option maxHeartbeats 4000000 in
theorem rshr_in {x : Int} (hx0 : 0 ≤ x) (hx1 : x < R256) (k : Nat) (hk : k ≤ 255) (w : World) :
    Calls Try.prog 30 #[.agg (W x), .int .i64 k] w fun e w' => e = .returned (.agg (W (x / 2 ^ k))) ∧ Below w.heap.size w w' := by
  have H0 := Lib.hid ((((Blks.nil w).alloc (W x) 24 rfl).alloc Z4 24 (b := w.heap.size + 1) (by simp)).alloc Z4 24 (b := w.heap.size + 1 + 1) (by simp))
  have HLN := Lib.hid (shr_end hx0 hx1 hk)
  have HSB : Hid (∀ e : Nat, x / 2 ^ k / 2 ^ e % 2 = x / 2 ^ (e + k) % 2) := Lib.hid fun e => shr_bit x k e
  have hkI : (k : Int) ≤ 255 := by omega
  have hk0 : ¬ (255 : Int) < (k : Int) := by omega
  clear hx0 hx1
  generalize x / 2 ^ k = y at *
  go_enter Try.func30, Try.ntmps30
  go_wp2_with fail
  go_loopw [6] (fun i wr => ∃ m : Nat, m + k ≤ 256 ∧ i = .int .i64 m ∧ Blks w [(w.heap.size, W x, 24), (w.heap.size + 1, Z4, 24), (w.heap.size + 1 + 1, W (y % 2 ^ m), 24)] wr) (fun i _ => 256 - (intOf i).toNat)
  case atStart =>
    refine ⟨0, by omega, rfl, ?_⟩
    rw [show y % 2 ^ 0 = 0 by simp, show W 0 = Z4 from W_zero]; exact H0.out
  case round =>
    obtain ⟨e, hek, rfl, HW⟩ := hrel
    clear H0
    obtain ⟨d, hd⟩ : ∃ d, e + k = d := ⟨_, rfl⟩
    have hdI : (e : Int) + (k : Int) = (d : Int) := by omega
    have hd256 : d ≤ 256 := by omega
    by_cases hme : d = 256
    · rw [show e = 256 - k by omega, HLN.out] at HW
      have HWH := Lib.hid HW
      have hdn : ¬ (d : Int) < 256 := by omega
      clear HW hek hme
      go_wp2_with (first
        | ((with_reducible refine g_load 24 ?_); refine wpList_blks_load HWH.out 2 _ _ 24 rfl rfl _ rfl rfl tu24 rfl ts24 ?_)
        | ((with_reducible refine g_store 24 ?_); refine wpList_blks_store HWH.out 1 _ _ 24 rfl rfl _ _ rfl rfl (W y) rfl rfl ts24 (W_one _) ?_; intro w1 H1))
      exact bodyPost_ret (results_cell_row rfl _ _ (w.heap.size + 1) 24 (W y) (0, 0) _ rfl (H1.get 1 rfl) tu24 rfl ts24) rfl ⟨rfl, H1.below⟩
    · have hdlt : (d : Int) < 256 := by omega
      have hd255 : d ≤ 255 := by omega
      have he255 : e ≤ 255 := by omega
      have hbi : bitI x d = y / 2 ^ e % 2 := by rw [bitI_in x hd255, HSB.out e, hd]
      have HB := Lib.hid (fun W' => rbit_p x d W')
      rw [hbi] at HB
      have hst := low_step y e
      have hput := low_room y e
      have HPUT := Lib.hid (fun W' => put_p e (by omega) hput W')
      have HWH := Lib.hid HW
      have h01 : y / 2 ^ e % 2 = 0 ∨ y / 2 ^ e % 2 = 1 := by omega
      have HKE : Hid (e + 1 + k ≤ 256) := Lib.hid (by omega)
      clear HW hbi hput hme hek hd
      rcases h01 with h | h
      · rw [h] at HB hst
        rw [Int.zero_mul, Int.add_zero] at hst
        have HS := Lib.hid hst
        clear h hst
        go_wp2_with (first
          | ((with_reducible refine g_load 24 ?_); refine wpList_blks_load HWH.out 0 _ _ 24 rfl rfl (.tmp 2) rfl rfl tu24 rfl ts24 ?_)
          | (go_at_call 26; refine (HB.out _).mono ?_; rintro _ V ⟨rfl, hV⟩))
        go_roundw
        case rel => exact ⟨e + 1, HKE.out, by go_num, by rw [HS.out]; exact HWH.out.ext hV⟩
        case measure => simp [intOf]; omega
      · rw [h, Int.one_mul] at hst
        rw [h] at HB
        have HS := Lib.hid hst
        clear h hst
        go_wp2_with (first
          | ((with_reducible refine g_load 24 ?_); refine wpList_blks_load HWH.out 0 _ _ 24 rfl rfl (.tmp 2) rfl rfl tu24 rfl ts24 ?_)
          | (go_at_call 26; refine (HB.out _).mono ?_; rintro _ V ⟨rfl, hV⟩)
          | ((with_reducible refine g_load 24 ?_); refine wpList_blks_load (HWH.out.ext hV) 2 _ _ 24 rfl rfl (.tmp 5) rfl rfl tu24 rfl ts24 ?_)
          | (go_at_call 46; refine (HPUT.out _).mono ?_; rintro _ V2 ⟨rfl, hV2⟩)
          | ((with_reducible refine g_store 24 ?_); refine wpList_blks_store ((HWH.out.ext hV).ext hV2) 2 _ _ 24 rfl rfl _ _ rfl rfl (W (y % 2 ^ e + 2 ^ e)) rfl rfl ts24 (W_one _) ?_; intro w3 HW3))
        go_roundw
        case rel => exact ⟨e + 1, HKE.out, by go_num, by rw [HS.out]; exact HW3⟩
        case measure => simp [intOf]; omega
theorem rshr_p {x : Int} (hx0 : 0 ≤ x) (hx1 : x < R256) (n : Int) (h0 : 0 ≤ n) (h1 : n ≤ 9223372036854775807) (w : World) :
    Calls Try.prog 30 #[.agg (W x), .int .i64 n] w fun e w' => e = .returned (.agg (W (x / 2 ^ n.toNat))) ∧ Below w.heap.size w w' := by
  by_cases h : n ≤ 255
  · obtain ⟨k, rfl⟩ : ∃ k : Nat, n = k := ⟨n.toNat, by omega⟩
    exact rshr_in hx0 hx1 k (by omega) w
  · have := rshr_gone x n (by omega) h1 w
    rwa [← shr_gone hx0 hx1 (k := n.toNat) (by omega)] at this
/-- Both shifts up: one answer. -/
theorem shl_any (x n : Int) (h1 : n ≤ 9223372036854775807) : ∃ y : Int,
    (∀ W', Calls Try.prog 27 #[.agg (W x), .int .i64 n] W' fun e w' => e = .returned (.agg (W y)) ∧ Below W'.heap.size W' w') ∧
    (∀ W', Calls Try.prog 28 #[.agg (W x), .int .i64 n] W' fun e w' => e = .returned (.agg (W y)) ∧ Below W'.heap.size W' w') := by
  by_cases h : n < 0
  · exact ⟨x, fun W' => shl_none x n (by omega) W', fun W' => rshl_neg x n h W'⟩
  by_cases h0 : n = 0
  · subst h0
    refine ⟨x, fun W' => shl_none x 0 (by omega) W', fun W' => ?_⟩
    have := rshl_p x 0 (by omega) (by omega) W'
    rwa [show x * 2 ^ (0 : Int).toNat = x by simp] at this
  · exact ⟨_, fun W' => shl_some x n (by omega) h1 W', fun W' => rshl_p x n (by omega) h1 W'⟩
theorem shr_any {x : Int} (hx0 : 0 ≤ x) (hx1 : x < R256) (n : Int) (h1 : n ≤ 9223372036854775807) : ∃ y : Int,
    (∀ W', Calls Try.prog 29 #[.agg (W x), .int .i64 n] W' fun e w' => e = .returned (.agg (W y)) ∧ Below W'.heap.size W' w') ∧
    (∀ W', Calls Try.prog 30 #[.agg (W x), .int .i64 n] W' fun e w' => e = .returned (.agg (W y)) ∧ Below W'.heap.size W' w') := by
  by_cases h : n < 0
  · exact ⟨x, fun W' => shr_none x n (by omega) W', fun W' => rshr_neg x n h W'⟩
  by_cases h0 : n = 0
  · subst h0
    refine ⟨x, fun W' => shr_none x 0 (by omega) W', fun W' => ?_⟩
    have := rshr_p hx0 hx1 0 (by omega) (by omega) W'
    rwa [show x / 2 ^ (0 : Int).toNat = x by simp] at this
  · exact ⟨_, fun W' => shr_some hx0 hx1 n (by omega) h1 W', fun W' => rshr_p hx0 hx1 n (by omega) h1 W'⟩
end Go.Proofs.Ytjmckfebnoaheaa
