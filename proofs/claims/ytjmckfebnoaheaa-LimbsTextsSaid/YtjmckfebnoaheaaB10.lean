/- Shifts up, as the program makes them. -/
import Derived.Test.YtjmckfebnoaheaaB9
import Derived.Test.YtjmckfebnoaheaaA2
set_option linter.unusedVariables false
namespace Go.Proofs.Ytjmckfebnoaheaa
open Go.RowKit Go.KK Go.Lm

theorem i64_and63 {x : Int} (h₀ : 0 ≤ x) (h₁ : x ≤ 9223372036854775807) : bits .and .i64 x 63 = x % 64 :=
  bits_mask .i64 63 (by decide) (fun n h₀ h₁ => by rw [IntKind.wrap_i64]; omega) 6 (by decide) x h₀ (by omega)
theorem two_B64 {r : Nat} (hr : r ≤ 63) : B64 = 2 ^ r * 2 ^ (64 - r) := by rw [← Int.pow_add, show r + (64 - r) = 64 by omega]; rfl
theorem two_pow_B64 (q : Nat) : (2 : Int) ^ (64 * q) = B64 ^ q := by rw [Int.pow_mul]; rfl
/-- A word shifted up, alone; what comes from the word below. -/
def shA (x : Int) (q r i : Nat) : Int := d64 x (i - q) * 2 ^ r % 18446744073709551616
def shE (x : Int) (q r i : Nat) : Int := if q < i then d64 x (i - q - 1) / 2 ^ (64 - r) else 0
theorem shl_low (x : Int) (q r : Nat) {i : Nat} (h : i < q) : d64 (x * 2 ^ (64 * q + r)) i = 0 := by
  rw [show x * 2 ^ (64 * q + r) = (x * 2 ^ r) * B64 ^ q by rw [Int.pow_add, two_pow_B64]; grind]
  exact dg_mul_pow_lo B64_pos _ h
theorem shl_digit (x : Int) {q r i : Nat} (hr : r ≤ 63) (hi : q ≤ i) : d64 (x * 2 ^ (64 * q + r)) i = shA x q r i + shE x q r i := by
  rw [show x * 2 ^ (64 * q + r) = (x * 2 ^ r) * B64 ^ q by rw [Int.pow_add, two_pow_B64]; grind]
  obtain ⟨m, rfl⟩ : ∃ m, i = q + m := ⟨i - q, by omega⟩
  have hp : (0 : Int) < 2 ^ r := Int.pow_pos (by omega)
  have hc : (0 : Int) < 2 ^ (64 - r) := Int.pow_pos (by omega)
  unfold shA shE
  rw [show q + m - q = m by omega]
  refine (dg_mul_pow_hi B64_pos _ q m).trans ?_
  cases m with
  | zero => rw [dg_mul_zero, if_neg (by omega), Int.add_zero]; rfl
  | succ m => rw [dg_mul hp hc (two_B64 hr), if_pos (by omega), show m + 1 - 1 = m by omega]; rfl
theorem shA_bd (x : Int) (q r i : Nat) (hr : r ≤ 63) : 0 ≤ shA x q r i ∧ shA x q r i ≤ 18446744073709551615 ∧ shA x q r i % 2 ^ r = 0 := by
  have hp : (0 : Int) < 2 ^ r := Int.pow_pos (by omega)
  unfold shA
  refine ⟨by omega, by omega, ?_⟩
  have e : d64 x (i - q) * 2 ^ r % 18446744073709551616 = (d64 x (i - q) % 2 ^ (64 - r)) * 2 ^ r := by
    rw [show (18446744073709551616 : Int) = 2 ^ (64 - r) * 2 ^ r by rw [← Int.pow_add, show 64 - r + r = 64 by omega]; rfl]
    rw [Int.mul_comm _ (2 ^ r), Int.mul_comm (2 ^ (64 - r)) (2 ^ r), Int.mul_emod_mul_of_pos _ _ hp, Int.mul_comm]
  rw [e]
  exact Int.mul_emod_left _ _
theorem shE_bd (x : Int) (q r i : Nat) (hr : r ≤ 63) : 0 ≤ shE x q r i ∧ shE x q r i < 2 ^ r ∧ shE x q r i ≤ 18446744073709551615 := by
  have hp : (0 : Int) < 2 ^ r := Int.pow_pos (by omega)
  have hc : (0 : Int) < 2 ^ (64 - r) := Int.pow_pos (by omega)
  have hpp : (2 : Int) ^ r * 2 ^ (64 - r) = 18446744073709551616 := by rw [← Int.pow_add, show r + (64 - r) = 64 by omega]; rfl
  unfold shE
  split
  · have h0 := d64_lo x (i - q - 1)
    have h1 := d64_hi x (i - q - 1)
    have h2 := Int.ediv_le_self (2 ^ (64 - r)) h0
    exact ⟨Int.ediv_nonneg h0 (by omega), Int.ediv_lt_of_lt_mul hc (by omega), by omega⟩
  · omega
theorem shE_zero (x : Int) (q i : Nat) : shE x q 0 i = 0 := by have := shE_bd x q 0 i (by omega); omega
theorem shE_self (x : Int) (q r : Nat) : shE x q r q = 0 := by unfold shE; rw [if_neg (by omega)]
theorem sh_or (x : Int) (q r i : Nat) (hr : r ≤ 63) : bits .or .u64 (shA x q r i) (shE x q r i) = shA x q r i + shE x q r i := by
  have h1 := shA_bd x q r i hr
  have h2 := shE_bd x q r i hr
  exact u64_or r h1.1 h1.2.1 h1.2.2 h2.1 h2.2.1 h2.2.2
/-- The words under way, word i half done. -/
def half64 (n a : Int) (i : Nat) : Nat → Int := fun j => if j = i then a else part64 n i j
theorem half64_set (n a : Int) (i : Nat) : (nums .u64 4 (part64 n i)).setIfInBounds i (.int .u64 a) = nums .u64 4 (half64 n a i) := by rw [nums_set]; rfl
theorem half64_up (n a : Int) (i : Nat) (h : a = d64 n i) : nums .u64 4 (half64 n a i) = nums .u64 4 (part64 n (i + 1)) := by
  rw [← half64_set, h, part64_step]
theorem half64_fin (n a : Int) (i : Nat) : (nums .u64 4 (half64 n a i)).setIfInBounds i (.int .u64 (d64 n i)) = nums .u64 4 (part64 n (i + 1)) := by
  rw [nums_set, ← part64_step, nums_set]
  refine nums_congr _ fun j _ => ?_
  unfold half64
  by_cases h : j = i <;> simp [h]
theorem part64_low (x : Int) (q r : Nat) : nums .u64 4 (part64 (x * 2 ^ (64 * q + r)) q) = Z4 := nums_congr _ fun i _ => by
  unfold part64
  split
  · rename_i h; rw [shl_low x q r h]
  · rfl
theorem part64_over (n : Int) {q : Nat} (h : 4 ≤ q) : nums .u64 4 (part64 n q) = W n := nums_congr _ fun i hi => by
  unfold part64; rw [if_pos (by omega)]
theorem shl_none (x n : Int) (h : n ≤ 0) (w : World) :
    Calls Try.prog 27 #[.agg (W x), .int .i64 n] w fun e w' => e = .returned (.agg (W x)) ∧ Below w.heap.size w w' := by
  have H0 := Lib.hid (((Blks.nil w).alloc (W x) 24 rfl).alloc Z4 24 (b := w.heap.size + 1) (by simp))
  go_enter Try.func27, Try.ntmps27
  go_wp2_with (first
    | ((with_reducible refine g_load 24 ?_); refine wpList_blks_load H0.out 0 _ _ 24 rfl rfl _ rfl rfl tu24 rfl ts24 ?_)
    | ((with_reducible refine g_store 24 ?_); refine wpList_blks_store H0.out 1 _ _ 24 rfl rfl _ _ rfl rfl (W x) rfl rfl ts24 (W_one _) ?_; intro w1 H1))
  exact bodyPost_ret (results_cell_row rfl _ _ (w.heap.size + 1) 24 (W x) (0, 0) _ rfl (H1.get 1 rfl) tu24 rfl ts24) rfl ⟨rfl, H1.below⟩
set_option maxHeartbeats 2000000 in
theorem shl_some (x n : Int) (h0 : 1 ≤ n) (h1 : n ≤ 9223372036854775807) (w : World) :
    Calls Try.prog 27 #[.agg (W x), .int .i64 n] w fun e w' => e = .returned (.agg (W (x * 2 ^ n.toNat))) ∧ Below w.heap.size w w' := by
  obtain ⟨q, hq⟩ : ∃ q : Nat, n / 64 = (q : Int) := ⟨(n / 64).toNat, by omega⟩
  obtain ⟨r, hr⟩ : ∃ r : Nat, n % 64 = (r : Int) := ⟨(n % 64).toNat, by omega⟩
  have hnn : n.toNat = 64 * q + r := by omega
  have hr63 : r ≤ 63 := by omega
  have hqm : q ≤ 144115188075855872 := by omega
  have hand := i64_and63 (x := n) (by omega) h1
  rw [hr] at hand
  rw [hnn]
  have hn0 : ¬ n ≤ 0 := by omega
  have H0 := Lib.hid ((((Blks.nil w).alloc (W x) 24 rfl).alloc Z4 24 (b := w.heap.size + 1) (by simp)).alloc Z4 24 (b := w.heap.size + 1 + 1) (by simp))
  clear hr hnn
  go_enter Try.func27, Try.ntmps27
  go_wp2_with fail
  clear hq hand
  go_loopw [8] (fun h wr => ∃ i : Nat, q ≤ i ∧ i ≤ 4 + q ∧ h = .int .i64 i ∧ Blks w [(w.heap.size, W x, 24), (w.heap.size + 1, Z4, 24), (w.heap.size + 1 + 1, nums .u64 4 (part64 (x * 2 ^ (64 * q + r)) i), 24)] wr) (fun h _ => 4 - (intOf h).toNat)
  case atStart => exact ⟨q, by omega, by omega, rfl, by rw [part64_low]; exact H0.out⟩
  case round =>
    obtain ⟨i, hqi, hi4, rfl, HW⟩ := hrel
    clear H0
    by_cases hlt : i < 4
    · obtain ⟨m, hm⟩ : ∃ m : Nat, i = q + m := ⟨i - q, by omega⟩
      have e1 : (i : Int) - (q : Int) = (m : Int) := by omega
      have hmI : (m : Int) < 4 := by omega
      have hiI : (i : Int) < 4 := by omega
      have hca : wr.cell? ⟨w.heap.size, m, none⟩ = some (.int .u64 (d64 x m)) := HW.num 0 rfl (by omega)
      have hcs : wr.cell? ⟨w.heap.size + 1 + 1, i, none⟩ = some (.int .u64 0) := by rw [HW.num 2 rfl hlt]; simp [part64]
      have hfz := HW.frozen 2 rfl i
      have hA : IntKind.u64.wrap (d64 x m * 2 ^ r) = shA x q r i := by rw [IntKind.wrap_u64]; unfold shA; rw [show i - q = m by omega]
      have hdig := shl_digit x hr63 hqi
      have HS := Lib.hid (HW.set 2 rfl i (.int .u64 (shA x q r i)) (half64_set _ _ i))
      have HM := Lib.hid hm
      by_cases hg : r = 0 ∨ q = i
      · have hE : shE x q r i = 0 := by
          rcases hg with h | h
          · rw [h, shE_zero]
          · rw [← h, shE_self]
        have HS2 := HS.out
        rw [half64_up _ _ _ (by rw [hdig, hE, Int.add_zero])] at HS2
        have HS3 := Lib.hid HS2
        clear HW hm hdig hE HS HS2
        rcases hg with h | h
        · subst h
          have hA0 : IntKind.u64.wrap (d64 x m) = shA x q 0 i := by rw [← hA, Int.pow_zero, Int.mul_one]
          go_wp2_with fail
          go_roundw
          case rel => exact ⟨i + 1, by omega, by omega, by go_num, HS3.out⟩
          case measure => simp [intOf]; omega
        · have hd : decide (q < i) = false := by simp; omega
          by_cases hr0 : 0 < r
          · have hdr : decide (0 < r) = true := by simp; omega
            have hII : (i : Int) ≤ (q : Int) := by omega
            clear h
            go_wp2_with fail
            go_roundw
            case rel => exact ⟨i + 1, by omega, by omega, by go_num, HS3.out⟩
            case measure => simp [intOf]; omega
          · obtain rfl : r = 0 := by omega
            have hA0 : IntKind.u64.wrap (d64 x m) = shA x q 0 i := by rw [← hA, Int.pow_zero, Int.mul_one]
            clear h
            go_wp2_with fail
            go_roundw
            case rel => exact ⟨i + 1, by omega, by omega, by go_num, HS3.out⟩
            case measure => simp [intOf]; omega
      · have hr1 : 0 < r := by omega
        have hqi1 : q < i := by omega
        obtain ⟨p, hp⟩ : ∃ p : Nat, m = p + 1 := ⟨m - 1, by omega⟩
        have e2 : (m : Int) - 1 = (p : Int) := by omega
        have e3 : (64 : Int) - (r : Int) = ((64 - r : Nat) : Int) := by omega
        have hpI : (p : Int) < 4 := by omega
        have hE : d64 x p / 2 ^ (64 - r) = shE x q r i := by unfold shE; rw [if_pos hqi1, show i - q - 1 = p by omega]
        have hor := sh_or x q r i hr63
        rw [← hdig] at hor
        have hAb := shA_bd x q r i hr63
        have hEb := shE_bd x q r i hr63
        obtain ⟨a0, a1, _⟩ := hAb
        obtain ⟨b0, _, b1⟩ := hEb
        have h64 : 64 - r ≤ 64 := by omega
        generalize hZ : 64 - r = t at *
        have HSET : Hid (∀ V, Blks w [(w.heap.size, W x, 24), (w.heap.size + 1, Z4, 24), (w.heap.size + 1 + 1, nums .u64 4 (half64 (x * 2 ^ (64 * q + r)) (shA x q r i) i), 24)] V → Blks w [(w.heap.size, W x, 24), (w.heap.size + 1, Z4, 24), (w.heap.size + 1 + 1, nums .u64 4 (part64 (x * 2 ^ (64 * q + r)) (i + 1)), 24)] (V.setCell ⟨w.heap.size + 1 + 1, i, none⟩ (.int .u64 (d64 (x * 2 ^ (64 * q + r)) i)))) :=
          Lib.hid fun V HV => HV.set 2 rfl i _ (half64_fin _ _ i)
        clear HW hm hdig hg hp hZ
        go_wp2_with fail
        have HS1 := HS.out
        generalize wr.setCell ⟨w.heap.size + 1 + 1, i, none⟩ (.int .u64 (shA x q r i)) = V at *
        have hcp : ∀ e : ExtOf V, e.wd.cell? ⟨w.heap.size, p, none⟩ = some (.int .u64 (d64 x p)) := fun e => (HS1.ext e.below).num 0 rfl (by omega)
        have hci : ∀ e : ExtOf V, e.wd.cell? ⟨w.heap.size + 1 + 1, i, none⟩ = some (.int .u64 (shA x q r i)) := fun e => by
          rw [(HS1.ext e.below).num 2 rfl hlt]; simp [half64]
        have HS1H := Lib.hid HS1
        have w1 : IntKind.i64.wrap (m : Int) = m := IntWalk.i64_in _ (by omega)
        have w2 : IntKind.i64.wrap (p : Int) = p := IntWalk.i64_in _ (by omega)
        have w3 : IntKind.i64.wrap (t : Int) = t := IntWalk.i64_in _ (by omega)
        clear hca hcs hfz HS HS1
        refine wp_region_ext_tail 14 (by kernel_rfl) (by kernel_rfl) ?_
        simp only [List.take_succ_cons, List.take_zero, List.drop_succ_cons, List.drop_zero]
        iterate 14 (quiet_step (fail))
        refine wpQuiet_nil ?_
        rintro _ ⟨e, rfl⟩
        have hci2 := hci e
        have hfz := (HS1H.out.ext e.below).frozen 2 rfl i
        clear hcp hci w1 w2 w3
        go_wp2_with fail
        go_roundw
        case rel => exact ⟨i + 1, by omega, by omega, by go_num, HSET.out _ (HS1H.out.ext e.below)⟩
        case measure => simp [intOf]; omega
    · have hW : nums .u64 4 (part64 (x * 2 ^ (64 * q + r)) i) = W (x * 2 ^ (64 * q + r)) := part64_over _ (by omega)
      rw [hW] at HW
      have HWH := Lib.hid HW
      clear HW hW
      go_wp2_with (first
        | ((with_reducible refine g_load 24 ?_); refine wpList_blks_load HWH.out 2 _ _ 24 rfl rfl _ rfl rfl tu24 rfl ts24 ?_)
        | ((with_reducible refine g_store 24 ?_); refine wpList_blks_store HWH.out 1 _ _ 24 rfl rfl _ _ rfl rfl (W (x * 2 ^ (64 * q + r))) rfl rfl ts24 (W_one _) ?_; intro w1 H1))
      exact bodyPost_ret (results_cell_row rfl _ _ (w.heap.size + 1) 24 (W (x * 2 ^ (64 * q + r))) (0, 0) _ rfl (H1.get 1 rfl) tu24 rfl ts24) rfl ⟨rfl, H1.below⟩
end Go.Proofs.Ytjmckfebnoaheaa
