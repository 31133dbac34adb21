/- Shifts down, as the program makes them. -/
import Derived.Test.YtjmckfebnoaheaaB10
set_option linter.unusedVariables false
namespace Go.Proofs.Ytjmckfebnoaheaa
open Go.RowKit Go.KK Go.Lm

/-- A word shifted down, alone; what comes from the word above. -/
def srA (x : Int) (q r i : Nat) : Int := d64 x (i + q) / 2 ^ r
def srE (x : Int) (q r i : Nat) : Int := d64 x (i + q + 1) * 2 ^ (64 - r) % 18446744073709551616
theorem shr_digit (x : Int) {q r : Nat} (hr : r ≤ 63) (i : Nat) : d64 (x / 2 ^ (64 * q + r)) i = srA x q r i + srE x q r i := by
  have hp : (0 : Int) < 2 ^ r := Int.pow_pos (by omega)
  have hc : (0 : Int) < 2 ^ (64 - r) := Int.pow_pos (by omega)
  have e1 : x / 2 ^ (64 * q + r) = x / B64 ^ q / 2 ^ r := by
    rw [Int.pow_add, two_pow_B64, Int.ediv_ediv_of_nonneg (Int.le_of_lt (pw_pos B64_pos q))]
  have e2 := dg_div hp hc (two_B64 hr) (x / B64 ^ q) i
  rw [dg_div_pow B64_pos, dg_div_pow B64_pos] at e2
  rw [e1]
  refine Eq.trans e2 ?_
  rw [show i + 1 + q = i + q + 1 by omega]
  rfl
theorem srA_bd (x : Int) (q r i : Nat) (hr : r ≤ 63) : 0 ≤ srA x q r i ∧ srA x q r i < 2 ^ (64 - r) ∧ srA x q r i ≤ 18446744073709551615 := by
  have hp : (0 : Int) < 2 ^ r := Int.pow_pos (by omega)
  have hpp : (2 : Int) ^ (64 - r) * 2 ^ r = 18446744073709551616 := by rw [← Int.pow_add, show 64 - r + r = 64 by omega]; rfl
  have h0 := d64_lo x (i + q)
  have h1 := d64_hi x (i + q)
  have h2 := Int.ediv_le_self (2 ^ r) h0
  unfold srA
  exact ⟨Int.ediv_nonneg h0 (by omega), Int.ediv_lt_of_lt_mul hp (by omega), by omega⟩
theorem srE_bd (x : Int) (q r i : Nat) (hr : r ≤ 63) : 0 ≤ srE x q r i ∧ srE x q r i ≤ 18446744073709551615 ∧ srE x q r i % 2 ^ (64 - r) = 0 := by
  have hp : (0 : Int) < 2 ^ (64 - r) := Int.pow_pos (by omega)
  unfold srE
  refine ⟨by omega, by omega, ?_⟩
  have e : d64 x (i + q + 1) * 2 ^ (64 - r) % 18446744073709551616 = (d64 x (i + q + 1) % 2 ^ r) * 2 ^ (64 - r) := by
    rw [show (18446744073709551616 : Int) = 2 ^ r * 2 ^ (64 - r) by rw [← Int.pow_add, show r + (64 - r) = 64 by omega]; rfl]
    rw [Int.mul_comm _ (2 ^ (64 - r)), Int.mul_comm (2 ^ r) (2 ^ (64 - r)), Int.mul_emod_mul_of_pos _ _ hp, Int.mul_comm]
  rw [e]
  exact Int.mul_emod_left _ _
theorem srE_zero (x : Int) (q i : Nat) : srE x q 0 i = 0 := by
  unfold srE
  rw [show (2 : Int) ^ (64 - 0) = 18446744073709551616 by rfl]
  exact Int.mul_emod_left _ _
theorem d64_past {x : Int} (hx0 : 0 ≤ x) (hx1 : x < R256) {k : Nat} (h : 4 ≤ k) : d64 x k = 0 := by
  show x / B64 ^ k % B64 = 0
  have : x / B64 ^ k = 0 := by
    refine Int.ediv_eq_zero_of_lt hx0 (Int.lt_of_lt_of_le hx1 ?_)
    rw [show k = 4 + (k - 4) by omega, Int.pow_add]
    have h1 : (1 : Int) ≤ B64 ^ (k - 4) := pw_pos B64_pos _
    have h2 : R256 * 1 ≤ R256 * B64 ^ (k - 4) := Int.mul_le_mul_of_nonneg_left h1 (by decide)
    exact (by omega : R256 ≤ R256 * B64 ^ (k - 4))
  rw [this]; rfl
theorem srE_top {x : Int} (hx0 : 0 ≤ x) (hx1 : x < R256) (q r i : Nat) (h : 3 ≤ i + q) : srE x q r i = 0 := by
  unfold srE; rw [d64_past hx0 hx1 (by omega)]; simp
theorem sr_or (x : Int) (q r i : Nat) (hr : r ≤ 63) : bits .or .u64 (srA x q r i) (srE x q r i) = srA x q r i + srE x q r i := by
  have hc : bits .or .u64 (srA x q r i) (srE x q r i) = bits .or .u64 (srE x q r i) (srA x q r i) := by simp only [bits, BitVec.or_comm]
  have h1 := srA_bd x q r i hr
  have h2 := srE_bd x q r i hr
  rw [hc, u64_or (64 - r) h2.1 h2.2.1 h2.2.2 h1.1 h1.2.1 h1.2.2, Int.add_comm]
theorem part64_high {x : Int} (hx0 : 0 ≤ x) (hx1 : x < R256) {q r i : Nat} (h : 4 ≤ i + q) : nums .u64 4 (part64 (x / 2 ^ (64 * q + r)) i) = W (x / 2 ^ (64 * q + r)) := nums_congr _ fun j hj => by
  unfold part64
  split
  · rfl
  · have e1 : x / 2 ^ (64 * q + r) = x / 2 ^ r / B64 ^ q := by
      rw [show 64 * q + r = r + 64 * q by omega, Int.pow_add, two_pow_B64, Int.ediv_ediv_of_nonneg (Int.le_of_lt (Int.pow_pos (by omega)))]
    have hp : (0 : Int) < 2 ^ r := Int.pow_pos (by omega)
    rw [e1]
    show 0 = dg B64 (x / 2 ^ r / B64 ^ q) j
    rw [dg_div_pow B64_pos]
    refine (d64_past (Int.ediv_nonneg hx0 (by omega)) (Int.lt_of_le_of_lt (Int.ediv_le_self _ hx0) hx1) (by omega)).symm
theorem shr_none (x n : Int) (h : n ≤ 0) (w : World) :
    Calls Try.prog 29 #[.agg (W x), .int .i64 n] w fun e w' => e = .returned (.agg (W x)) ∧ Below w.heap.size w w' := by
  have H0 := Lib.hid (((Blks.nil w).alloc (W x) 24 rfl).alloc Z4 24 (b := w.heap.size + 1) (by simp))
  go_enter Try.func29, Try.ntmps29
  go_wp2_with (first
    | ((with_reducible refine g_load 24 ?_); refine wpList_blks_load H0.out 0 _ _ 24 rfl rfl _ rfl rfl tu24 rfl ts24 ?_)
    | ((with_reducible refine g_store 24 ?_); refine wpList_blks_store H0.out 1 _ _ 24 rfl rfl _ _ rfl rfl (W x) rfl rfl ts24 (W_one _) ?_; intro w1 H1))
  exact bodyPost_ret (results_cell_row rfl _ _ (w.heap.size + 1) 24 (W x) (0, 0) _ rfl (H1.get 1 rfl) tu24 rfl ts24) rfl ⟨rfl, H1.below⟩
set_option maxHeartbeats 2000000 in
theorem shr_some {x : Int} (hx0 : 0 ≤ x) (hx1 : x < R256) (n : Int) (h0 : 1 ≤ n) (h1 : n ≤ 9223372036854775807) (w : World) :
    Calls Try.prog 29 #[.agg (W x), .int .i64 n] w fun e w' => e = .returned (.agg (W (x / 2 ^ n.toNat))) ∧ Below w.heap.size w w' := by
  obtain ⟨q, hq⟩ : ∃ q : Nat, n / 64 = (q : Int) := ⟨(n / 64).toNat, by omega⟩
  obtain ⟨r, hr⟩ : ∃ r : Nat, n % 64 = (r : Int) := ⟨(n % 64).toNat, by omega⟩
  have hnn : n.toNat = 64 * q + r := by omega
  have hr63 : r ≤ 63 := by omega
  have hqm : q ≤ 144115188075855872 := by omega
  have hand := i64_and63 (x := n) (by omega) h1
  rw [hr] at hand
  rw [hnn]
  have hn0 : ¬ n ≤ 0 := by omega
  have HX : Hid (0 ≤ x ∧ x < R256) := Lib.hid ⟨hx0, hx1⟩
  have H0 := Lib.hid ((((Blks.nil w).alloc (W x) 24 rfl).alloc Z4 24 (b := w.heap.size + 1) (by simp)).alloc Z4 24 (b := w.heap.size + 1 + 1) (by simp))
  clear hr hnn hx0 hx1
  go_enter Try.func29, Try.ntmps29
  go_wp2_with fail
  clear hq hand
  go_loopw [8] (fun h wr => ∃ i : Nat, (i = 0 ∨ i + q ≤ 4) ∧ h = .int .i64 i ∧ Blks w [(w.heap.size, W x, 24), (w.heap.size + 1, Z4, 24), (w.heap.size + 1 + 1, nums .u64 4 (part64 (x / 2 ^ (64 * q + r)) i), 24)] wr) (fun h _ => 4 - (intOf h).toNat)
  case atStart => exact ⟨0, .inl rfl, rfl, by rw [part64_zero]; exact H0.out⟩
  case round =>
    obtain ⟨i, hi4, rfl, HW⟩ := hrel
    clear H0
    by_cases hlt : i + q < 4
    · obtain ⟨m, hm⟩ : ∃ m : Nat, i + q = m := ⟨i + q, rfl⟩
      obtain ⟨c, hc⟩ : ∃ c : Nat, 4 - q = c := ⟨4 - q, rfl⟩
      have e1 : (i : Int) + (q : Int) = (m : Int) := by omega
      have e4 : (4 : Int) - (q : Int) = (c : Int) := by omega
      have hqI : (q : Int) < 4 := by omega
      have hicI : (i : Int) < (c : Int) := by omega
      have hmI : (m : Int) < 4 := by omega
      have hiI : (i : Int) < 4 := by omega
      have hi4' : i < 4 := by omega
      have hc4 : c ≤ 4 := by omega
      have hca : wr.cell? ⟨w.heap.size, m, none⟩ = some (.int .u64 (d64 x m)) := HW.num 0 rfl (by omega)
      have hcs : wr.cell? ⟨w.heap.size + 1 + 1, i, none⟩ = some (.int .u64 0) := by rw [HW.num 2 rfl hi4']; simp [part64]
      have hfz := HW.frozen 2 rfl i
      have hA : d64 x m / 2 ^ r = srA x q r i := by unfold srA; rw [hm]
      have hdig := shr_digit x (q := q) hr63 i
      have HS := Lib.hid (HW.set 2 rfl i (.int .u64 (srA x q r i)) (half64_set _ _ i))
      have HM : Hid (i + q = m ∧ m < 4) := Lib.hid ⟨hm, by omega⟩
      by_cases hg : r = 0 ∨ m = 3
      · have hE : srE x q r i = 0 := by
          rcases hg with h | h
          · rw [h, srE_zero]
          · exact srE_top HX.out.1 HX.out.2 q r i (by omega)
        have HS2 := HS.out
        rw [half64_up _ _ _ (by rw [hdig, hE, Int.add_zero])] at HS2
        have HS3 := Lib.hid HS2
        clear HW hm hdig hE HS HS2 hi4 hc hlt hi4'
        by_cases hr0 : 0 < r
        · have hdr : decide (0 < r) = true := by simp; omega
          obtain rfl : m = 3 := by omega
          clear hg
          go_wp2_with fail
          go_roundw
          case rel => exact ⟨i + 1, .inr (by have := HM.out; omega), by go_num, HS3.out⟩
          case measure => have := HM.out; simp [intOf]; omega
        · obtain rfl : r = 0 := by omega
          have hA0 : d64 x m = srA x q 0 i := by rw [← hA, Int.pow_zero, Int.ediv_one]
          clear hg
          go_wp2_with fail
          go_roundw
          case rel => exact ⟨i + 1, .inr (by have := HM.out; omega), by go_num, HS3.out⟩
          case measure => have := HM.out; simp [intOf]; omega
      · have hr1 : 0 < r := by omega
        obtain ⟨p, hp⟩ : ∃ p : Nat, m + 1 = p := ⟨m + 1, rfl⟩
        have e2 : (m : Int) + 1 = (p : Int) := by omega
        have e3 : (64 : Int) - (r : Int) = ((64 - r : Nat) : Int) := by omega
        have hpI : (p : Int) < 4 := by omega
        have hp4 : p < 4 := by omega
        have hE : IntKind.u64.wrap (d64 x p * 2 ^ (64 - r)) = srE x q r i := by rw [IntKind.wrap_u64]; unfold srE; rw [hm, hp]
        have hor := sr_or x q r i hr63
        rw [← hdig] at hor
        have hAb := srA_bd x q r i hr63
        have hEb := srE_bd x q r i hr63
        obtain ⟨a0, _, a1⟩ := hAb
        obtain ⟨b0, b1, _⟩ := hEb
        have h64 : 64 - r ≤ 64 := by omega
        generalize hZ : 64 - r = t at *
        have HSET : Hid (∀ V, Blks w [(w.heap.size, W x, 24), (w.heap.size + 1, Z4, 24), (w.heap.size + 1 + 1, nums .u64 4 (half64 (x / 2 ^ (64 * q + r)) (srA x q r i) i), 24)] V → Blks w [(w.heap.size, W x, 24), (w.heap.size + 1, Z4, 24), (w.heap.size + 1 + 1, nums .u64 4 (part64 (x / 2 ^ (64 * q + r)) (i + 1)), 24)] (V.setCell ⟨w.heap.size + 1 + 1, i, none⟩ (.int .u64 (d64 (x / 2 ^ (64 * q + r)) i)))) :=
          Lib.hid fun V HV => HV.set 2 rfl i _ (half64_fin _ _ i)
        clear HW hm hdig hg hp hZ hi4 hc hlt
        go_wp2_with fail
        have HS1 := HS.out
        generalize wr.setCell ⟨w.heap.size + 1 + 1, i, none⟩ (.int .u64 (srA x q r i)) = V at *
        have hcp : ∀ e : ExtOf V, e.wd.cell? ⟨w.heap.size, p, none⟩ = some (.int .u64 (d64 x p)) := fun e => (HS1.ext e.below).num 0 rfl (by omega)
        have hci : ∀ e : ExtOf V, e.wd.cell? ⟨w.heap.size + 1 + 1, i, none⟩ = some (.int .u64 (srA x q r i)) := fun e => by
          rw [(HS1.ext e.below).num 2 rfl (by have := HM.out; omega)]; simp [half64]
        have HS1H := Lib.hid HS1
        have w1 : IntKind.i64.wrap (m : Int) = m := IntWalk.i64_in _ (by omega)
        have w2 : IntKind.i64.wrap (p : Int) = p := IntWalk.i64_in _ (by omega)
        have w3 : IntKind.i64.wrap (t : Int) = t := IntWalk.i64_in _ (by omega)
        clear hca hcs hfz HS HS1
        refine wp_region_ext_tail 14 (by kernel_rfl) (by kernel_rfl) ?_
        simp only [List.take_succ_cons, List.take_zero, List.drop_succ_cons, List.drop_zero]
        iterate 14 (quiet_step (fail))
        refine wpQuiet_nil ?_
        rintro _ ⟨e, rfl⟩
        have hci2 := hci e
        have hfz := (HS1H.out.ext e.below).frozen 2 rfl i
        clear hcp hci w1 w2 w3
        go_wp2_with fail
        go_roundw
        case rel => exact ⟨i + 1, .inr (by have := HM.out; omega), by go_num, HSET.out _ (HS1H.out.ext e.below)⟩
        case measure => have := HM.out; simp [intOf]; omega
    · have hW : nums .u64 4 (part64 (x / 2 ^ (64 * q + r)) i) = W (x / 2 ^ (64 * q + r)) := part64_high HX.out.1 HX.out.2 (by omega)
      rw [hW] at HW
      have HWH := Lib.hid HW
      clear HW hW
      by_cases hq4 : q < 4
      · obtain ⟨c, hc⟩ : ∃ c : Nat, 4 - q = c := ⟨4 - q, rfl⟩
        have e4 : (4 : Int) - (q : Int) = (c : Int) := by omega
        have hqI : (q : Int) < 4 := by omega
        have hicI : ¬ (i : Int) < (c : Int) := by omega
        have hc4 : c ≤ 4 := by omega
        clear hc hlt hi4
        go_wp2_with (first
          | ((with_reducible refine g_load 24 ?_); refine wpList_blks_load HWH.out 2 _ _ 24 rfl rfl _ rfl rfl tu24 rfl ts24 ?_)
          | ((with_reducible refine g_store 24 ?_); refine wpList_blks_store HWH.out 1 _ _ 24 rfl rfl _ _ rfl rfl (W (x / 2 ^ (64 * q + r))) rfl rfl ts24 (W_one _) ?_; intro w1 H1))
        exact bodyPost_ret (results_cell_row rfl _ _ (w.heap.size + 1) 24 (W (x / 2 ^ (64 * q + r))) (0, 0) _ rfl (H1.get 1 rfl) tu24 rfl ts24) rfl ⟨rfl, H1.below⟩
      · have hqI : ¬ (q : Int) < 4 := by omega
        clear hlt hi4
        go_wp2_with (first
          | ((with_reducible refine g_load 24 ?_); refine wpList_blks_load HWH.out 2 _ _ 24 rfl rfl _ rfl rfl tu24 rfl ts24 ?_)
          | ((with_reducible refine g_store 24 ?_); refine wpList_blks_store HWH.out 1 _ _ 24 rfl rfl _ _ rfl rfl (W (x / 2 ^ (64 * q + r))) rfl rfl ts24 (W_one _) ?_; intro w1 H1))
        exact bodyPost_ret (results_cell_row rfl _ _ (w.heap.size + 1) 24 (W (x / 2 ^ (64 * q + r))) (0, 0) _ rfl (H1.get 1 rfl) tu24 rfl ts24) rfl ⟨rfl, H1.below⟩
end Go.Proofs.Ytjmckfebnoaheaa
