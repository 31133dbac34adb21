/- The rest of a number of 512 bits, walked. -/
import Derived.Test.YtjmckfebnoaheaaB11
import Derived.Test.YtjmckfebnoaheaaK9
set_option linter.unusedVariables false
namespace Go.Proofs.Ytjmckfebnoaheaa
open Go.RowKit Go.KK Go.Lm

theorem u64_and1 {x : Int} (h₀ : 0 ≤ x) (h₁ : x ≤ 18446744073709551615) : bits .and .u64 x 1 = x % 2 :=
  bits_mask .u64 64 (by decide) (fun n h₀ h₁ => by rw [IntKind.wrap_u64]; omega) 1 (by decide) x h₀ (by omega)
/-- What one round of the inner loop comes by: e the bit's place. -/
structure MF (x : Int) (j e q r : Nat) (z b : Int) : Prop where
  he : e + j = 255
  hq : q < 4
  hr : r ≤ 63
  e2 : (e : Int) / 64 = (q : Int)
  e3 : bits .and .i64 (e : Int) 63 = (r : Int)
  e4 : d64 x q / 2 ^ r = z
  e5 : bits .and .u64 z 1 = b
  z0 : 0 ≤ z
  z1 : z ≤ 18446744073709551615
  hb : b = 0 ∨ b = 1
  bx : b = x / 2 ^ (255 - j) % 2
theorem mod_facts (x : Int) {j : Nat} (hj : j < 256) : ∃ (e q r : Nat) (z b : Int), (255 : Int) - (j : Int) = (e : Int) ∧ MF x j e q r z b := by
  have h0 := d64_lo x ((255 - j) / 64)
  have h1 := d64_hi x ((255 - j) / 64)
  have h2 : 0 ≤ d64 x ((255 - j) / 64) / 2 ^ ((255 - j) % 64) := Int.ediv_nonneg h0 (Int.le_of_lt (Int.pow_pos (by omega)))
  have h3 := Int.ediv_le_self (2 ^ ((255 - j) % 64)) h0
  have h4 : bits .and .u64 (d64 x ((255 - j) / 64) / 2 ^ ((255 - j) % 64)) 1 = x / 2 ^ (255 - j) % 2 := by
    rw [u64_and1 h2 (by omega), bit_digit]
  have h5 := i64_and63 (x := ((255 - j : Nat) : Int)) (by omega) (by omega)
  exact ⟨255 - j, (255 - j) / 64, (255 - j) % 64, _, _, by omega, ⟨by omega, by omega, by omega, by omega, by rw [h5]; omega, rfl, h4, h2, by omega, by omega, rfl⟩⟩
/-- What the outer loop has done. -/
def oo (h l m : Int) : Nat → Int
  | 0 => 0
  | 1 => h % m
  | _ => (h * R256 + l) % m
theorem oo_step {h l m : Int} (hh0 : 0 ≤ h) (hh1 : h < R256) (hl0 : 0 ≤ l) (hl1 : l < R256) (hm : 0 < m) {i : Nat} (hi : i < 2) :
    ∃ p x, 0 ≤ x ∧ x < R256 ∧ oo h l m i = acc p x 0 % m ∧ oo h l m (i + 1) = acc p x 256 % m ∧ ∀ w, (Instr.index 66 (.agg (W2 h l)) (.int .i64 i)).run Try.prog w = .ok (.agg (W x)) w := by
  have : i = 0 ∨ i = 1 := by omega
  rcases this with rfl | rfl
  · refine ⟨0, h, hh0, hh1, ?_, ?_, fun w => index66_0 h l w⟩
    · rw [acc_zero 0 hh0 hh1, Int.zero_emod]; rfl
    · rw [acc_top, Int.zero_mul, Int.zero_add]; rfl
  · refine ⟨h, l, hl0, hl1, ?_, ?_, fun w => index66_1 h l w⟩
    · rw [acc_zero h hl0 hl1]; rfl
    · rw [acc_top]; rfl
theorem R256_lit : R256 = 115792089237316195423570985008687907853269984665640564039457584007913129639936 := by decide
theorem cmpI_ge {x y : Int} (h : y ≤ x) : 0 ≤ cmpI x y := by unfold cmpI; rw [if_neg (by omega)]; split <;> omega
set_option maxRecDepth 100000 in
set_option maxHeartbeats 4000000 in
theorem mod_p {h l m : Int} (hh0 : 0 ≤ h) (hh1 : h < R256) (hl0 : 0 ≤ l) (hl1 : l < R256) (hm0 : 0 < m) (hm1 : m < R256) (w : World) :
    Calls Try.prog 20 #[.agg (W h), .agg (W l), .agg (W m)] w fun e w' => e = .returned (.tuple #[.agg (W ((h * R256 + l) % m)), .int .i64 0]) ∧ Below w.heap.size w w' := by
  have H0 := Lib.hid (((((Blks.nil w).alloc (W h) 24 rfl).alloc (W l) 24 (b := w.heap.size + 1) (by simp)).alloc (W m) 24 (b := w.heap.size + 1 + 1) (by simp)).alloc Z4 24 (b := w.heap.size + 1 + 1 + 1) (by simp))
  have H1 := Lib.hid (H0.out.alloc Z4 24 (b := w.heap.size + 1 + 1 + 1 + 1) (by simp))
  have heq := eqlW (x := m) (y := 0) (Int.le_of_lt hm0) hm1 (by omega) R256_pos
  rw [show decide (m = 0) = false by simp; omega] at heq
  have HH : Hid ((0 ≤ h ∧ h < R256) ∧ (0 ≤ l ∧ l < R256)) := Lib.hid ⟨⟨hh0, hh1⟩, ⟨hl0, hl1⟩⟩
  have HM : Hid (0 < m ∧ m < R256) := Lib.hid ⟨hm0, hm1⟩
  clear hh0 hh1 hl0 hl1 hm0 hm1
  go_enter Try.func20, Try.ntmps20
  go_upto_region 4 with (first
    | ((with_reducible refine g_build 24 ?_); refine wpList_build0 rfl 24 rfl _ (build24z _) ?_)
    | ((with_reducible refine g_load 24 ?_); refine wpList_blks_load H0.out 2 _ _ 24 rfl rfl (.tmp 5) rfl rfl tu24 rfl ts24 ?_))
  go_wp2_with (first
    | ((with_reducible refine g_load 24 ?_); refine wpList_blks_load H1.out 0 _ _ 24 rfl rfl (.tmp 3) rfl rfl tu24 rfl ts24 ?_)
    | ((with_reducible refine g_load 24 ?_); refine wpList_blks_load H1.out 1 _ _ 24 rfl rfl (.tmp 4) rfl rfl tu24 rfl ts24 ?_)
    | ((with_reducible refine g_build 66 ?_); refine wpList_build2 rfl 66 0 1 _ _ rfl _ (build66 h l _) ?_))
  clear heq
  go_loopw [20] (fun c wr => ∃ i : Nat, i ≤ 2 ∧ c = .int .i64 i ∧ Blks w [(w.heap.size, W h, 24), (w.heap.size + 1, W l, 24), (w.heap.size + 1 + 1, W m, 24), (w.heap.size + 1 + 1 + 1, Z4, 24), (w.heap.size + 1 + 1 + 1 + 1, W (oo h l m i), 24)] wr) (fun c _ => 2 - (intOf c).toNat)
  case atStart => exact ⟨0, by omega, rfl, by rw [show W (oo h l m 0) = Z4 from W_zero]; exact H1.out⟩
  case round =>
    obtain ⟨i, hi, rfl, HW⟩ := hrel
    clear H0 H1
    by_cases hlt : i < 2
    · obtain ⟨p, x, hx0, hx1, ho0, ho1, hidx⟩ := oo_step HH.out.1.1 HH.out.1.2 HH.out.2.1 HH.out.2.2 HM.out.1 hlt
      rw [ho0] at HW
      have HO1 := Lib.hid ho1
      have HX : Hid (0 ≤ x ∧ x < R256) := Lib.hid ⟨hx0, hx1⟩
      have hiI : (i : Int) < 2 := by omega
      have HWH := Lib.hid (HW.alloc Z4 24 rfl)
      clear HW hx0 hx1 ho0 ho1
      go_wp2_with ((with_reducible refine g_store 24 ?_); refine wpList_blks_store HWH.out 5 _ _ 24 rfl rfl _ _ rfl rfl (W x) rfl rfl ts24 (W_one _) ?_; intro w1 HW1)
      have HW1H := Lib.hid HW1
      have hg : w.heap.size + 1 + 1 + 1 + 1 ≠ wr.heap.size := fun e => by
        have := HW1.nd
        simp [e] at this
      generalize wr.heap.size = g at *
      clear HW1 hidx HWH
      obtain ⟨wo, rfl⟩ : ∃ wo : World, wo = wr := ⟨_, rfl⟩
      go_loopw [23] (fun c wq => ∃ j : Nat, j ≤ 256 ∧ c = .int .i64 j ∧ Blks w [(w.heap.size, W h, 24), (w.heap.size + 1, W l, 24), (w.heap.size + 1 + 1, W m, 24), (w.heap.size + 1 + 1 + 1, Z4, 24), (w.heap.size + 1 + 1 + 1 + 1, W (acc p x j % m), 24), (g, W x, 24)] wq) (fun c _ => 256 - (intOf c).toNat)
      case atStart => exact ⟨0, by omega, rfl, HW1H.out⟩
      case round =>
        obtain ⟨j, hj, rfl, HQ⟩ := hrel
        clear HW1H
        by_cases hlt2 : j < 256
        · obtain ⟨e, q, r, z, b, e1, F⟩ := mod_facts x hlt2
          have hm0 := HM.out.1
          have ho0 := Int.emod_nonneg (acc p x j) (show m ≠ 0 by omega)
          have ho1 := Int.emod_lt_of_pos (acc p x j) hm0
          have hs := acc_succ p x hlt2
          rw [← F.bx] at hs
          have hst : acc p x (j + 1) % m = if m ≤ acc p x j % m * 2 + b then acc p x j % m * 2 + b - m else acc p x j % m * 2 + b := by
            rw [hs, rest_step hm0, rest_once ho0 ho1 F.hb]
          generalize acc p x j % m = o at *
          have HST := Lib.hid hst
          have hor : o < R256 := by have := HM.out.2; omega
          have htop := top_word ho0 hor
          have hbit := bit_or o b F.hb
          have hset := bit_set o b F.hb
          have hbb : 0 ≤ b ∧ b ≤ 1 := by rcases F.hb with h | h <;> omega
          have HO : Hid ((0 ≤ o ∧ o < m) ∧ o < R256) := Lib.hid ⟨⟨ho0, ho1⟩, hor⟩
          have hjI : (j : Int) < 256 := by omega
          have hj255 : (j : Int) ≤ 255 := by omega
          have htc : wr.cell? ⟨w.heap.size + 1 + 1 + 1 + 1, 3, none⟩ = some (.int .u64 (d64 o 3)) := HQ.num 4 rfl (by omega)
          have HSET := Lib.hid hset
          have HF := Lib.hid F
          have HBB := Lib.hid hbb
          have HE1 := Lib.hid e1
          have hto0 := d64_lo o 3
          have hto1 := d64_hi o 3
          obtain ⟨tp, htp⟩ : ∃ tp, d64 o 3 / 9223372036854775808 = tp := ⟨_, rfl⟩
          rw [htp] at htop
          have HTOP := Lib.hid htop
          have HQH := Lib.hid HQ
          clear hst hs hset hbb F ho0 ho1 hor htop HQ hm0 hbit
          go_upto_region 12 with (first
            | ((with_reducible refine g_load 24 ?_); refine wpList_blks_load HQH.out 4 _ _ 24 rfl rfl _ rfl rfl tu24 rfl ts24 ?_)
            | (go_at_call 27; refine (shl_one o _).mono ?_; rintro _ V ⟨rfl, hV⟩)
            | ((with_reducible refine g_store 24 ?_); refine wpList_blks_store (HQH.out.ext hV) 4 _ _ 24 rfl rfl _ _ rfl rfl (W (o * 2)) rfl rfl ts24 (W_one _) ?_; intro w1 HW1))
          have HW1H := Lib.hid HW1
          have hbit := bit_or o b HF.out.hb
          have hc0 : ∀ e' : ExtOf w1, e'.wd.cell? ⟨w.heap.size + 1 + 1 + 1 + 1, 0, none⟩ = some (.int .u64 (d64 (o * 2) 0)) := fun e' => (HW1H.out.ext e'.below).num 4 rfl (by omega)
          have hcw : ∀ e' : ExtOf w1, e'.wd.cell? ⟨g, q, none⟩ = some (.int .u64 (d64 x q)) := fun e' => (HW1H.out.ext e'.below).num 5 rfl HF.out.hq
          have w1e : IntKind.i64.wrap (e : Int) = e := IntWalk.i64_in _ (by have := HF.out.he; omega)
          have e2 := HF.out.e2
          have e3 := HF.out.e3
          have e4 := HF.out.e4
          have e5 := HF.out.e5
          have z0 := HF.out.z0
          have z1 := HF.out.z1
          have hqI : (q : Int) < 4 := by have := HF.out.hq; omega
          have hrI : r ≤ 64 := by have := HF.out.hr; omega
          have he0 : (0 : Int) ≤ (e : Int) := by omega
          clear HW1 hV htc htp HQH
          refine wp_region_ext_tail 14 (by kernel_rfl) (by kernel_rfl) ?_
          simp only [List.take_succ_cons, List.take_zero, List.drop_succ_cons, List.drop_zero]
          iterate 14 (quiet_step (fail))
          refine wpQuiet_nil ?_
          rintro _ ⟨e', rfl⟩
          have HX1 := HW1H.out.ext e'.below
          have hc1 : e'.wd.cell? ⟨w.heap.size + 1 + 1 + 1 + 1, 0, none⟩ = some (.int .u64 (d64 (o * 2) 0)) := hc0 e'
          have hfz := HX1.frozen 4 rfl 0
          have HX2 := Lib.hid (HX1.set 4 rfl 0 (.int .u64 (d64 (o * 2) 0 + b)) (c' := W (o * 2 + b)) HSET.out)
          clear HX1 hc0 hcw w1e e2 e3 e4 e5 z0 z1 hqI hrI he0 hbit HSET e1
          go_upto_region 13 with (fail)
          have HX3 := HX2.out
          generalize (e'.wd.setCell ⟨w.heap.size + 1 + 1 + 1 + 1, 0, none⟩ (.int .u64 (d64 (o * 2) 0 + b))) = V2 at *
          have HV2 := Lib.hid HX3
          clear HX2 HX3 hc1 hfz
          by_cases hT : 57896044618658097711785492504343953926634992332820282019728792003956564819968 ≤ o
          · have htp1 : tp = 1 := by rw [HTOP.out, if_pos hT]
            have hge : m ≤ o * 2 + b := by have := HM.out; have := HBB.out; have := HO.out; have := R256_lit; omega
            have hst := HST.out
            rw [if_pos hge] at hst
            have HST2 := Lib.hid hst
            clear HTOP HST hge hst
            subst htp1
            go_wp2_with (first
              | ((with_reducible refine g_load 24 ?_); refine wpList_blks_load HV2.out 4 _ _ 24 rfl rfl (.tmp 8) rfl rfl tu24 rfl ts24 ?_)
              | ((with_reducible refine g_load 24 ?_); refine wpList_blks_load HV2.out 2 _ _ 24 rfl rfl (.tmp 5) rfl rfl tu24 rfl ts24 ?_)
              | (go_at_call 11; refine (sub_p (o * 2 + b) m _).mono ?_; rintro _ V ⟨rfl, hV⟩)
              | ((with_reducible refine g_store 24 ?_); refine wpList_blks_store (HV2.out.ext hV) 4 _ _ 24 rfl rfl _ _ rfl rfl (W (o * 2 + b - m)) rfl rfl ts24 (W_one _) ?_; intro w3 HW3))
            go_roundw
            case rel => exact ⟨j + 1, by omega, by go_num, by rw [HST2.out]; exact HW3⟩
            case measure => simp [intOf]; omega
          · have htp0 : tp = 0 := by rw [HTOP.out, if_neg hT]
            have hv0 : 0 ≤ o * 2 + b := by have := HO.out; have := HBB.out; omega
            have hv1 : o * 2 + b < R256 := by have := HBB.out; have := R256_lit; omega
            have HC := Lib.hid (cmp_p hv0 hv1 (Int.le_of_lt HM.out.1) HM.out.2)
            have hst := HST.out
            subst htp0
            clear HTOP HST hT hv0 hv1
            by_cases hge : m ≤ o * 2 + b
            · rw [if_pos hge] at hst
              have HST2 := Lib.hid hst
              have hcm := cmpI_ge hge
              have hcm2 : decide (0 ≤ cmpI (o * 2 + b) m) = true := by simpa using hcm
              clear hst hge
              generalize cmpI (o * 2 + b) m = cm at *
              go_wp2_with (first
                | ((with_reducible refine g_load 24 ?_); refine wpList_blks_loadg HV2.out 4 _ _ 24 rfl rfl (.tmp 8) rfl rfl tu24 rfl ts24 ?_)
                | ((with_reducible refine g_load 24 ?_); refine wpList_blks_loadg HV2.out 2 _ _ 24 rfl rfl (.tmp 5) rfl rfl tu24 rfl ts24 ?_)
                | (go_at_call 15; refine (HC.out _).mono ?_; rintro _ V1 ⟨rfl, hV1⟩)
                | ((with_reducible refine g_load 24 ?_); refine wpList_blks_load (HV2.out.ext hV1) 4 _ _ 24 rfl rfl (.tmp 8) rfl rfl tu24 rfl ts24 ?_)
                | ((with_reducible refine g_load 24 ?_); refine wpList_blks_load (HV2.out.ext hV1) 2 _ _ 24 rfl rfl (.tmp 5) rfl rfl tu24 rfl ts24 ?_)
                | (go_at_call 11; refine (sub_p (o * 2 + b) m _).mono ?_; rintro _ V ⟨rfl, hV⟩)
                | ((with_reducible refine g_store 24 ?_); refine wpList_blks_store ((HV2.out.ext hV1).ext hV) 4 _ _ 24 rfl rfl _ _ rfl rfl (W (o * 2 + b - m)) rfl rfl ts24 (W_one _) ?_; intro w3 HW3))
              go_roundw
              case rel => exact ⟨j + 1, by omega, by go_num, by rw [HST2.out]; exact HW3⟩
              case measure => simp [intOf]; omega
            · rw [if_neg hge] at hst
              have HST2 := Lib.hid hst
              have hcm : cmpI (o * 2 + b) m = -1 := cmpI_lt (by omega)
              rw [hcm] at HC
              clear hst hge hcm
              go_wp2_with (first
                | ((with_reducible refine g_load 24 ?_); refine wpList_blks_loadg HV2.out 4 _ _ 24 rfl rfl (.tmp 8) rfl rfl tu24 rfl ts24 ?_)
                | ((with_reducible refine g_load 24 ?_); refine wpList_blks_loadg HV2.out 2 _ _ 24 rfl rfl (.tmp 5) rfl rfl tu24 rfl ts24 ?_)
                | (go_at_call 15; refine (HC.out _).mono ?_; rintro _ V1 ⟨rfl, hV1⟩))
              go_roundw
              case rel => exact ⟨j + 1, by omega, by go_num, by rw [HST2.out]; exact HV2.out.ext hV1⟩
              case measure => simp [intOf]; omega
        · obtain rfl : j = 256 := by omega
          rw [← HO1.out] at HQ
          have HQ2 := Lib.hid (HQ.keep [(w.heap.size, W h, 24), (w.heap.size + 1, W l, 24), (w.heap.size + 1 + 1, W m, 24), (w.heap.size + 1 + 1 + 1, Z4, 24), (w.heap.size + 1 + 1 + 1 + 1, W (oo h l m (i + 1)), 24)] (by simp))
          clear HQ
          go_wp2_with fail
          go_roundw
          case rel => exact ⟨i + 1, by omega, by go_num, HQ2.out⟩
          case measure => simp [intOf]; omega
    · obtain rfl : i = 2 := by omega
      have HWH := Lib.hid HW
      clear HW
      go_wp2_with (first
        | ((with_reducible refine g_load 24 ?_); refine wpList_blks_load HWH.out 4 _ _ 24 rfl rfl _ rfl rfl tu24 rfl ts24 ?_)
        | ((with_reducible refine g_store 24 ?_); refine wpList_blks_store HWH.out 3 _ _ 24 rfl rfl _ _ rfl rfl (W (oo h l m 2)) rfl rfl ts24 (W_one _) ?_; intro w1 H1))
      exact bodyPost_ret (results_cell_tmp_row rfl _ _ (w.heap.size + 1 + 1 + 1) 24 (W (oo h l m 2)) (0, 0) _ (.int .i64 0) rfl rfl (H1.get 3 rfl) tu24 rfl ts24) rfl ⟨rfl, H1.below⟩
end Go.Proofs.Ytjmckfebnoaheaa
