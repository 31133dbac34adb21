/- The page's Mod, walked to its end. -/
import Derived.Test.YtjmckfebnoaheaaE3
set_option linter.unusedVariables false
namespace Go.Proofs.Ytjmckfebnoaheaa
open Go.RowKit Go.KK Go.Lm

theorem cmpI_ne_zero {m : Int} (h : 0 < m) : cmpI m 0 = 1 := cmpI_gt h
def n512 : Nat := 512
theorem n512_eq : n512 = 512 := rfl
theorem pow512 : (2 : Int) ^ n512 = R256 * R256 := by
  rw [show n512 = 256 + 256 from rfl, Int.pow_add, show R256 = (2 : Int) ^ 256 by decide]
/-- What one round comes by: the bit. -/
theorem mod_bit {h l : Int} (hh0 : 0 ≤ h) (hh1 : h < R256) (hl0 : 0 ≤ l) (hl1 : l < R256) (e : Nat) (he : e < 512) :
    (256 ≤ e ∧ bitI h (e - 256 : Nat) = (h * R256 + l) / 2 ^ e % 2) ∨ (e < 256 ∧ bitI l e = (h * R256 + l) / 2 ^ e % 2) := by
  by_cases h1 : 256 ≤ e
  · exact .inl ⟨h1, by rw [bitI_in h (by omega), hi_bit h l hl0 hl1 h1]⟩
  · exact .inr ⟨by omega, by rw [bitI_in l (by omega), lo_bit h l (by omega)]⟩
theorem rest_half (x y : Int) (hy : 0 < y) (e : Nat) (r b : Int) (hr : x / 2 ^ (e + 1) % y = r) (hb : x / 2 ^ e % 2 = b) :
    x / 2 ^ e % y = (if y ≤ r * 2 + b then r * 2 + b - y else r * 2 + b) := (long_step x y hy e r b hr hb).1
set_option maxRecDepth 100000 in
set_option maxHeartbeats 8000000 in
theorem rmod_p {h l m : Int} (hh0 : 0 ≤ h) (hh1 : h < R256) (hl0 : 0 ≤ l) (hl1 : l < R256) (hm0 : 0 < m) (hm1 : m < R256) (w : World) :
    Calls Try.prog 21 #[.agg (W h), .agg (W l), .agg (W m)] w fun e w' => e = .returned (.tuple #[.agg (W ((h * R256 + l) % m)), .int .i64 0]) ∧ Below w.heap.size w w' := by
  have H0 := (((((Blks.nil w).alloc (W h) 24 rfl).alloc (W l) 24 (b := w.heap.size + 1) (by simp)).alloc (W m) 24 (b := w.heap.size + 1 + 1) (by simp)).alloc Z4 24 (b := w.heap.size + 1 + 1 + 1) (by simp)).alloc Z4 24 (b := w.heap.size + 1 + 1 + 1 + 1) (by simp)
  have HH := Lib.hid H0
  have HC := Lib.hid (fun W' => rcmp_p (x := m) (y := 0) (Int.le_of_lt hm0) hm1 (by omega) R256_pos W')
  rw [cmpI_ne_zero hm0, W_zero] at HC
  have HN : Hid ((h * R256 + l) / 2 ^ n512 = 0) := Lib.hid (Int.ediv_eq_zero_of_lt (by have := Int.mul_nonneg hh0 (Int.le_of_lt R256_pos); omega) (by
    have e1 := pow512
    have h2 : h * R256 ≤ (R256 - 1) * R256 := Int.mul_le_mul_of_nonneg_right (by omega) (by have := R256_pos; omega)
    rw [Int.sub_mul] at h2
    rw [e1]; omega))
  have HHL : Hid ((0 ≤ h ∧ h < R256) ∧ (0 ≤ l ∧ l < R256)) := Lib.hid ⟨⟨hh0, hh1⟩, ⟨hl0, hl1⟩⟩
  have HM : Hid (0 < m ∧ m < R256) := Lib.hid ⟨hm0, hm1⟩
  clear H0 hh0 hh1 hl0 hl1 hm0 hm1
  go_enter Try.func21, Try.ntmps21
  go_wp2_with (first
    | ((with_reducible refine g_load 24 ?_); refine wpList_blks_load HH.out 2 _ _ 24 rfl rfl (.tmp 5) rfl rfl tu24 rfl ts24 ?_)
    | ((with_reducible refine g_load 24 ?_); refine wpList_blks_load HH.out 4 _ _ 24 rfl rfl (.tmp 8) rfl rfl tu24 rfl ts24 ?_)
    | (go_at_call 16; refine (HC.out _).mono ?_; rintro _ V ⟨rfl, hV⟩; have HH := Lib.hid (HH.out.ext hV)))
  clear hV
  generalize hN : h * R256 + l = N at *
  have HNN := Lib.hid hN
  clear hN
  go_loopw [9, 10, 11, 12] (fun i _ _ _ wr => ∃ k : Nat, k ≤ 512 ∧ i = .int .i64 ((k : Int) - 1) ∧ Blks w [(w.heap.size, W h, 24), (w.heap.size + 1, W l, 24), (w.heap.size + 1 + 1, W m, 24), (w.heap.size + 1 + 1 + 1, Z4, 24), (w.heap.size + 1 + 1 + 1 + 1, W (N / 2 ^ k % m), 24)] wr) (fun i _ _ _ _ => (1 + intOf i).toNat)
  case atStart =>
    exact ⟨n512, by rw [n512_eq]; omega, rfl, by rw [HN.out, Int.zero_emod, show W 0 = Z4 from W_zero]; exact HH.out⟩
  case round =>
    obtain ⟨k, hk, rfl, HW⟩ := hrel
    clear HH
    cases k with
    | zero =>
      rw [show ((0 : Nat) : Int) - 1 = -1 from rfl]
      have e1 : N / 2 ^ 0 % m = N % m := by simp
      rw [e1] at HW
      have HWH := Lib.hid HW
      clear HW e1
      go_wp2_with (first
        | ((with_reducible refine g_load 24 ?_); refine wpList_blks_load HWH.out 4 _ _ 24 rfl rfl (.tmp 8) rfl rfl tu24 rfl ts24 ?_)
        | ((with_reducible refine g_store 24 ?_); refine wpList_blks_store HWH.out 3 _ _ 24 rfl rfl _ _ rfl rfl (W (N % m)) rfl rfl ts24 (W_one _) ?_; intro w1 H1))
      exact bodyPost_ret (results_cell_tmp_row rfl _ _ (w.heap.size + 1 + 1 + 1) 24 (W (N % m)) (0, 0) _ (.int .i64 0) rfl rfl (H1.get 3 rfl) tu24 rfl ts24) rfl ⟨by rw [HNN.out], H1.below⟩
    | succ e =>
      rw [show ((e + 1 : Nat) : Int) - 1 = (e : Int) by omega]
      have he : e < 512 := by omega
      have hbit := mod_bit HHL.out.1.1 HHL.out.1.2 HHL.out.2.1 HHL.out.2.2 e he
      rw [HNN.out] at hbit
      obtain ⟨b, hb⟩ : ∃ b, N / 2 ^ e % 2 = b := ⟨_, rfl⟩
      obtain ⟨o, ho⟩ : ∃ o, N / 2 ^ (e + 1) % m = o := ⟨_, rfl⟩
      have hst := rest_half N m HM.out.1 e o b ho hb
      have ho0 : 0 ≤ o := by rw [← ho]; exact Int.emod_nonneg _ (by have := HM.out.1; omega)
      have ho1 : o < m := by rw [← ho]; exact Int.emod_lt_of_pos _ HM.out.1
      have hor : o < R256 := by have := HM.out.2; omega
      have hb2 : b = 0 ∨ b = 1 := by omega
      have hb0 : 0 ≤ b := by omega
      have hb1 : b ≤ 1 := by omega
      rw [ho] at HW
      rw [hb] at hbit
      have hbo := bit_or o b hb2
      have hbs := bit_set o b hb2
      have HAD := Lib.hid (fun W' => radd_p o o W')
      rw [c64_dbl ho0 hor, show o + o = o * 2 by omega] at HAD
      have hb64 : IntKind.u64.wrap b = b := IntWalk.u64_in _ (by omega)
      have heI : (e : Int) < 512 := by omega
      have HO : Hid (0 ≤ o ∧ o < m ∧ o < R256) := Lib.hid ⟨ho0, ho1, hor⟩
      have HST := Lib.hid hst
      have HBS := Lib.hid hbs
      have HWH := Lib.hid HW
      clear hst hbs ho hb HW ho0 ho1 hor hb2
      go_upto_if 23 with (fail)
      go_cut [10] from 18 to 57 (fun t wx => t = .int .i64 b ∧ Blks w [(w.heap.size, W h, 24), (w.heap.size + 1, W l, 24), (w.heap.size + 1 + 1, W m, 24), (w.heap.size + 1 + 1 + 1, Z4, 24), (w.heap.size + 1 + 1 + 1 + 1, W o, 24)] wx)
      case first =>
        clear HAD hbo HBS HST
        rcases hbit with ⟨hge, hbb⟩ | ⟨hlt, hbb⟩
        · have e2 : (e : Int) - 256 = ((e - 256 : Nat) : Int) := by omega
          have hgI : (256 : Int) ≤ (e : Int) := by omega
          have HB := Lib.hid (fun W' => rbit_p h ((e - 256 : Nat) : Int) W')
          rw [hbb] at HB
          generalize e - 256 = e' at *
          clear hbb
          go_wp2_with (first
            | ((with_reducible refine g_load 24 ?_); refine wpList_blks_load HWH.out 0 _ _ 24 rfl rfl (.tmp 3) rfl rfl tu24 rfl ts24 ?_)
            | (go_at_call 26; refine (HB.out _).mono ?_; rintro _ V1 ⟨rfl, hV1⟩))
          go_meet
          exact ⟨rfl, HWH.out.ext hV1⟩
        · have hgI : (e : Int) < 256 := by omega
          have HB := Lib.hid (fun W' => rbit_p l (e : Int) W')
          rw [hbb] at HB
          clear hbb
          go_wp2_with (first
            | ((with_reducible refine g_load 24 ?_); refine wpList_blks_load HWH.out 1 _ _ 24 rfl rfl (.tmp 4) rfl rfl tu24 rfl ts24 ?_)
            | (go_at_call 26; refine (HB.out _).mono ?_; rintro _ V1 ⟨rfl, hV1⟩))
          go_meet
          exact ⟨rfl, HWH.out.ext hV1⟩
      case rest =>
        obtain ⟨rfl, HX⟩ := hcut
        have HXH := Lib.hid HX
        clear HX HWH hbit
        obtain ⟨tp, htp⟩ : ∃ tp : Int, (if 57896044618658097711785492504343953926634992332820282019728792003956564819968 ≤ o then (1 : Int) else 0) = tp := ⟨_, rfl⟩
        rw [htp] at HAD
        have HTOP := Lib.hid htp
        clear htp
        go_upto_region 12 with (first
          | ((with_reducible refine g_load 24 ?_); refine wpList_blks_load HXH.out 4 _ _ 24 rfl rfl (.tmp 8) rfl rfl tu24 rfl ts24 ?_)
          | (go_at_call 10; refine (HAD.out _).mono ?_; rintro _ V1 ⟨rfl, hV1⟩)
          | ((with_reducible refine g_store 24 ?_); refine wpList_blks_store ((HXH.out.ext hV1).alloc Z4 24 rfl) 5 _ _ 24 rfl rfl _ _ rfl rfl (W (o * 2)) rfl rfl ts24 (W_one _) ?_; intro w1 HW1))
        generalize V1.heap.size = g at *
        have hc0 : w1.cell? ⟨g, 0, none⟩ = some (.int .u64 (d64 (o * 2) 0)) := HW1.num 5 rfl (by omega)
        have hfz := HW1.frozen 5 rfl 0
        have HX2 := Lib.hid (HW1.set 5 rfl 0 (.int .u64 (d64 (o * 2) 0 + b)) (c' := W (o * 2 + b)) HBS.out)
        clear HW1 hV1
        go_upto_region 13 with (fail)
        have HX3 := HX2.out
        generalize w1.setCell ⟨g, 0, none⟩ (.int .u64 (d64 (o * 2) 0 + b)) = V2 at *
        have HV2 : Hid (Blks w [(w.heap.size, W h, 24), (w.heap.size + 1, W l, 24), (w.heap.size + 1 + 1, W m, 24), (w.heap.size + 1 + 1 + 1, Z4, 24), (w.heap.size + 1 + 1 + 1 + 1, W o, 24), (g, W (o * 2 + b), 24)] V2) := Lib.hid HX3
        clear HX2 HX3 hc0 hfz hbo hb64 HBS HXH HAD
        by_cases hT : 57896044618658097711785492504343953926634992332820282019728792003956564819968 ≤ o
        · have htp1 : tp = 1 := by rw [← HTOP.out, if_pos hT]
          have hge : m ≤ o * 2 + b := by have := HM.out; have := HO.out; have := R256_lit; omega
          have hst := HST.out
          rw [if_pos hge] at hst
          have HST2 := Lib.hid hst
          clear HTOP HST hge hst hT
          subst htp1
          go_wp2_with (first
            | ((with_reducible refine g_load 24 ?_); refine wpList_blks_load HV2.out 5 _ _ 24 rfl rfl (.tmp 11) rfl rfl tu24 rfl ts24 ?_)
            | ((with_reducible refine g_load 24 ?_); refine wpList_blks_load HV2.out 2 _ _ 24 rfl rfl (.tmp 5) rfl rfl tu24 rfl ts24 ?_)
            | (go_at_call 12; refine (rsub_p (o * 2 + b) m _).mono ?_; rintro _ V ⟨rfl, hV⟩)
            | ((with_reducible refine g_store 24 ?_); refine wpList_blks_store (HV2.out.ext hV) 5 _ _ 24 rfl rfl (.tmp 11) _ rfl rfl (W (o * 2 + b - m)) rfl rfl ts24 (W_one _) ?_; intro w3 HW3)
            | ((with_reducible refine g_load 24 ?_); refine wpList_blks_load HW3 5 _ _ 24 rfl rfl (.tmp 11) rfl rfl tu24 rfl ts24 ?_)
            | ((with_reducible refine g_store 24 ?_); refine wpList_blks_store HW3 4 _ _ 24 rfl rfl (.tmp 8) _ rfl rfl (W (o * 2 + b - m)) rfl rfl ts24 (W_one _) ?_; intro w4 HW4))
          go_roundw
          case rel => exact ⟨e, by omega, rfl, by rw [HST2.out]; exact HW4.keep _ (by simp)⟩
          case measure => simp [intOf]; omega
        · have htp0 : tp = 0 := by rw [← HTOP.out, if_neg hT]
          have hv0 : 0 ≤ o * 2 + b := by have := HO.out; omega
          have hv1 : o * 2 + b < R256 := by have := R256_lit; omega
          have HC := Lib.hid (rcmp_p hv0 hv1 (Int.le_of_lt HM.out.1) HM.out.2)
          have hst := HST.out
          subst htp0
          clear HTOP HST hT hv0 hv1
          by_cases hge : m ≤ o * 2 + b
          · rw [if_pos hge] at hst
            have HST2 := Lib.hid hst
            have hcm := cmpI_ge hge
            have hcm2 : decide (0 ≤ cmpI (o * 2 + b) m) = true := by simpa using hcm
            clear hst hge
            generalize cmpI (o * 2 + b) m = cm at *
            go_upto_region 14 with (first
              | ((with_reducible refine g_load 24 ?_); refine wpList_blks_loadg HV2.out 5 _ _ 24 rfl rfl (.tmp 11) rfl rfl tu24 rfl ts24 ?_)
              | ((with_reducible refine g_load 24 ?_); refine wpList_blks_loadg HV2.out 2 _ _ 24 rfl rfl (.tmp 5) rfl rfl tu24 rfl ts24 ?_)
              | (go_at_call 16; refine (HC.out _).mono ?_; rintro _ V1 ⟨rfl, hV1⟩))
            go_wp2_with (first
              | ((with_reducible refine g_load 24 ?_); refine wpList_blks_load (HV2.out.ext hV1) 5 _ _ 24 rfl rfl (.tmp 11) rfl rfl tu24 rfl ts24 ?_)
              | ((with_reducible refine g_load 24 ?_); refine wpList_blks_load (HV2.out.ext hV1) 2 _ _ 24 rfl rfl (.tmp 5) rfl rfl tu24 rfl ts24 ?_)
              | (go_at_call 12; refine (rsub_p (o * 2 + b) m _).mono ?_; rintro _ V ⟨rfl, hV⟩)
              | ((with_reducible refine g_store 24 ?_); refine wpList_blks_store ((HV2.out.ext hV1).ext hV) 5 _ _ 24 rfl rfl (.tmp 11) _ rfl rfl (W (o * 2 + b - m)) rfl rfl ts24 (W_one _) ?_; intro w3 HW3)
              | ((with_reducible refine g_load 24 ?_); refine wpList_blks_load HW3 5 _ _ 24 rfl rfl (.tmp 11) rfl rfl tu24 rfl ts24 ?_)
              | ((with_reducible refine g_store 24 ?_); refine wpList_blks_store HW3 4 _ _ 24 rfl rfl (.tmp 8) _ rfl rfl (W (o * 2 + b - m)) rfl rfl ts24 (W_one _) ?_; intro w4 HW4))
            go_roundw
            case rel => exact ⟨e, by omega, rfl, by rw [HST2.out]; exact HW4.keep _ (by simp)⟩
            case measure => simp [intOf]; omega
          · rw [if_neg hge] at hst
            have HST2 := Lib.hid hst
            have hcm : cmpI (o * 2 + b) m = -1 := cmpI_lt (by omega)
            rw [hcm] at HC
            clear hst hge hcm
            go_upto_region 15 with (first
              | ((with_reducible refine g_load 24 ?_); refine wpList_blks_loadg HV2.out 5 _ _ 24 rfl rfl (.tmp 11) rfl rfl tu24 rfl ts24 ?_)
              | ((with_reducible refine g_load 24 ?_); refine wpList_blks_loadg HV2.out 2 _ _ 24 rfl rfl (.tmp 5) rfl rfl tu24 rfl ts24 ?_)
              | (go_at_call 16; refine (HC.out _).mono ?_; rintro _ V1 ⟨rfl, hV1⟩))
            go_wp2_with (first
              | ((with_reducible refine g_load 24 ?_); refine wpList_blks_load (HV2.out.ext hV1) 5 _ _ 24 rfl rfl (.tmp 11) rfl rfl tu24 rfl ts24 ?_)
              | ((with_reducible refine g_store 24 ?_); refine wpList_blks_store (HV2.out.ext hV1) 4 _ _ 24 rfl rfl (.tmp 8) _ rfl rfl (W (o * 2 + b)) rfl rfl ts24 (W_one _) ?_; intro w4 HW4))
            go_roundw
            case rel => exact ⟨e, by omega, rfl, by rw [HST2.out]; exact HW4.keep _ (by simp)⟩
            case measure => simp [intOf]; omega
end Go.Proofs.Ytjmckfebnoaheaa
