/- Read, walked. -/
import Derived.Test.YtjmckfebnoaheaaG1
import Derived.Test.YtjmckfebnoaheaaA6
set_option linter.unusedVariables false
namespace Go.Proofs.Ytjmckfebnoaheaa
open Go.RowKit Go.KK Go.Lm
theorem read_bad {A : Option Addr} {n cap : Nat} (hn : n ≠ 32) (hm : n ≤ 9223372036854775807) (w : World) :
    Calls Try.prog 31 #[.slice A n cap] w fun e w' => e = .returned (.tuple #[.agg (W 0), .int .i64 3]) ∧ Below w.heap.size w w' := by
  have H0 := (Blks.nil w).alloc Z4 24 rfl
  rw [show Z4 = W 0 from W_zero.symm] at H0
  have HH := Lib.hid H0
  clear H0
  have hd : ((n : Int) != 32) = true := by simp; omega
  go_enter Try.func31, Try.ntmps31
  go_wp2_with (first
    | ((with_reducible refine g_build 24 ?_); refine wpList_build0 rfl 24 rfl _ (build24z _) ?_)
    | ((with_reducible refine g_store 24 ?_); refine wpList_blks_store HH.out 0 _ _ 24 rfl rfl _ _ rfl rfl (W 0) rfl rfl ts24 (W_one _) ?_; intro w1 H1))
  exact bodyPost_ret (results_cell_tmp_row rfl _ _ w.heap.size 24 (W 0) (0, 0) _ (.int .i64 3) rfl rfl (H1.get 0 rfl) tu24 rfl ts24) rfl ⟨rfl, H1.below⟩
set_option maxRecDepth 100000 in
set_option maxHeartbeats 4000000 in
theorem read_ok {g off cap : Nat} {f : Nat → Int} (hcap : 32 ≤ cap) (hcm : cap ≤ 9223372036854775807) (hf : ∀ k, k < 32 → 0 ≤ f k ∧ f k ≤ 255) {w : World} (hg : g < w.heap.size) (hc : ∀ k, k < 32 → w.cell? ⟨g, off + k, none⟩ = some (.int .u8 (f k))) :
    Calls Try.prog 31 #[.slice (some ⟨g, off, none⟩) 32 cap] w fun e w' => e = .returned (.tuple #[.agg (nums .u64 4 (rdw f 32)), .int .i64 0]) ∧ Below w.heap.size w w' := by
  have HB := Lib.hid (rdw_bd hf)
  have HF := Lib.hid hf
  have HC := Lib.hid hc
  clear hf hc
  have H0 := Lib.hid (((Blks.nil w).alloc Z4 24 rfl).alloc Z4 24 (b := w.heap.size + 1) (by simp))
  go_enter Try.func31, Try.ntmps31
  go_wp2_with fail
  go_loopw [12] (fun h wr => ∃ i : Nat, i ≤ 4 ∧ h = .int .i64 i ∧ Blks w [(w.heap.size, Z4, 24), (w.heap.size + 1, nums .u64 4 (rdw f (8 * i)), 24)] wr) (fun h _ => 4 - (intOf h).toNat)
  case atStart => exact ⟨0, by omega, rfl, H0.out⟩
  case round =>
    obtain ⟨i, hi, rfl, hW⟩ := hrel
    have HW := Lib.hid hW
    clear H0 hW
    by_cases hlt : i < 4
    · have hiI : (i : Int) < 4 := by omega
      obtain ⟨p, hp⟩ : ∃ p : Nat, 8 * i = p := ⟨_, rfl⟩
      have e2 : (8 : Int) * (i : Int) = (p : Int) := by omega
      have HP := Lib.hid hp
      have hp24 : p ≤ 24 := by omega
      have hpc : p + 8 ≤ cap := by omega
      go_upto_region 8 with (fail)
      rw [show p + 8 - p = 8 by omega]
      clear e2 hpc
      obtain ⟨wo, rfl⟩ : ∃ wo : World, wo = wr := ⟨_, rfl⟩
      go_loopw [23] (fun h wq => ∃ j : Nat, j ≤ 8 ∧ h = .int .i64 j ∧ Blks w [(w.heap.size, Z4, 24), (w.heap.size + 1, nums .u64 4 (rdw f (p + j)), 24)] wq) (fun h _ => 8 - (intOf h).toNat)
      case atStart => exact ⟨0, by omega, rfl, by have h := HW.out; rw [HP.out] at h; exact h⟩
      case round =>
        obtain ⟨j, hj, rfl, hQ⟩ := hrel
        have HQ := Lib.hid hQ
        clear HW hQ
        by_cases hlt2 : j < 8
        · have hjI : (j : Int) < 8 := by omega
          have hk : p + j < 32 := by omega
          obtain ⟨m, hm⟩ : ∃ m : Nat, 3 - i = m := ⟨_, rfl⟩
          have e1 : (3 : Int) - (i : Int) = (m : Int) := by omega
          have hmI : (m : Int) < 4 := by omega
          have hmk : m = 3 - (p + j) / 8 := by have := HP.out; omega
          have hb := HB.out (p + j) (by omega) m
          have hfb := HF.out (p + j) hk
          obtain ⟨b0, b1⟩ := hb
          obtain ⟨f0, f1⟩ := hfb
          have hor := or_byte b0 b1 f0 f1
          have hsh : IntKind.u64.wrap (rdw f (p + j) m * 256) = rdw f (p + j) m * 256 % 18446744073709551616 := IntKind.wrap_u64 _
          have hco : IntKind.u64.wrap (f (p + j)) = f (p + j) := IntWalk.u64_in _ (by omega)
          have hc1 : wr.cell? ⟨w.heap.size + 1, m, none⟩ = some (.int .u64 (rdw f (p + j) m)) := HQ.out.num 1 rfl (by omega)
          have hfz := HQ.out.frozen 1 rfl m
          have hc2 : wr.cell? ⟨g, off + p + j, none⟩ = some (.int .u8 (f (p + j))) := by
            rw [Nat.add_assoc]
            exact (HQ.out.below.cell (p := ⟨g, off + (p + j), none⟩) hg).trans (HC.out (p + j) hk)
          have HS := Lib.hid (HQ.out.set 1 rfl m (.int .u64 (rdw f (p + j) m * 256 % 18446744073709551616 + f (p + j))) (rdw_set f (p + j) hmk))
          clear hm hmk HQ
          go_wp2_with fail
          go_roundw
          case rel => exact ⟨j + 1, by omega, by go_num, HS.out⟩
          case measure => simp [intOf]; omega
        · obtain rfl : j = 8 := by omega
          go_wp2_with fail
          go_roundw
          case rel => exact ⟨i + 1, by omega, by go_num, by have h := HQ.out; rw [← HP.out] at h; exact h⟩
          case measure => simp [intOf]; omega
    · obtain rfl : i = 4 := by omega
      obtain ⟨n, hn, _, _⟩ := rdw_word HF.out
      have h := HW.out
      rw [show 8 * 4 = 32 from rfl] at h
      have HN := Lib.hid hn
      rw [hn] at h
      have HWH := Lib.hid h
      clear h hn HW
      go_wp2_with (first
        | ((with_reducible refine g_load 24 ?_); refine wpList_blks_load HWH.out 1 _ _ 24 rfl rfl _ rfl rfl tu24 rfl ts24 ?_)
        | ((with_reducible refine g_store 24 ?_); refine wpList_blks_store HWH.out 0 _ _ 24 rfl rfl _ _ rfl rfl (W n) rfl rfl ts24 (W_one _) ?_; intro w1 H1))
      exact bodyPost_ret (results_cell_tmp_row rfl _ _ w.heap.size 24 (W n) (0, 0) _ (.int .i64 0) rfl rfl (H1.get 0 rfl) tu24 rfl ts24) rfl ⟨by rw [HN.out], H1.below⟩
end Go.Proofs.Ytjmckfebnoaheaa
