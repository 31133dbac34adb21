/- The page's Read, walked. -/
import Derived.Test.YtjmckfebnoaheaaG4
set_option linter.unusedVariables false
namespace Go.Proofs.Ytjmckfebnoaheaa
open Go.RowKit Go.KK Go.Lm
theorem eight_place (e : Nat) : ((e : Int) / 8 = ((e / 8 : Nat) : Int)) ∧ (e : Int).tdiv 8 = ((e / 8 : Nat) : Int) := by
  constructor
  · omega
  · rw [Int.tdiv_eq_ediv_of_nonneg (by omega)]; omega
theorem rread_bad {A : Option Addr} {n cap : Nat} (hn : n ≠ 32) (hm : n ≤ 9223372036854775807) (w : World) :
    Calls Try.prog 32 #[.slice A n cap] w fun e w' => e = .returned (.tuple #[.agg (W 0), .int .i64 3]) ∧ Below w.heap.size w w' := by
  have H0 := ((Blks.nil w).alloc Z4 24 rfl).alloc Z4 24 (b := w.heap.size + 1) (by simp)
  rw [show Z4 = W 0 from W_zero.symm] at H0
  have HH := Lib.hid H0
  clear H0
  have hd : ((n : Int) != 32) = true := by simp; omega
  go_enter Try.func32, Try.ntmps32
  go_wp2_with (first
    | ((with_reducible refine g_load 24 ?_); refine wpList_blks_load HH.out 1 _ _ 24 rfl rfl _ rfl rfl tu24 rfl ts24 ?_)
    | ((with_reducible refine g_store 24 ?_); refine wpList_blks_store HH.out 0 _ _ 24 rfl rfl _ _ rfl rfl (W 0) rfl rfl ts24 (W_one _) ?_; intro w1 H1))
  exact bodyPost_ret (results_cell_tmp_row rfl _ _ w.heap.size 24 (W 0) (0, 0) _ (.int .i64 3) rfl rfl (H1.get 0 rfl) tu24 rfl ts24) rfl ⟨rfl, H1.below⟩
set_option maxRecDepth 100000 in
set_option maxHeartbeats 4000000 in
theorem rread_ok {g off cap : Nat} {f : Nat → Int} (hf : ∀ k, k < 32 → 0 ≤ f k ∧ f k ≤ 255) {w : World} (hg : g < w.heap.size) (hc : ∀ k, k < 32 → w.cell? ⟨g, off + k, none⟩ = some (.int .u8 (f k))) :
    Calls Try.prog 32 #[.slice (some ⟨g, off, none⟩) 32 cap] w fun e w' => e = .returned (.tuple #[.agg (nums .u64 4 (rdw f 32)), .int .i64 0]) ∧ Below w.heap.size w w' := by
  have HB := Lib.hid (rdw_bd hf)
  have HF := Lib.hid hf
  have HC := Lib.hid hc
  clear hf hc
  have H0 := Lib.hid (((Blks.nil w).alloc Z4 24 rfl).alloc Z4 24 (b := w.heap.size + 1) (by simp))
  go_enter Try.func32, Try.ntmps32
  go_wp2_with fail
  go_loopw [5] (fun h wr => ∃ i : Nat, i ≤ 32 ∧ h = .int .i64 i ∧ Blks w [(w.heap.size, Z4, 24), (w.heap.size + 1, nums .u64 4 (rdw f i), 24)] wr) (fun h _ => 32 - (intOf h).toNat)
  case atStart => exact ⟨0, by omega, rfl, H0.out⟩
  case round =>
    obtain ⟨k, hk, rfl, hW⟩ := hrel
    have HW := Lib.hid hW
    clear H0 hW
    by_cases hlt : k < 32
    · have hkI : (k : Int) < 32 := by omega
      go_upto_region 7 with (fail)
      obtain ⟨q, hq⟩ : ∃ q : Nat, k / 8 = q := ⟨_, rfl⟩
      obtain ⟨m, hm⟩ : ∃ m : Nat, 3 - q = m := ⟨_, rfl⟩
      obtain ⟨e1, e2⟩ := eight_place k
      rw [hq] at e1 e2
      have hqI : (q : Int) < 4 := by omega
      have e3 : (3 : Int) - (q : Int) = (m : Int) := by omega
      have hmI : (m : Int) < 4 := by omega
      have hmk : m = 3 - k / 8 := by omega
      obtain ⟨b0, b1⟩ := HB.out k (by omega) m
      obtain ⟨f0, f1⟩ := HF.out k hlt
      have hor := or_byte b0 b1 f0 f1
      have hsh : IntKind.u64.wrap (rdw f k m * 256) = rdw f k m * 256 % 18446744073709551616 := IntKind.wrap_u64 _
      have hco : IntKind.u64.wrap (f k) = f k := IntWalk.u64_in _ (by omega)
      have w1 : IntKind.i64.wrap (q : Int) = q := IntWalk.i64_in _ (by omega)
      have w2 : IntKind.i64.wrap (m : Int) = m := IntWalk.i64_in _ (by omega)
      have hc1 : ∀ e : ExtOf wr, e.wd.cell? ⟨w.heap.size + 1, m, none⟩ = some (.int .u64 (rdw f k m)) := fun e => (HW.out.ext e.below).num 1 rfl (by omega)
      have hc2 : ∀ e : ExtOf wr, e.wd.cell? ⟨g, off + k, none⟩ = some (.int .u8 (f k)) := fun e => ((HW.out.ext e.below).below.cell (p := ⟨g, off + k, none⟩) hg).trans (HC.out k hlt)
      have HS : Hid (∀ e : ExtOf wr, Blks w [(w.heap.size, Z4, 24), (w.heap.size + 1, nums .u64 4 (rdw f (k + 1)), 24)] (e.wd.setCell ⟨w.heap.size + 1, m, none⟩ (.int .u64 (rdw f k m * 256 % 18446744073709551616 + f k)))) := Lib.hid fun e => (HW.out.ext e.below).set 1 rfl m _ (rdw_set f k hmk)
      clear hm hmk hq
      refine wp_region_ext_tail 16 (by kernel_rfl) (by kernel_rfl) ?_
      simp only [List.take_succ_cons, List.take_zero, List.drop_succ_cons, List.drop_zero]
      iterate 16 (quiet_step (fail))
      refine wpQuiet_nil ?_
      rintro _ ⟨e, rfl⟩
      have hc3 := hc1 e
      have hfz := (HW.out.ext e.below).frozen 1 rfl m
      clear hc1 hc2 w1 w2
      go_wp2_with fail
      go_roundw
      case rel => exact ⟨k + 1, by omega, by go_num, HS.out e⟩
      case measure => simp [intOf]; omega
    · obtain rfl : k = 32 := by omega
      obtain ⟨n, hn, _, _⟩ := rdw_word HF.out
      have h := HW.out
      have HN := Lib.hid hn
      rw [hn] at h
      have HWH := Lib.hid h
      clear h hn HW
      go_wp2_with (first
        | ((with_reducible refine g_load 24 ?_); refine wpList_blks_load HWH.out 1 _ _ 24 rfl rfl _ rfl rfl tu24 rfl ts24 ?_)
        | ((with_reducible refine g_store 24 ?_); refine wpList_blks_store HWH.out 0 _ _ 24 rfl rfl _ _ rfl rfl (W n) rfl rfl ts24 (W_one _) ?_; intro w1 H1))
      exact bodyPost_ret (results_cell_tmp_row rfl _ _ w.heap.size 24 (W n) (0, 0) _ (.int .i64 0) rfl rfl (H1.get 0 rfl) tu24 rfl ts24) rfl ⟨by rw [HN.out], H1.below⟩
end Go.Proofs.Ytjmckfebnoaheaa
