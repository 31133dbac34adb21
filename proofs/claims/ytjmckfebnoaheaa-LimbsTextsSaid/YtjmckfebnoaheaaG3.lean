/- Two lists of bytes compared, walked. -/
import Derived.Test.YtjmckfebnoaheaaG1
set_option linter.unusedVariables false
namespace Go.Proofs.Ytjmckfebnoaheaa
open Go.RowKit Go.KK Go.Lm
/-- What an owned row of 32 bytes is. -/
theorem own32 {w : World} {B : Nat} {v : Value} {x : Int} (h : w.ownsRow B 5 1 v 32 (byR x 32).flatten) : ∃ g cap, v = .slice (some ⟨g, 0, none⟩) 32 cap ∧ 32 ≤ cap ∧ cap ≤ maxLen ∧ B ≤ g ∧ g < w.heap.size ∧ (∀ k, k < 32 → w.cell? ⟨g, k, none⟩ = some (.int .u8 (byI x k))) ∧ ∃ cur, w.heap[g]? = some (.cells cur 5 (0, 0)) := by
  rcases h.2 with ⟨_, h0⟩ | ⟨g, cap, cur, hv, hb, hg, hn, hm, hc, ht⟩
  · omega
  · refine ⟨g, cap, hv, hn, hm, hb, block_lt hg, fun k hk => ?_, cur, hg⟩
    have := h.cells (g := g) (by rw [hv]; rfl) k _ (byR_flat_get x hk)
    rwa [Addr.add_mid, Nat.zero_add] at this
set_option maxRecDepth 100000 in
set_option maxHeartbeats 4000000 in
theorem same_p {w : World} {g1 g2 c1 c2 : Nat} {x : Int} (h1 : ∀ k, k < 32 → w.cell? ⟨g1, k, none⟩ = some (.int .u8 (byI x k))) (h2 : ∀ k, k < 32 → w.cell? ⟨g2, k, none⟩ = some (.int .u8 (byI x k))) (hg1 : g1 < w.heap.size) (hg2 : g2 < w.heap.size) :
    Calls Try.prog 35 #[.slice (some ⟨g1, 0, none⟩) 32 c1, .slice (some ⟨g2, 0, none⟩) 32 c2] w fun e w' => e = .returned (.bool true) ∧ Below w.heap.size w w' := by
  have H1 := Lib.hid h1
  have H2 := Lib.hid h2
  clear h1 h2
  go_enter Try.func35, Try.ntmps35
  go_wp2_with fail
  go_loopw [5] (fun h wr => ∃ k : Nat, k ≤ 32 ∧ h = .int .i64 k ∧ Below w.heap.size w wr) (fun h _ => 32 - (intOf h).toNat)
  case atStart => exact ⟨0, by omega, rfl, Below.refl _ _⟩
  case round =>
    obtain ⟨k, hk, rfl, hb⟩ := hrel
    have HB := Lib.hid hb
    clear hb
    by_cases hlt : k < 32
    · have hkI : (k : Int) < 32 := by omega
      have e1 : Hid (∀ e : ExtOf wr, e.wd.cell? ⟨g1, k, none⟩ = some (.int .u8 (byI x k))) := Lib.hid fun e => ((below_all HB.out e.below).cell hg1).trans (H1.out k hlt)
      have e2 : Hid (∀ e : ExtOf wr, e.wd.cell? ⟨g2, k, none⟩ = some (.int .u8 (byI x k))) := Lib.hid fun e => ((below_all HB.out e.below).cell hg2).trans (H2.out k hlt)
      go_upto_region 6 with (fail)
      have c1 := e1.out
      have c2 := e2.out
      refine wp_region_ext (by kernel_rfl) (by kernel_rfl) ?_
      iterate 9 (quiet_step (fail))
      refine wpQuiet_nil ?_
      rintro _ ⟨e, rfl⟩
      clear c1 c2
      go_wp2_with fail
      go_roundw
      case rel => exact ⟨k + 1, by omega, by go_num, below_all HB.out e.below⟩
      case measure => simp [intOf]; omega
    · obtain rfl : k = 32 := by omega
      go_wp2_with fail
      go_ret
      exact ⟨rfl, HB.out⟩
end Go.Proofs.Ytjmckfebnoaheaa
