/- A number's bytes, as the page lays them. -/
import Derived.Test.YtjmckfebnoaheaaG1
set_option linter.unusedVariables false
namespace Go.Proofs.Ytjmckfebnoaheaa
open Go.RowKit Go.KK Go.Lm
set_option maxRecDepth 100000 in
set_option maxHeartbeats 4000000 in
theorem rbytes_p (x : Int) (w : World) :
    Calls Try.prog 37 #[.agg (W x)] w fun e w' => ∃ v, e = .returned v ∧ w'.ownsRow (w.heap.size + 1) 5 1 v 32 (byR x 32).flatten ∧ Below w.heap.size w w' := by
  have H0 : Hid (Blks w [(w.heap.size, W x, 24)] (w.alloc (.cells (W x) 24))) := Lib.hid (((Blks.nil w).alloc (W x) 24 rfl))
  go_enter Try.func37, Try.ntmps37
  go_wp2_with fail
  go_loopw [3, 4] (fun v h wr => ∃ i : Nat, i ≤ 4 ∧ h = .int .i64 (3 - (i : Int)) ∧ wr.ownsRow (w.heap.size + 1) 5 1 v (8 * i) (byR x (8 * i)).flatten ∧ Blks w [(w.heap.size, W x, 24)] wr) (fun _ h _ => (1 + intOf h).toNat)
  case atStart => exact ⟨0, by omega, rfl, World.ownsRow_nil _ _ _ _, H0.out⟩
  case round =>
    obtain ⟨i, hi, rfl, hO, hW⟩ := hrel
    have HR : Hid (wr.ownsRow (w.heap.size + 1) 5 1 _ (8 * i) (byR x (8 * i)).flatten ∧ Blks w [(w.heap.size, W x, 24)] wr) := Lib.hid ⟨hO, hW⟩
    clear H0 hO hW
    by_cases hlt : i < 4
    · obtain ⟨m, hm⟩ : ∃ m : Nat, 3 - i = m := ⟨_, rfl⟩
      rw [show (3 : Int) - (i : Int) = (m : Int) by omega]
      have HM : Hid (3 - i = m ∧ i < 4) := Lib.hid ⟨hm, hlt⟩
      have hmI : (m : Int) < 4 := by omega
      clear hm hlt hi
      go_wp2_with fail
      obtain ⟨wo, rfl⟩ : ∃ wo : World, wo = wr := ⟨_, rfl⟩
      go_loopw [3, 5] (fun v h wq => ∃ j : Nat, j ≤ 8 ∧ h = .int .i64 (7 - (j : Int)) ∧ wq.ownsRow (w.heap.size + 1) 5 1 v (8 * i + j) (byR x (8 * i + j)).flatten ∧ Blks w [(w.heap.size, W x, 24)] wq) (fun _ h _ => (1 + intOf h).toNat)
      case atStart => exact ⟨0, by omega, rfl, HR.out.1, HR.out.2⟩
      case round =>
        obtain ⟨j, hj, rfl, hO, hW⟩ := hrel
        have HO := Lib.hid hO
        have HW := Lib.hid hW
        clear hO hW HR
        by_cases hlt2 : j < 8
        · obtain ⟨k, hk⟩ : ∃ k : Nat, 7 - j = k := ⟨_, rfl⟩
          obtain ⟨s, hs⟩ : ∃ s : Nat, k * 8 = s := ⟨_, rfl⟩
          rw [show (7 : Int) - (j : Int) = (k : Int) by omega]
          have e2 : (8 : Int) * (k : Int) = (s : Int) := by omega
          have hkI : (k : Int) < 8 := by omega
          have hs56 : s ≤ 56 := by omega
          have hsh := shr_fact x (m := m) (s := s) (k := 8 * i + j) hs56 (by have := HM.out; omega)
          have hc : wr.cell? ⟨w.heap.size, m, none⟩ = some (.int .u64 (d64 x m)) := HW.out.num 0 rfl (by omega)
          have HL : Hid (8 * i + j ≤ 31 ∧ j + 1 ≤ 8 ∧ (k : Int) - 1 = 7 - ((j + 1 : Nat) : Int)) := Lib.hid (by have := HM.out; omega)
          clear hk hs hj hlt2
          go_wp2_with (at_builtin; refine wpList_append_row rfl _ _ 48 rfl (w.heap.size + 1) 5 (.int .u8 0) 1 1 tu48 info5 rfl (by decide) _ (8 * i + j) (byR x (8 * i + j)) rfl HO.out [.int .u8 (byI x (8 * i + j))] rfl rfl (by simp [Value.oneCell']) (by have := HL.out; unfold maxLen; omega) (by have := HL.out; omega) (by have := HW.out.lt 0 rfl; omega) ?_; intro v' w1 ho hg)
          go_roundw
          case rel =>
            rw [byR_succ] at ho
            refine ⟨j + 1, HL.out.2.1, by rw [HL.out.2.2], ho, blks_grown (HW.out.ext ((Below.refl _ _).alloc (Nat.le_refl _) _)) hg (fun k hk => by have := (HO.out.lt k hk).1; omega) (fun k hk y hy => ?_)⟩
            simp only [List.mem_singleton] at hy
            subst hy
            have := (HO.out.lt k hk).1
            show w.heap.size ≠ k
            omega
          case measure => simp [intOf]; omega
        · obtain rfl : j = 8 := by omega
          rw [show (7 : Int) - ((8 : Nat) : Int) = -1 from rfl]
          have HL : Hid (i + 1 ≤ 4 ∧ (m : Int) - 1 = 3 - ((i + 1 : Nat) : Int)) := Lib.hid (by have := HM.out; omega)
          go_wp2_with fail
          go_roundw
          case rel => exact ⟨i + 1, HL.out.1, by rw [HL.out.2], HO.out, HW.out⟩
          case measure => simp [intOf]; omega
    · obtain rfl : i = 4 := by omega
      rw [show (3 : Int) - ((4 : Nat) : Int) = -1 from rfl]
      go_wp2_with fail
      go_ret
      exact ⟨_, rfl, HR.out.1, HR.out.2.below⟩
end Go.Proofs.Ytjmckfebnoaheaa
