/- A number's bytes, as the program lays them. -/
import Derived.Test.YtjmckfebnoaheaaB14
import Derived.Test.YtjmckfebnoaheaaA5
import Derived.Test.YtjmckfebnoaheaaK2
set_option linter.unusedVariables false
namespace Go.Proofs.Ytjmckfebnoaheaa
open Go.RowKit Go.KK Go.Lm

theorem blks_grown {w0 w w' : World} {l : List (Nat × Array Value × TypeId)} (h : Blks w0 l w) {row : Option Nat} (hg : w.grownBy w' row) (hr : ∀ k, row = some k → w0.heap.size ≤ k) (hn : ∀ k, row = some k → ∀ x ∈ l, x.1 ≠ k) : Blks w0 l w' :=
  ⟨below_grown h.below h.below.size hg hr, fun x hx => (hg.block _ (block_lt (h.at_ x hx)) (fun e => hn _ e.symm x hx rfl)).trans (h.at_ x hx), h.ge, h.nd⟩
theorem info5 : (Try.prog.info? 5).map (fun i => (i.zero, i.size, i.bytes)) = some (some (.int .u8 0), 1, 1) := by kernel_rfl
theorem make48 (w : World) : (Instr.makeSlice 48 (.int .i64 0) (.int .i64 32)).run Try.prog w = .ok (.slice (some ⟨w.heap.size, 0, none⟩) 0 32) (w.alloc (.cells (nums .u8 32 fun _ => 0) 5)) := by kernel_rfl
theorem shr_fact (x : Int) {m s k : Nat} (hs : s ≤ 56) (h : 8 * (31 - k) = 64 * m + s) : IntKind.u8.wrap (d64 x m / 2 ^ s) = byI x k := by
  rw [IntKind.wrap_u8]; exact word_byte x hs h
set_option maxRecDepth 100000 in
set_option maxHeartbeats 4000000 in
theorem bytes_p (x : Int) (w : World) :
    Calls Try.prog 36 #[.agg (W x)] w fun e w' => ∃ v, e = .returned v ∧ w'.ownsRow (w.heap.size + 1) 5 1 v 32 (byR x 32).flatten ∧ Below w.heap.size w w' := by
  have H0 : Hid (Blks w [(w.heap.size, W x, 24)] ((w.alloc (.cells (W x) 24)).alloc (.cells (nums .u8 32 fun _ => 0) 5))) := Lib.hid (((Blks.nil w).alloc (W x) 24 rfl).ext ((Below.refl _ _).alloc (Nat.le_refl _) _))
  have HO : Hid (((w.alloc (.cells (W x) 24)).alloc (.cells (nums .u8 32 fun _ => 0) 5)).ownsRow (w.heap.size + 1) 5 1 (.slice (some ⟨w.heap.size + 1, 0, none⟩) 0 32) 0 []) := by
    have h := World.ownsRow_made (w.alloc (.cells (W x) 24)) (base := w.heap.size + 1) (e := 5) (size := 1) (nums .u8 32 fun _ => 0) 32 (by simp) (by decide) (by rw [nums_size])
    rw [show (w.alloc (.cells (W x) 24)).heap.size = w.heap.size + 1 by simp] at h
    exact Lib.hid h
  have hmk := make48 (w.alloc (.cells (W x) 24))
  rw [show (w.alloc (.cells (W x) 24)).heap.size = w.heap.size + 1 by simp] at hmk
  go_enter Try.func36, Try.ntmps36
  go_wp2_with fail
  clear hmk
  go_loopw [3, 7] (fun v h wr => ∃ i : Nat, i ≤ 4 ∧ h = .int .i64 i ∧ wr.ownsRow (w.heap.size + 1) 5 1 v (8 * i) (byR x (8 * i)).flatten ∧ Blks w [(w.heap.size, W x, 24)] wr) (fun _ h _ => 4 - (intOf h).toNat)
  case atStart => exact ⟨0, by omega, rfl, HO.out, H0.out⟩
  case round =>
    obtain ⟨i, hi, rfl, hO, hW⟩ := hrel
    have HR : Hid (wr.ownsRow (w.heap.size + 1) 5 1 _ (8 * i) (byR x (8 * i)).flatten ∧ Blks w [(w.heap.size, W x, 24)] wr) := Lib.hid ⟨hO, hW⟩
    clear HO H0 hO hW
    by_cases hlt : i < 4
    · have hiI : (i : Int) < 4 := by omega
      go_wp2_with fail
      obtain ⟨wo, rfl⟩ : ∃ wo : World, wo = wr := ⟨_, rfl⟩
      go_loopw [3, 10] (fun v h wq => ∃ j : Nat, j ≤ 8 ∧ h = .int .i64 j ∧ wq.ownsRow (w.heap.size + 1) 5 1 v (8 * i + j) (byR x (8 * i + j)).flatten ∧ Blks w [(w.heap.size, W x, 24)] wq) (fun _ h _ => 8 - (intOf h).toNat)
      case atStart => exact ⟨0, by omega, rfl, HR.out.1, HR.out.2⟩
      case round =>
        obtain ⟨j, hj, rfl, hO, hW⟩ := hrel
        have HO := Lib.hid hO
        have HW := Lib.hid hW
        clear hO hW HR
        by_cases hlt2 : j < 8
        · have hjI : (j : Int) < 8 := by omega
          obtain ⟨m, hm⟩ : ∃ m : Nat, 3 - i = m := ⟨_, rfl⟩
          obtain ⟨p, hp⟩ : ∃ p : Nat, 8 * j = p := ⟨_, rfl⟩
          obtain ⟨s, hs⟩ : ∃ s : Nat, 56 - p = s := ⟨_, rfl⟩
          have e1 : (3 : Int) - (i : Int) = (m : Int) := by omega
          have e2 : (8 : Int) * (j : Int) = (p : Int) := by omega
          have e3 : (56 : Int) - (p : Int) = (s : Int) := by omega
          have hmI : (m : Int) < 4 := by omega
          have hs56 : s ≤ 56 := by omega
          have hp56 : p ≤ 56 := by omega
          have hsh := shr_fact x (m := m) (s := s) (k := 8 * i + j) hs56 (by omega)
          have hc : wr.cell? ⟨w.heap.size, m, none⟩ = some (.int .u64 (d64 x m)) := HW.out.num 0 rfl (by omega)
          have HL : Hid (8 * i + j ≤ 31) := Lib.hid (by omega)
          clear hm hp hs
          go_wp2_with (at_builtin; refine wpList_append_row rfl _ _ 48 rfl (w.heap.size + 1) 5 (.int .u8 0) 1 1 tu48 info5 rfl (by decide) _ (8 * i + j) (byR x (8 * i + j)) rfl HO.out [.int .u8 (byI x (8 * i + j))] rfl rfl (by simp [Value.oneCell']) (by have := HL.out; unfold maxLen; omega) (by have := HL.out; omega) (by have := HW.out.lt 0 rfl; omega) ?_; intro v' w1 ho hg)
          go_roundw
          case rel =>
            rw [byR_succ] at ho
            refine ⟨j + 1, by omega, by go_num, ho, blks_grown (HW.out.ext ((Below.refl _ _).alloc (Nat.le_refl _) _)) hg (fun k hk => by have := (HO.out.lt k hk).1; omega) (fun k hk y hy => ?_)⟩
            simp only [List.mem_singleton] at hy
            subst hy
            have := (HO.out.lt k hk).1
            show w.heap.size ≠ k
            omega
          case measure => simp [intOf]; omega
        · obtain rfl : j = 8 := by omega
          go_wp2_with fail
          go_roundw
          case rel => exact ⟨i + 1, by omega, by go_num, HO.out, HW.out⟩
          case measure => simp [intOf]; omega
    · obtain rfl : i = 4 := by omega
      go_wp2_with fail
      go_ret
      exact ⟨_, rfl, HR.out.1, HR.out.2.below⟩
end Go.Proofs.Ytjmckfebnoaheaa
