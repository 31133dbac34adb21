/- The page's Len, walked. -/
import Derived.Test.YtjmckfebnoaheaaE2
set_option linter.unusedVariables false
namespace Go.Proofs.Ytjmckfebnoaheaa
open Go.RowKit Go.KK Go.Lm

theorem top_one {x : Int} {e : Nat} (h : x / 2 ^ e = 1) : (blen x : Int) = (e : Int) + 1 := by
  have hp : (0 : Int) < 2 ^ e := Int.pow_pos (by omega)
  have h1 := Int.mul_ediv_add_emod x (2 ^ e)
  have h2 := Int.emod_nonneg x (show (2 : Int) ^ e ≠ 0 by omega)
  have h3 := Int.emod_lt_of_pos x hp
  rw [h] at h1
  rw [blen_of (l := e) (by omega) (by rw [Int.pow_succ]; omega)]
  omega
theorem bit_case (x : Int) (e : Nat) (h : x / 2 ^ (e + 1) = 0) : x / 2 ^ e = x / 2 ^ e % 2 := by
  have := half_step x e
  rw [h] at this; omega
set_option maxRecDepth 100000 in
set_option maxHeartbeats 4000000 in
theorem rlen_p {x : Int} (hx0 : 0 ≤ x) (hx1 : x < R256) (w : World) :
    Calls Try.prog 24 #[.agg (W x)] w fun e w' => e = .returned (.int .i64 (blen x)) ∧ Below w.heap.size w w' := by
  have hz256 : x / 2 ^ 256 = 0 := Int.ediv_eq_zero_of_lt hx0 (by have := R256_lit; omega)
  have H0 := Lib.hid ((Blks.nil w).alloc (W x) 24 rfl)
  have HZ := Lib.hid hz256
  clear hx0 hx1 hz256
  go_enter Try.func24, Try.ntmps24
  go_wp2_with fail
  go_loopw [3] (fun i wr => ∃ m : Nat, m ≤ 256 ∧ i = .int .i64 ((m : Int) - 1) ∧ x / 2 ^ m = 0 ∧ Blks w [(w.heap.size, W x, 24)] wr) (fun i _ => (1 + intOf i).toNat)
  case atStart => exact ⟨256, by omega, rfl, HZ.out, H0.out⟩
  case round =>
    obtain ⟨m, hm, rfl, hxm, HW⟩ := hrel
    clear H0
    cases m with
    | zero =>
      rw [show ((0 : Nat) : Int) - 1 = -1 from rfl]
      have hx : x = 0 := by simpa using hxm
      have hb : (blen x : Int) = 0 := by rw [hx]; rfl
      have HWH := Lib.hid HW
      have HBL := Lib.hid hb
      clear HW hx hxm hb
      go_wp2_with fail
      go_ret
      exact ⟨by rw [HBL.out]; rfl, HWH.out.below⟩
    | succ e =>
      rw [show ((e + 1 : Nat) : Int) - 1 = (e : Int) by omega]
      have he : e ≤ 255 := by omega
      have hc := bit_case x e hxm
      have hbi : bitI x e = x / 2 ^ e := by rw [bitI_in x he, ← hc]
      have HB := Lib.hid (fun W' => rbit_p x e W')
      rw [hbi] at HB
      have HWH := Lib.hid HW
      have heI : (e : Int) ≤ 255 := by omega
      have h01 : x / 2 ^ e = 0 ∨ x / 2 ^ e = 1 := by omega
      clear HW hxm hbi hc
      rcases h01 with h | h
      · rw [h] at HB
        have HX := Lib.hid h
        clear h
        go_wp2_with (first
          | ((with_reducible refine g_load 24 ?_); refine wpList_blks_load HWH.out 0 _ _ 24 rfl rfl (.tmp 1) rfl rfl tu24 rfl ts24 ?_)
          | (go_at_call 26; refine (HB.out _).mono ?_; rintro _ V ⟨rfl, hV⟩))
        go_roundw
        case rel => exact ⟨e, by omega, rfl, HX.out, HWH.out.ext hV⟩
        case measure => simp [intOf]; omega
      · rw [h] at HB
        have hbl := top_one h
        have HBL := Lib.hid hbl
        clear h hbl
        go_wp2_with (first
          | ((with_reducible refine g_load 24 ?_); refine wpList_blks_load HWH.out 0 _ _ 24 rfl rfl (.tmp 1) rfl rfl tu24 rfl ts24 ?_)
          | (go_at_call 26; refine (HB.out _).mono ?_; rintro _ V ⟨rfl, hV⟩))
        go_ret
        exact ⟨by rw [HBL.out]; rfl, (HWH.out.ext hV).below⟩
end Go.Proofs.Ytjmckfebnoaheaa
