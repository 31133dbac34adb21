/- Len and Bit, as the program makes them. -/
import Derived.Test.YtjmckfebnoaheaaB12
set_option linter.unusedVariables false
namespace Go.Proofs.Ytjmckfebnoaheaa
open Go.RowKit Go.KK Go.Lm

/-- How many bits a number has. -/
def blen (x : Int) : Nat := if x ≤ 0 then 0 else x.toNat.log2 + 1
theorem blen_zero : blen 0 = 0 := rfl
theorem blen_of {x : Int} {l : Nat} (h0 : (2 : Int) ^ l ≤ x) (h1 : x < 2 ^ (l + 1)) : blen x = l + 1 := by
  have hp : (0 : Int) < 2 ^ l := Int.pow_pos (by omega)
  obtain ⟨n, rfl⟩ := Int.eq_ofNat_of_zero_le (show 0 ≤ x by omega)
  have e0 : ((2 ^ l : Nat) : Int) = 2 ^ l := by rw [Int.natCast_pow]; rfl
  have e1 : ((2 ^ (l + 1) : Nat) : Int) = 2 ^ (l + 1) := by rw [Int.natCast_pow]; rfl
  rw [← e0] at h0 hp
  rw [← e1] at h1
  have hn : n ≠ 0 := by omega
  unfold blen
  rw [if_neg (by omega), Int.toNat_natCast]
  have h2 := (Nat.le_log2 hn (k := l)).2 (by omega)
  have h3 := (Nat.log2_lt hn (k := l + 1)).2 (by omega)
  omega
theorem bitLen_bd {d : Int} (h0 : 0 < d) (h1 : d ≤ 18446744073709551615) : 1 ≤ Lib.bitLen d.toNat ∧ Lib.bitLen d.toNat ≤ 64 ∧ (2 : Int) ^ (Lib.bitLen d.toNat - 1) ≤ d ∧ d < 2 ^ Lib.bitLen d.toNat := by
  obtain ⟨n, rfl⟩ := Int.eq_ofNat_of_zero_le (Int.le_of_lt h0)
  rw [Int.toNat_natCast]
  obtain ⟨h2, h3, h4⟩ := Lib.bitLenAux_bounds 64 n (by omega) (by omega)
  have h5 : Lib.bitLen n ≤ 64 := Lib.bitLen_le n 64 (by omega) (by omega)
  unfold Lib.bitLen at *
  generalize Lib.bitLenAux 64 n = l at *
  refine ⟨h2, h5, ?_, ?_⟩
  · have e0 : ((2 ^ (l - 1) : Nat) : Int) = 2 ^ (l - 1) := by rw [Int.natCast_pow]; rfl
    rw [← e0]; omega
  · have e0 : ((2 ^ l : Nat) : Int) = 2 ^ l := by rw [Int.natCast_pow]; rfl
    rw [← e0]; omega
theorem len_word {x : Int} {k : Nat} (hx : 0 ≤ x) (h : x / B64 ^ (k + 1) = 0) (hd : d64 x k ≠ 0) : (blen x : Int) = 64 * k + (Lib.bitLen (d64 x k).toNat : Int) ∧ Lib.bitLen (d64 x k).toNat ≤ 64 := by
  have hp := pw_pos B64_pos k
  have e := div_word x k
  rw [h] at e
  have h0 := d64_lo x k
  have h1 := d64_hi x k
  obtain ⟨h2, h3, h4, h5⟩ := bitLen_bd (d := d64 x k) (by omega) h1
  have hm := Int.mul_ediv_add_emod x (B64 ^ k)
  have hm0 := Int.emod_nonneg x (show B64 ^ k ≠ 0 by omega)
  have hm1 := Int.emod_lt_of_pos x hp
  generalize hl : Lib.bitLen (d64 x k).toNat = l at *
  obtain ⟨l', rfl⟩ : ∃ l', l = l' + 1 := ⟨l - 1, by omega⟩
  rw [show x / B64 ^ k = d64 x k by omega] at hm
  have e1 : (2 : Int) ^ (64 * k + l') = B64 ^ k * 2 ^ l' := by rw [Int.pow_add, two_pow_B64]
  have e2 : (2 : Int) ^ (64 * k + l' + 1) = B64 ^ k * 2 ^ (l' + 1) := by rw [show 64 * k + l' + 1 = 64 * k + (l' + 1) by omega, Int.pow_add, two_pow_B64]
  have h6 : B64 ^ k * 2 ^ l' ≤ B64 ^ k * d64 x k := Int.mul_le_mul_of_nonneg_left h4 (by omega)
  have h7 : B64 ^ k * (d64 x k + 1) ≤ B64 ^ k * 2 ^ (l' + 1) := Int.mul_le_mul_of_nonneg_left (by omega) (by omega)
  rw [Int.mul_add] at h7
  have := blen_of (x := x) (l := 64 * k + l') (by rw [e1]; omega) (by rw [e2]; omega)
  omega
set_option maxHeartbeats 1000000 in
theorem len_p {x : Int} (hx0 : 0 ≤ x) (hx1 : x < R256) (w : World) :
    Calls Try.prog 23 #[.agg (W x)] w fun e w' => e = .returned (.int .i64 (blen x)) ∧ Below w.heap.size w w' := by
  have HT : Hid (x / B64 ^ 4 = 0) := Lib.hid (top_zero hx0 hx1)
  have HX := Lib.hid hx0
  clear hx0 hx1
  go_enter Try.func23, Try.ntmps23
  go_wp2_with fail
  go_loopw [3, 4, 5] (fun _ _ h wr => ∃ j : Nat, j ≤ 4 ∧ h = .int .i64 j ∧ x / B64 ^ (4 - j) = 0 ∧ Blks w [(w.heap.size, W x, 24)] wr) (fun _ _ h _ => 4 - (intOf h).toNat)
  case atStart => exact ⟨0, by omega, rfl, HT.out, (Blks.nil w).alloc (W x) 24 rfl⟩
  case round =>
    obtain ⟨j, hj, rfl, hxy, HW⟩ := hrel
    by_cases hlt : j < 4
    · obtain ⟨k, hk⟩ : ∃ k : Nat, 3 = j + k := ⟨3 - j, by omega⟩
      rw [show 4 - j = k + 1 by omega] at hxy
      have HXY := Lib.hid hxy
      have hca : wr.cell? ⟨w.heap.size, k, none⟩ = some (.int .u64 (d64 x k)) := HW.num 0 rfl (by omega)
      have HWH := Lib.hid HW
      have hkI : (k : Int) < 4 := by omega
      have e1 : (3 : Int) - (j : Int) = (k : Int) := by omega
      have hj3 : (j : Int) ≤ 3 := by omega
      have hd0 := d64_lo x k
      have hd1 := d64_hi x k
      have HK := Lib.hid hk
      clear HW hxy hk
      by_cases h1 : d64 x k = 0
      · have h1' : (d64 x k != 0) = false := by simp [h1]
        have HL := Lib.hid ((div_word x k).trans (by rw [HXY.out, h1]))
        clear h1
        go_wp2_with fail
        go_roundw
        case rel => exact ⟨j + 1, by omega, by go_num, by rw [show 4 - (j + 1) = k by have := HK.out; omega]; exact HL.out, HWH.out⟩
        case measure => simp [intOf]; omega
      · have h1' : (d64 x k != 0) = true := by simp [h1]
        have hl := len_word HX.out HXY.out h1
        have HC := Lib.hid (fun W' => (Try.bits_Len64 (d64 x k) W' hd0 hd1).mono fun _ _ h => And.intro h.1 h.2.symm)
        obtain ⟨hl1, hl2⟩ := hl
        have HL := Lib.hid hl1
        generalize Lib.bitLen (d64 x k).toNat = l at *
        clear h1 hl1
        go_wp2_with (go_at_call 47; refine (HC.out _).mono ?_; rintro _ W' ⟨rfl, rfl⟩)
        go_ret
        exact ⟨ret_i HL.out.symm, HWH.out.below⟩
    · obtain rfl : j = 4 := by omega
      have hE : x = 0 := by simpa using hxy
      subst hE
      clear hxy
      go_wp2_with fail
      go_ret
      exact ⟨rfl, HW.below⟩
/-- The bit n, 0 outside. -/
def bitI (x n : Int) : Int := if n < 0 ∨ 255 < n then 0 else x / 2 ^ n.toNat % 2
set_option maxHeartbeats 1000000 in
theorem bit_no (x n : Int) (hn : n < 0 ∨ 255 < n) (w : World) :
    Calls Try.prog 25 #[.agg (W x), .int .i64 n] w fun e w' => e = .returned (.int .i64 (bitI x n)) ∧ Below w.heap.size w w' := by
  have hb : bitI x n = 0 := by unfold bitI; rw [if_pos hn]
  rw [hb]
  have H0 := Lib.hid ((Blks.nil w).alloc (W x) 24 rfl)
  by_cases h : n < 0
  · have h' : decide (n < 0) = true := by simpa using h
    clear hn hb
    go_enter Try.func25, Try.ntmps25
    go_wp2_with fail
    go_ret
    exact ⟨rfl, H0.out.below⟩
  · have h' : decide (n < 0) = false := by simpa using h
    have h2 : 255 < n := by omega
    have h2' : decide (255 < n) = true := by simpa using h2
    clear hn hb
    go_enter Try.func25, Try.ntmps25
    go_wp2_with fail
    go_ret
    exact ⟨rfl, H0.out.below⟩
set_option maxHeartbeats 1000000 in
theorem bit_yes (x n : Int) (h0 : 0 ≤ n) (h1 : n ≤ 255) (w : World) :
    Calls Try.prog 25 #[.agg (W x), .int .i64 n] w fun e w' => e = .returned (.int .i64 (bitI x n)) ∧ Below w.heap.size w w' := by
  obtain ⟨e, rfl⟩ := Int.eq_ofNat_of_zero_le h0
  have hbt := bit_digit x e
  have hb : bitI x e = d64 x (e / 64) / 2 ^ (e % 64) % 2 := by unfold bitI; rw [if_neg (by omega), hbt, Int.toNat_natCast]
  have H0 := Lib.hid ((Blks.nil w).alloc (W x) 24 rfl)
  have hd0 := d64_lo x (e / 64)
  have hd1 := d64_hi x (e / 64)
  have hz0 : 0 ≤ d64 x (e / 64) / 2 ^ (e % 64) := Int.ediv_nonneg hd0 (Int.le_of_lt (Int.pow_pos (by omega)))
  have hz1 := Int.ediv_le_self (2 ^ (e % 64)) hd0
  have h5 := i64_and63 (x := (e : Int)) h0 (by omega)
  have h6 := u64_and1 hz0 (by omega)
  generalize hq : e / 64 = q at *
  generalize hr : e % 64 = r at *
  have e2 : (e : Int) / 64 = (q : Int) := by omega
  have e3 : bits .and .i64 (e : Int) 63 = (r : Int) := by rw [h5]; omega
  have hqI : (q : Int) < 4 := by omega
  have hr64 : r ≤ 64 := by omega
  have hr63 : (r : Int) ≤ 63 := by omega
  have hca : (w.alloc (.cells (W x) 24)).cell? ⟨w.heap.size, q, none⟩ = some (.int .u64 (d64 x q)) := H0.out.num 0 rfl (by omega)
  generalize hz : d64 x q / 2 ^ r = z at *
  have hzz : z ≤ 18446744073709551615 := by omega
  have hm0 : 0 ≤ z % 2 := by omega
  have hm1 : z % 2 ≤ 1 := by omega
  have hn0 : decide ((e : Int) < 0) = false := by simp
  have hn1 : decide (255 < (e : Int)) = false := by simp; omega
  have HB := Lib.hid hb
  clear hbt hb h5 hq hr
  generalize z % 2 = b at *
  go_enter Try.func25, Try.ntmps25
  go_wp2_with fail
  go_ret
  exact ⟨ret_i HB.out.symm, H0.out.below⟩
theorem bit_p (x n : Int) (w : World) : Calls Try.prog 25 #[.agg (W x), .int .i64 n] w fun e w' => e = .returned (.int .i64 (bitI x n)) ∧ Below w.heap.size w w' := by
  by_cases h : n < 0 ∨ 255 < n
  · exact bit_no x n h w
  · exact bit_yes x n (by omega) (by omega) w
end Go.Proofs.Ytjmckfebnoaheaa
