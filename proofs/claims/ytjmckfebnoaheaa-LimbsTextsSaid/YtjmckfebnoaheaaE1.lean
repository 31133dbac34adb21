/- The page's put: a bit more; walked. -/
import Derived.Test.YtjmckfebnoaheaaE0
import Derived.Laws.Bits64b
set_option linter.unusedVariables false
namespace Go.Proofs.Ytjmckfebnoaheaa
open Go.RowKit Go.KK Go.Lm

theorem nat_or_bit (d r : Nat) (h : d / 2 ^ r % 2 = 0) : d ||| 2 ^ r = d + 2 ^ r := by
  have hp : 0 < 2 ^ r := Nat.two_pow_pos r
  have e1 := Nat.div_add_mod d (2 ^ r)
  have e2 := Nat.div_add_mod (d / 2 ^ r) 2
  have hl := Nat.mod_lt d hp
  have e3 : d = 2 ^ (r + 1) * (d / 2 ^ r / 2) + d % 2 ^ r := by
    have h3 : 2 ^ r * (d / 2 ^ r) = 2 ^ r * (2 * (d / 2 ^ r / 2)) := by congr 1; omega
    rw [Nat.pow_succ, Nat.mul_assoc, ← h3]; omega
  have hl2 : d % 2 ^ r < 2 ^ (r + 1) := by rw [Nat.pow_succ]; omega
  have hl3 : 2 ^ r + d % 2 ^ r < 2 ^ (r + 1) := by rw [Nat.pow_succ]; omega
  generalize d / 2 ^ r / 2 = h' at *
  generalize d % 2 ^ r = l at *
  rw [e3, Nat.two_pow_add_eq_or_of_lt hl2, Nat.or_assoc, Nat.or_comm l, show 2 ^ r ||| l = 2 ^ r + l by
    have := Nat.two_pow_add_eq_or_of_lt (i := r) hl 1
    rw [Nat.mul_one] at this; exact this.symm, ← Nat.two_pow_add_eq_or_of_lt hl3, ← Nat.two_pow_add_eq_or_of_lt hl2]
  omega
theorem u64_or_bit {d : Int} {r : Nat} (h0 : 0 ≤ d) (h1 : d ≤ 18446744073709551615) (hr : r ≤ 63) (h : d / 2 ^ r % 2 = 0) : bits .or .u64 d (2 ^ r) = d + 2 ^ r := by
  obtain ⟨n, rfl⟩ := Int.eq_ofNat_of_zero_le h0
  have e : ((2 ^ r : Nat) : Int) = 2 ^ r := by rw [Int.natCast_pow]; rfl
  have hp : 2 ^ r ≤ 2 ^ 63 := Nat.pow_le_pow_right (by omega) hr
  have h' : n / 2 ^ r % 2 = 0 := by
    have : ((n / 2 ^ r % 2 : Nat) : Int) = 0 := by rw [Int.natCast_emod, Int.natCast_ediv, e]; exact h
    omega
  rw [← e, bits_or_u64_nat n (2 ^ r) (by omega) (by omega), nat_or_bit n r h']
  omega
/-- No bit there, so no carry. -/
theorem bit_room {d : Int} {r : Nat} (h0 : 0 ≤ d) (h1 : d ≤ 18446744073709551615) (hr : r ≤ 63) (h : d / 2 ^ r % 2 = 0) : d + 2 ^ r ≤ 18446744073709551615 := by
  have hp : (0 : Int) < 2 ^ r := Int.pow_pos (by omega)
  have e1 := Int.mul_ediv_add_emod d (2 ^ r)
  have hl := Int.emod_lt_of_pos d hp
  have hpp : (2 : Int) ^ r * 2 ^ (64 - r) = 18446744073709551616 := by rw [← Int.pow_add, show r + (64 - r) = 64 by omega]; rfl
  have hq : d / 2 ^ r < 2 ^ (64 - r) := Int.ediv_lt_of_lt_mul hp (by rw [Int.mul_comm]; omega)
  have he : (2 : Int) ^ (64 - r) = 2 * 2 ^ (63 - r) := by rw [show 64 - r = 63 - r + 1 by omega, Int.pow_succ]; omega
  have h3 : 2 ^ r * (d / 2 ^ r + 1) ≤ 2 ^ r * (2 ^ (64 - r) - 1) := Int.mul_le_mul_of_nonneg_left (by omega) (by omega)
  rw [Int.mul_add, Int.mul_sub, hpp] at h3
  omega
theorem d64_pow (i k : Nat) : d64 (2 ^ i) k = if k = i / 64 then 2 ^ (i % 64) else 0 := by
  have hp : (0 : Int) < 2 ^ (i % 64) := Int.pow_pos (by omega)
  have hlt : (2 : Int) ^ (i % 64) < B64 := by
    have h1 : (2 : Int) ^ (i % 64) ≤ 2 ^ 63 := by
      have := Nat.pow_le_pow_right (n := 2) (by omega) (show i % 64 ≤ 63 by omega)
      have e : ((2 ^ (i % 64) : Nat) : Int) = 2 ^ (i % 64) := by rw [Int.natCast_pow]; rfl
      rw [← e]; omega
    unfold B64; omega
  have e : (2 : Int) ^ i = 2 ^ (i % 64) * B64 ^ (i / 64) := by rw [← two_pow_B64, ← Int.pow_add, show i % 64 + 64 * (i / 64) = i by omega]
  rw [e]
  by_cases h1 : k < i / 64
  · rw [if_neg (by omega)]; exact dg_mul_pow_lo B64_pos _ h1
  · obtain ⟨m, rfl⟩ : ∃ m, k = i / 64 + m := ⟨k - i / 64, by omega⟩
    refine (dg_mul_pow_hi B64_pos _ _ m).trans ?_
    by_cases h2 : m = 0
    · subst h2
      rw [if_pos (by omega)]
      unfold dg
      simp only [Int.pow_zero, Int.ediv_one]
      exact Int.emod_eq_of_lt (by omega) hlt
    · rw [if_neg (by omega)]
      exact d64_over (j := 1) (by omega) (by rw [Int.pow_succ, Int.pow_zero]; omega) (by omega)
theorem put_digit {a : Int} {i : Nat} (h : a / 2 ^ i % 2 = 0) (k : Nat) : d64 (a + 2 ^ i) k = if k = i / 64 then d64 a k + 2 ^ (i % 64) else d64 a k := by
  have hr : i % 64 ≤ 63 := by omega
  have hc : ∀ k, c64 a (2 ^ i) k = 0 := by
    intro k
    induction k with
    | zero => exact c64_zero _ _
    | succ k ih =>
      rw [c64_succ, ih, d64_pow]
      have h0 := d64_lo a k
      have h1 := d64_hi a k
      split
      · rename_i hk
        have hb := bit_digit a i
        rw [h, ← hk] at hb
        have hm := bit_room h0 h1 hr hb
        have hp : (0 : Int) < 2 ^ (i % 64) := Int.pow_pos (by omega)
        omega
      · omega
  rw [d64_add, hc, d64_pow]
  have h0 := d64_lo a k
  have h1 := d64_hi a k
  split
  · rename_i hk
    have hb := bit_digit a i
    rw [h, ← hk] at hb
    have hm := bit_room h0 h1 hr hb
    have hp : (0 : Int) < 2 ^ (i % 64) := Int.pow_pos (by omega)
    omega
  · omega
theorem put_set {a : Int} {i : Nat} (h : a / 2 ^ i % 2 = 0) : (W a).setIfInBounds (i / 64) (.int .u64 (d64 a (i / 64) + 2 ^ (i % 64))) = W (a + 2 ^ i) := by
  unfold W
  rw [nums_set]
  refine nums_congr _ fun k _ => ?_
  rw [put_digit h k]
  by_cases hk : k = i / 64
  · subst hk; simp
  · simp [hk]
set_option maxHeartbeats 1000000 in
theorem put_p {a : Int} (i : Nat) (hi : i < 256) (h : a / 2 ^ i % 2 = 0) (w : World) :
    Calls Try.prog 46 #[.agg (W a), .int .i64 i] w fun e w' => e = .returned (.agg (W (a + 2 ^ i))) ∧ Below w.heap.size w w' := by
  have H0 := Lib.hid (((Blks.nil w).alloc (W a) 24 rfl).alloc Z4 24 (b := w.heap.size + 1) (by simp))
  obtain ⟨e2, e3, e4, e5⟩ := bit_place i
  have hq4 : i / 64 < 4 := by omega
  have hr63 : i % 64 ≤ 63 := by omega
  have hbt := bit_digit a i
  rw [h] at hbt
  have hset := put_set h
  have hd0 := d64_lo a (i / 64)
  have hd1 := d64_hi a (i / 64)
  have hor := u64_or_bit hd0 hd1 hr63 hbt
  generalize i / 64 = q at *
  generalize i % 64 = r at *
  have hp1 : (2 : Int) ^ r ≤ 2 ^ 63 := by
    have := Nat.pow_le_pow_right (n := 2) (by omega) hr63
    have e : ((2 ^ r : Nat) : Int) = 2 ^ r := by rw [Int.natCast_pow]; rfl
    rw [← e]; omega
  have hp0 : (0 : Int) < 2 ^ r := Int.pow_pos (by omega)
  have hw : IntKind.u64.wrap (2 ^ r) = 2 ^ r := IntWalk.u64_in _ (by omega)
  have hw1 : IntKind.u64.wrap (1 * 2 ^ r) = 2 ^ r := by rw [Int.one_mul]; exact hw
  have hwq : IntKind.i64.wrap (q : Int) = q := IntWalk.i64_in _ (by omega)
  have hwr : IntKind.i64.wrap (r : Int) = r := IntWalk.i64_in _ (by omega)
  have hqI : (q : Int) < 4 := by omega
  have hr64 : r ≤ 64 := by omega
  have hca : ∀ e : ExtOf ((w.alloc (.cells (W a) 24)).alloc (.cells Z4 24)), e.wd.cell? ⟨w.heap.size, q, none⟩ = some (.int .u64 (d64 a q)) := fun e => (H0.out.ext e.below).num 0 rfl hq4
  have HCA := Lib.hid hca
  have HSET := Lib.hid hset
  clear hbt hset hca
  go_enter Try.func46, Try.ntmps46
  go_wp2_with fail
  change Code.wp _ _ _ _ ((w.alloc (.cells (W a) 24)).alloc (.cells Z4 24))
  have H1 := H0.out
  have hca := HCA.out
  generalize (w.alloc (.cells (W a) 24)).alloc (.cells Z4 24) = V at *
  refine wp_region_ext_tail 11 (by kernel_rfl) (by kernel_rfl) ?_
  simp only [List.take_succ_cons, List.take_zero, List.drop_succ_cons, List.drop_zero]
  iterate 11 (quiet_step (fail))
  refine wpQuiet_nil ?_
  rintro _ ⟨e, rfl⟩
  have HE := H1.ext e.below
  have hcs : e.wd.cell? ⟨w.heap.size, q, none⟩ = some (.int .u64 (d64 a q)) := hca e
  have hfz := HE.frozen 0 rfl q
  have HS := Lib.hid (HE.set 0 rfl q (.int .u64 (d64 a q + 2 ^ r)) (c' := W (a + 2 ^ i)) HSET.out)
  clear HE hca H1 e2 e3 e4 e5 hw hw1 hwq hwr hor
  go_upto_region 2 with (fail)
  have HS1 := HS.out
  generalize e.wd.setCell ⟨w.heap.size, q, none⟩ (.int .u64 (d64 a q + 2 ^ r)) = V1 at *
  clear HS hcs hfz
  go_wp2_with (first
    | ((with_reducible refine g_load 24 ?_); refine wpList_blks_load HS1 0 _ _ 24 rfl rfl (.tmp 2) rfl rfl tu24 rfl ts24 ?_)
    | ((with_reducible refine g_store 24 ?_); refine wpList_blks_store HS1 1 _ _ 24 rfl rfl _ _ rfl rfl (W (a + 2 ^ i)) rfl rfl ts24 (W_one _) ?_; intro w3 HW3))
  exact bodyPost_ret (results_cell_row rfl _ _ (w.heap.size + 1) 24 (W (a + 2 ^ i)) (0, 0) _ rfl (HW3.get 1 rfl) tu24 rfl ts24) rfl ⟨rfl, HW3.below⟩
end Go.Proofs.Ytjmckfebnoaheaa
