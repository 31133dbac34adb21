/- Go's own quotient of two words by one, walked to its end. -/
import Derived.Test.YtjmckfebnoaheaaB7
set_option linter.unusedVariables false
namespace Go.Proofs.Ytjmckfebnoaheaa
open Go.RowKit Go.KK Go.Lm

theorem u64_tdiv {u v : Int} (hu : 0 ≤ u) : u.tdiv v = u / v := Int.tdiv_eq_ediv_of_nonneg hu
set_option maxHeartbeats 4000000 in
set_option maxRecDepth 100000 in
theorem div64_big (hi lo y : Int) (hh0 : 0 < hi) (hhy : hi < y) (hl0 : 0 ≤ lo) (hl1 : lo ≤ 18446744073709551615) (hy1 : y ≤ 18446744073709551615) (w : World) :
    Calls Try.prog 45 #[.int .u64 hi, .int .u64 lo, .int .u64 y] w fun e w' => e = .returned (.tuple #[.int .u64 ((hi * 18446744073709551616 + lo) / y), .int .u64 ((hi * 18446744073709551616 + lo) % y)]) ∧ Below w.heap.size w w' := by
  obtain ⟨s, t, v, v1, v0, h1, l1, u, u10, b1, b0, hsl, hst, F⟩ := div64_facts (Int.le_of_lt hh0) hhy hl0 hl1 hy1
  have hlz := fun W => (Try.bits_LeadingZeros64 y W (by omega) hy1).mono fun _ _ h => And.intro h.1 h.2.symm
  rw [hsl] at hlz
  have HLZ := Lib.hid hlz
  have hK := Kn.start (b := b1) F.vv F.v00 F.v01 F.v10 F.v11 F.b10 F.b11 F.u0 F.uv
  have hs63 := F.hs
  have hne : (y == 0) = false := by simp; omega
  have hle : ¬ y ≤ hi := by omega
  have hhn : (hi == 0) = false := by simp; omega
  have ev := F.ev
  have ev1 := F.ev1
  have ev0 := F.ev0
  have eh := F.eh
  have el := F.el
  have eu := F.eu
  have eu10 := F.eu10
  have eb1 := F.eb1
  have eb0 := F.eb0
  have v10 := F.v10
  have v11 := F.v11
  have v00 := F.v00
  have v01 := F.v01
  have b10 := F.b10
  have b11 := F.b11
  have b00 := F.b00
  have b01 := F.b01
  have hvz : ¬ v1 = 0 := by omega
  have eq1 : u.tdiv v1 = u / v1 := u64_tdiv F.u0
  have hv64 : v ≤ 18446744073709551615 := by have := F.vv; omega
  have hu64 : u ≤ 18446744073709551615 := by have := F.uv; omega
  have hu0 := F.u0
  generalize hg : u / v1 = g at *
  have hgle := hK.le
  have hg0 : 0 ≤ g := by have := hK.ge; have := hK.qs; omega
  have em : IntKind.u64.wrap (g * v1) = u - (u - g * v1) := by rw [IntWalk.u64_in _ (by have := hK.rq; have := hK.r0; have := Int.mul_nonneg hg0 (show 0 ≤ v1 by omega); omega)]; omega
  generalize hr : u - g * v1 = r at *
  have hr0 := hK.r0
  have hr1 := hK.r1
  have er : u - (u - r) = r := by omega
  have HF := Lib.hid F
  have HK := Lib.hid hK
  have HG := Lib.hid hg
  have hg1 : g ≤ 18446744073709551615 := by omega
  clear F hK hg hr hsl hlz hgle
  go_enter Try.func45, Try.ntmps45
  go_upto_block 0 with ((go_at_call 48; refine (HLZ.out _).mono ?_; rintro e W' ⟨rfl, rfl⟩))
  go_cut [15] from 67 to 85 (fun q wx => q = .int .u64 ((u * 4294967296 + b1) / v) ∧ wx = w)
  case first =>
    go_wp2_with fail
    go_loop [15, 16] (fun a b => ∃ q r : Int, a = .int .u64 q ∧ b = .int .u64 r ∧ Kn v v1 v0 u b1 q r) (fun a _ => (intOf a).toNat)
    case atStart => exact ⟨_, _, rfl, rfl, HK.out⟩
    case round =>
      obtain ⟨q, r', rfl, rfl, hk⟩ := hrel
      have hqs := hk.qs
      have hge := hk.ge
      have hqle := hk.le
      have hr0' := hk.r0
      have hr1' := hk.r1
      have hq0 : 0 ≤ q := by omega
      clear hqs hge
      have HK' := Lib.hid hk
      clear hk
      by_cases hA : 4294967296 ≤ q
      · have hov := HK'.out.over (.inl hA)
        have hq := HK'.out.qs
        have hq1 : 1 ≤ q := by omega
        clear hov hq
        by_cases hB : r' + v1 ≤ 4294967295
        · have hnx := Lib.hid (HK'.out.next (.inl hA) hB)
          go_wp2_with fail
          go_round
          case rel => exact ⟨_, _, rfl, rfl, hnx.out⟩
          case measure => simp [intOf]; omega
        · have hqt := Lib.hid (HK'.out.quit (.inl hA) (by omega))
          have hB' : 4294967296 ≤ r' + v1 := by omega
          go_wp2_with fail
          go_meet
          exact ⟨by rw [hqt.out], rfl⟩
      · have hpr := HK'.out.prod (by omega)
        have hA' : decide (4294967296 ≤ q) = false := by simp; omega
        obtain ⟨hp0, hp1⟩ := hpr
        by_cases hC : 4294967296 * r' + b1 < q * v0
        · have hov := HK'.out.over (.inr hC)
          have hq := HK'.out.qs
          have hq1 : 1 ≤ q := by omega
          clear hov hq
          by_cases hB : r' + v1 ≤ 4294967295
          · have hnx := Lib.hid (HK'.out.next (.inr hC) hB)
            go_wp2_with fail
            go_round
            case rel => exact ⟨_, _, rfl, rfl, hnx.out⟩
            case measure => simp [intOf]; omega
          · have hqt := Lib.hid (HK'.out.quit (.inr hC) (by omega))
            have hB' : 4294967296 ≤ r' + v1 := by omega
            go_wp2_with fail
            go_meet
            exact ⟨by rw [hqt.out], rfl⟩
        · have hdn := Lib.hid (HK'.out.done (by omega) (by omega))
          have hC' : decide (4294967296 * r' + b1 < q * v0) = false := by simp; omega
          go_wp2_with fail
          go_meet
          exact ⟨by rw [hdn.out], rfl⟩
  case rest =>
    obtain ⟨rfl, rfl⟩ := hcut
    have F := HF.out
    have hvp : 0 < v := HK.out.vp
    have hqs := HK.out.qs
    have hN := Int.mul_ediv_add_emod (u * 4294967296 + b1) v
    have hn0 := Int.emod_nonneg (u * 4294967296 + b1) (show v ≠ 0 by omega)
    have hn1 := Int.emod_lt_of_pos (u * 4294967296 + b1) hvp
    have hK2 := Kn.start (b := b0) F.vv F.v00 F.v01 F.v10 F.v11 F.b00 F.b01 hn0 hn1
    have hT := two_halves (b0 := b0) hvp b1 u rfl
    have hSh := shifted (n := hi * 18446744073709551616 + lo) (y := y) (p := 2 ^ s) (Int.pow_pos (by omega))
    rw [F.nn, ← F.vy] at hSh
    generalize hQ1 : (u * 4294967296 + b1) / v = Q1 at *
    generalize hM1 : (u * 4294967296 + b1) % v = n21 at *
    have hqv : Q1 * v = v * Q1 := Int.mul_comm _ _
    have ex : IntKind.u64.wrap (IntKind.u64.wrap (IntKind.u64.wrap (u * 4294967296) + b1) - IntKind.u64.wrap (Q1 * v)) = n21 := by
      rw [IntKind.wrap_u64, IntKind.wrap_u64, IntKind.wrap_u64, IntKind.wrap_u64]
      omega
    have eq2 : n21.tdiv v1 = n21 / v1 := u64_tdiv hn0
    generalize hg2 : n21 / v1 = g2 at *
    have hgle2 := hK2.le
    have hg20 : 0 ≤ g2 := by have := hK2.ge; have := hK2.qs; omega
    have em2 : IntKind.u64.wrap (g2 * v1) = n21 - (n21 - g2 * v1) := by rw [IntWalk.u64_in _ (by have := hK2.rq; have := hK2.r0; have := Int.mul_nonneg hg20 (show 0 ≤ v1 by omega); omega)]; omega
    generalize hr2 : n21 - g2 * v1 = r2 at *
    have hr20 := hK2.r0
    have hr21 := hK2.r1
    have er2 : n21 - (n21 - r2) = r2 := by omega
    have hg21 : g2 ≤ 18446744073709551615 := by omega
    have hn2 : n21 ≤ 18446744073709551615 := by omega
    obtain ⟨hQ0, hQ9⟩ := hqs
    have HK2 := Lib.hid hK2
    have HT := Lib.hid hT
    have HSH := Lib.hid hSh
    have HQ1 := Lib.hid hQ1
    have HM1 := Lib.hid hM1
    have HN := Lib.hid (And.intro hn0 hn1)
    clear F hN hK2 hT hSh hQ1 hM1 hg2 hr2 hqv hgle2 hn1 hvp
    go_upto_block 2 with (fail)
    go_cut [18] from 102 to 120 (fun q wx => q = .int .u64 ((n21 * 4294967296 + b0) / v) ∧ wx = wc)
    case first =>
      go_wp2_with fail
      go_loop [18, 16] (fun a b => ∃ q r : Int, a = .int .u64 q ∧ b = .int .u64 r ∧ Kn v v1 v0 n21 b0 q r) (fun a _ => (intOf a).toNat)
      case atStart => exact ⟨_, _, rfl, rfl, HK2.out⟩
      case round =>
        obtain ⟨q, r', rfl, rfl, hk⟩ := hrel
        have hqs := hk.qs
        have hge := hk.ge
        have hqle := hk.le
        have hr0' := hk.r0
        have hr1' := hk.r1
        have hq0 : 0 ≤ q := by omega
        clear hqs hge
        have HK' := Lib.hid hk
        clear hk
        by_cases hA : 4294967296 ≤ q
        · have hov := HK'.out.over (.inl hA)
          have hq := HK'.out.qs
          have hq1 : 1 ≤ q := by omega
          clear hov hq
          by_cases hB : r' + v1 ≤ 4294967295
          · have hnx := Lib.hid (HK'.out.next (.inl hA) hB)
            go_wp2_with fail
            go_round
            case rel => exact ⟨_, _, rfl, rfl, hnx.out⟩
            case measure => simp [intOf]; omega
          · have hqt := Lib.hid (HK'.out.quit (.inl hA) (by omega))
            have hB' : 4294967296 ≤ r' + v1 := by omega
            go_wp2_with fail
            go_meet
            exact ⟨by rw [hqt.out], rfl⟩
        · have hpr := HK'.out.prod (by omega)
          have hA' : decide (4294967296 ≤ q) = false := by simp; omega
          obtain ⟨hp0, hp1⟩ := hpr
          by_cases hC : 4294967296 * r' + b0 < q * v0
          · have hov := HK'.out.over (.inr hC)
            have hq := HK'.out.qs
            have hq1 : 1 ≤ q := by omega
            clear hov hq
            by_cases hB : r' + v1 ≤ 4294967295
            · have hnx := Lib.hid (HK'.out.next (.inr hC) hB)
              go_wp2_with fail
              go_round
              case rel => exact ⟨_, _, rfl, rfl, hnx.out⟩
              case measure => simp [intOf]; omega
            · have hqt := Lib.hid (HK'.out.quit (.inr hC) (by omega))
              have hB' : 4294967296 ≤ r' + v1 := by omega
              go_wp2_with fail
              go_meet
              exact ⟨by rw [hqt.out], rfl⟩
          · have hdn := Lib.hid (HK'.out.done (by omega) (by omega))
            have hC' : decide (4294967296 * r' + b0 < q * v0) = false := by simp; omega
            go_wp2_with fail
            go_meet
            exact ⟨by rw [hdn.out], rfl⟩
    case rest =>
      obtain ⟨rfl, rfl⟩ := hcut
      have hqs2 := HK2.out.qs
      have hvp : 0 < v := HK2.out.vp
      have hN2 := Int.mul_ediv_add_emod (n21 * 4294967296 + b0) v
      have hm0 := Int.emod_nonneg (n21 * 4294967296 + b0) (show v ≠ 0 by omega)
      have hm1 := Int.emod_lt_of_pos (n21 * 4294967296 + b0) hvp
      have hT := HT.out
      have hSh := HSH.out
      generalize hQ2 : (n21 * 4294967296 + b0) / v = Q2 at *
      generalize hM2 : (n21 * 4294967296 + b0) % v = m2 at *
      have hqv : Q2 * v = v * Q2 := Int.mul_comm _ _
      have ex2 : IntKind.u64.wrap (IntKind.u64.wrap (IntKind.u64.wrap (n21 * 4294967296) + b0) - IntKind.u64.wrap (Q2 * v)) = m2 := by
        rw [IntKind.wrap_u64, IntKind.wrap_u64, IntKind.wrap_u64, IntKind.wrap_u64]
        omega
      have hp : (0 : Int) < 2 ^ s := Int.pow_pos (by omega)
      have hfin : (hi * 18446744073709551616 + lo) / y = Q1 * 4294967296 + Q2 ∧ (hi * 18446744073709551616 + lo) % y = m2 / 2 ^ s := by
        refine ⟨by rw [← hSh.1, hT.1], ?_⟩
        have := hSh.2
        rw [hT.2] at this
        rw [this, Int.mul_ediv_cancel _ (by omega)]
      obtain ⟨hQ20, hQ29⟩ := hqs2
      have HFIN := Lib.hid hfin
      clear hT hSh hN2 hQ2 hM2 hqv hfin hm1 HT HSH hvp hp
      go_wp2_with fail
      go_ret2
      exact ⟨ret_t2 HFIN.out.1.symm HFIN.out.2.symm, Below.refl _ _⟩
theorem div64_p (hi lo y : Int) (hh0 : 0 ≤ hi) (hhy : hi < y) (hl0 : 0 ≤ lo) (hl1 : lo ≤ 18446744073709551615) (hy1 : y ≤ 18446744073709551615) (w : World) :
    Calls Try.prog 45 #[.int .u64 hi, .int .u64 lo, .int .u64 y] w fun e w' => e = .returned (.tuple #[.int .u64 ((hi * 18446744073709551616 + lo) / y), .int .u64 ((hi * 18446744073709551616 + lo) % y)]) ∧ Below w.heap.size w w' := by
  by_cases h : hi = 0
  · subst h
    have := div64_small lo y hl0 hl1 hhy hy1 w
    rwa [show (0 : Int) * 18446744073709551616 + lo = lo by omega]
  · exact div64_big hi lo y (by omega) hhy hl0 hl1 hy1 w
end Go.Proofs.Ytjmckfebnoaheaa
