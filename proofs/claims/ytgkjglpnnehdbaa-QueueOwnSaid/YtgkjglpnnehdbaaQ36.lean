/- QueueOwn, walked. -/
import Derived.Test.YtgkjglpnnehdbaaQ35
import Derived.Test.YtgkjglpnnehdbaaQ29
import Derived.Test.YtgkjglpnnehdbaaQ14
import Derived.Test.YtgkjglpnnehdbaaK9
set_option linter.unusedVariables false
namespace Go.Proofs.Ytgkjglpnnehdbaa
open Go.RowKit Go.KK

theorem build73z (w : World) : (Instr.build 73 #[]).run Try.prog w = .ok (.agg z73) w := by
  have hz := zero73
  simp [go_sem, hz]
theorem build46z (w : World) : (Instr.build 46 #[]).run Try.prog w = .ok (.agg z46.toArray) w := by kernel_rfl
/-- A row of the call's own that may be written. -/
def OwnW (v : Value) (n : Nat) (w : World) : Prop := ∀ A cap, v = .slice A n cap → 0 < n → ∃ g cur, A = some ⟨g, 0, none⟩ ∧ w.heap[g]? = some (.cells cur 46 (0, 0)) ∧ n * 28 ≤ cur.size
theorem own_w {w : World} {base : Nat} {v : Value} {n : Nat} {xs : List Value} (h : w.ownsRow base 46 28 v n xs) : OwnW v n w := by
  intro A cap hv hn
  rcases h.2 with ⟨hv0, h0⟩ | ⟨g, cap', cur, hv', hb, hg, hn', hm, hc, ht⟩
  · omega
  · rw [hv] at hv'
    have hA : A = some ⟨g, 0, none⟩ := by injection hv'
    exact ⟨g, cur, hA, hg, by rw [hc]; exact Nat.mul_le_mul_right _ hn'⟩
set_option maxRecDepth 100000 in
set_option maxHeartbeats 4000000 in
theorem QueueOwn_walk (tk : Int) (l : List StepD) (v : Value) (w : World) (hv : StepsAt w v l) :
    Calls Try.prog 8 #[.int .u64 tk, v] w fun e w' => e = .returned (.bool true) ∧ Below w.heap.size w w' := by
  have HV : Hid (∀ W, Below w.heap.size w W → StepsAt W v l) := Lib.hid fun W hb => hv.below hb
  have hnn := ne_nil
  clear hv
  by_cases ht : tk < 1 ∨ 4294967296 < tk
  · have HT := Lib.hid ht
    clear ht
    go_enter Try.func8, Try.ntmps8
    go_wp2_with fail
    refine (works_q _).mono ?_
    rintro _ w1 ⟨rfl, hb1⟩
    go_wp2_with fail
    refine (nothing_p (unmade_nil _)).mono ?_
    rintro _ w2 ⟨rfl, hb2⟩
    go_wp2_with (first
      | ((with_reducible refine g_build 73 ?_); refine wpList_buildNg rfl 73 #[] #[] rfl (by simp) _ (build73z _) ?_)
      | ((with_reducible refine g_box 73 ?_); refine wpList_boxg rfl 73 _ rfl z73 rfl ?_; have U2 := Lib.hid (unmade_zero (block_new w2 (.cells z73 73))); generalize z73 = Z at *)
      | (go_at_call 29; refine (nothing_p U2.out).mono ?_; rintro _ w3 ⟨rfl, hb3⟩)
      | (go_at_call 12; refine (laid_no tk _ w3 HT.out).mono ?_; rintro _ w4 ⟨rfl, rfl⟩))
    have hb3' := below_all (((Below.refl w2.heap.size w2).alloc (Nat.le_refl _) (.cells Z 73))) hb3
    go_ret
    exact ⟨rfl, below_all hb1 (below_all hb2 hb3')⟩
  · have ht0 : 1 ≤ tk := by omega
    have ht1 : tk ≤ 4294967296 := by omega
    clear ht
    go_enter Try.func8, Try.ntmps8
    go_wp2_with fail
    refine (works_q _).mono ?_
    rintro _ w1 ⟨rfl, hb1⟩
    go_wp2_with fail
    refine (nothing_p (unmade_nil _)).mono ?_
    rintro _ w2 ⟨rfl, hb2⟩
    go_wp2_with (first
      | ((with_reducible refine g_build 73 ?_); refine wpList_buildNg rfl 73 #[] #[] rfl (by simp) _ (build73z _) ?_)
      | ((with_reducible refine g_box 73 ?_); refine wpList_boxg rfl 73 _ rfl z73 rfl ?_; have U2 := Lib.hid (unmade_zero (block_new w2 (.cells z73 73))); generalize z73 = Z at *)
      | (go_at_call 29; refine (nothing_p U2.out).mono ?_; rintro _ w3 ⟨rfl, hb3⟩))
    have hb3' := below_all (((Below.refl w2.heap.size w2).alloc (Nat.le_refl _) (.cells Z 73))) hb3
    have hB0 := below_all hb1 (below_all hb2 hb3')
    clear hb3 hb3' U2
    refine (laid_ok tk l _ w3 ht0 ht1 (HV.out _ hB0)).mono ?_
    rintro e w4 ⟨rfl, hq4, hb4⟩
    have hB4 := below_all hB0 hb4
    generalize (laidL l).1 = L at *
    generalize (laidL l).2 = put at *
    have HQ4 := Lib.hid hq4
    have HB4 := Lib.hid hB4
    have hlt4 : w3.heap.size < w4.heap.size := hq4.lt
    have hBs : w.heap.size ≤ w3.heap.size := hB0.size
    have hlen := hq4.len
    generalize w3.heap.size = b at *
    clear hq4 hB4 hb4 hB0 hb1 hb2
    go_wp2_with fail
    refine (entries_q HQ4.out).mono ?_
    rintro e w5 ⟨av, rfl, hown5, hb5⟩
    have HQ5 := Lib.hid (HQ4.out.below hb5)
    have HB5 := Lib.hid (below_all HB4.out hb5)
    obtain ⟨A, cap, hav, _, hrows⟩ := own_sl hown5 (entRows_length L) (entRows_all L)
    rw [entRows_length] at hav
    subst hav
    have HRW := Lib.hid hrows
    clear hrows hown5 hb5
    go_wp2_with fail
    refine (entries_q HQ5.out).mono ?_
    rintro e w6 ⟨bv, rfl, hown6, hb6⟩
    have HQ6 := Lib.hid (HQ5.out.below hb6)
    have HB6 := Lib.hid (below_all HB5.out hb6)
    have hw6 := own_w hown6
    have hge6 : ∀ k, bv.ownBlock = some k → w5.heap.size ≤ k := fun k hk => (own_block hown6 hk).1
    obtain ⟨A6, cap6, hbv, _, _⟩ := own_sl hown6 (entRows_length L) (entRows_all L)
    rw [entRows_length] at hbv
    subst hbv
    have HW6 := Lib.hid hw6
    have HG6 := Lib.hid hge6
    have HB56 := Lib.hid hb6
    clear hown6 hb6 hw6 hge6
    go_wp2_with fail
    go_loopw [9] (fun i wr => ∃ k : Nat, k ≤ L.length ∧ i = .int .i64 k ∧ Below w5.heap.size w5 wr ∧ OwnW (.slice A6 L.length cap6) L.length wr) (fun i _ => L.length - (intOf i).toNat)
    case atStart => exact ⟨0, by omega, rfl, HB56.out, HW6.out⟩
    case round =>
      obtain ⟨k, hk, rfl, hB, hw⟩ := hrel
      by_cases hlt : k < L.length
      · obtain ⟨g, cur, rfl, hg, hcur⟩ := hw _ _ rfl (by omega)
        have hgg : w5.heap.size ≤ g := HG6.out g rfl
        have hth : wr.there g (k * 28) (z46.toArray).size := there_block hg _ _ (by
          have h2 : (k + 1) * 28 ≤ L.length * 28 := Nat.mul_le_mul_right _ (by omega)
          rw [show z46.toArray.size = 28 from rfl]; omega)
        have hset := setCells_block (o := k * 28) hg z46 (by
          have h2 : (k + 1) * 28 ≤ L.length * 28 := Nat.mul_le_mul_right _ (by omega)
          rw [show z46.length = 28 from rfl]; omega)
        have hgr := setCells_grown (w := wr) (b := g) z46 (k * 28)
        have HTH := Lib.hid hth
        have HSET : Hid (OwnW (.slice (some ⟨g, 0, none⟩) L.length cap6) L.length (wr.setCells g (k * 28) z46)) := Lib.hid fun A' cap' hv' _ => by
          obtain ⟨rfl, _, rfl⟩ := Value.slice.inj hv'
          refine ⟨g, _, rfl, hset, ?_⟩
          rw [List.size_toArray, splice_length _ _ _ (by
            have h2 : (k + 1) * 28 ≤ L.length * 28 := Nat.mul_le_mul_right _ (by omega)
            rw [show z46.length = 28 from rfl]; simp; omega)]
          simpa using hcur
        have HBB := Lib.hid (below_grown hB hB.size hgr (by rintro _ ⟨rfl⟩; exact hgg))
        clear hw hg hcur hth hset hgr hB
        go_wp2_with (first
          | ((with_reducible refine g_build 46 ?_); refine wpList_build0 rfl 46 rfl _ (build46z _) ?_)
          | ((with_reducible refine g_store 46 ?_); refine wpList_store_mid rfl 46 _ _ rfl g (k * 28) z46.toArray rfl rfl HTH.out ts46 (all_oneCell_toArray z46_one) ?_))
        go_roundw
        case rel => exact ⟨k + 1, by omega, by go_num, HBB.out, HSET.out⟩
        case measure => simp [intOf]; omega
      · have HQr := Lib.hid (HQ5.out.below hB)
        have HBr := Lib.hid (below_all HB5.out hB)
        have HB5r := Lib.hid hB
        clear hw hB
        go_wp2_with fail
        refine (copy_q HQr.out).mono ?_
        rintro e w7 ⟨b', rfl, hb', hb7, hq7⟩
        have HQ7 := Lib.hid (HQr.out.below hb7)
        have HC7 := Lib.hid hq7
        have HB7 := Lib.hid (below_all HB5r.out hb7)
        have HBa7 := Lib.hid (below_all HBr.out hb7)
        have hwr : w5.heap.size ≤ wr.heap.size := HB5r.out.size
        clear hq7 hb7
        go_wp2_with fail
        refine (clear_q HC7.out).mono ?_
        rintro e w8 ⟨cv, rfl, _, hg8, _⟩
        have hb5lt : b < w5.heap.size := HQ5.out.lt
        have HQ8 := Lib.hid (HQ7.out.grown hg8 (fun e => by have := Option.some.inj e; omega))
        have HB8 := Lib.hid (below_grown HB7.out HB7.out.size hg8 (by rintro _ ⟨rfl⟩; omega))
        have HBa8 := Lib.hid (below_grown HBa7.out HBa7.out.size hg8 (by rintro _ ⟨rfl⟩; have := HB5.out.size; omega))
        clear hg8
        go_wp2_with fail
        refine (entries_q HQ8.out).mono ?_
        rintro e w9 ⟨dv, rfl, hown9, hb9⟩
        have HB9 := Lib.hid (below_all HB8.out hb9)
        have HBa9 := Lib.hid (below_all HBa8.out hb9)
        obtain ⟨A9, cap9, hdv, _, hrows9⟩ := own_sl hown9 (entRows_length L) (entRows_all L)
        rw [entRows_length] at hdv
        subst hdv
        have HRW9 := Lib.hid hrows9
        clear hrows9 hown9 hb9
        have hll : ((L.length : Int) != (L.length : Int)) = false := by simp
        go_wp2_with fail
        clear hll
        go_loopw [12] (fun i ws => ∃ q : Nat, q ≤ L.length ∧ i = .int .i64 q ∧ Below w9.heap.size w9 ws) (fun i _ => L.length - (intOf i).toNat)
        case atStart => exact ⟨0, by omega, rfl, Below.refl _ _⟩
        case round =>
          obtain ⟨q, hq, rfl, hBq⟩ := hrel
          by_cases hlt2 : q < L.length
          · have hy : L[q]? = some L[q] := List.getElem?_eq_getElem hlt2
            generalize L[q] = y at *
            obtain ⟨sb, off, rfl, hr, hsb⟩ := HRW.out q y.cells (entRows_get hy)
            obtain ⟨sb9, off9, rfl, hr9, hsb9⟩ := HRW9.out q y.cells (entRows_get hy)
            have HR1 : Hid (∀ e : ExtOf wr, e.wd.rangeAt sb (off + q * 28) y.cells) := Lib.hid fun e => e.range fun i v hv => by
              have h1 : w9.cell? ⟨sb, off + q * 28 + i, none⟩ = some v := (HB9.out.cell (by exact hsb)).trans (hr i v hv)
              exact (hBq.cell (World.block_lt_of_cell? w9 _ h1)).trans h1
            have HR2 : Hid (∀ e : ExtOf wr, e.wd.rangeAt sb9 (off9 + q * 28) y.cells) := Lib.hid fun e => e.range fun i v hv => (hBq.cell (by exact hsb9)).trans (hr9 i v hv)
            have hnq := neq46 y y
            have hrf := y.eqv_refl
            have HBQ := Lib.hid hBq
            clear hr hr9 hy hBq
            go_wp2_with fail
            refine wp_region_ext (by kernel_rfl) (by kernel_rfl) ?_
            iterate 3 (quiet_step (fail))
            refine wpQuiet_load_ext rfl 46 _ rfl sb (off + q * 28) rfl y.cells _ HR1.out tu46 rfl ts46 ?_
            iterate 3 (quiet_step (fail))
            refine wpQuiet_load_ext rfl 46 _ rfl sb9 (off9 + q * 28) rfl y.cells _ HR2.out tu46 rfl ts46 ?_
            quiet_step (fail)
            refine wpQuiet_nil ?_
            rintro _ ⟨e, rfl⟩
            go_wp2_with fail
            go_roundw
            case rel => exact ⟨q + 1, by omega, by go_num, below_all HBQ.out e.below⟩
            case measure => simp [intOf]; omega
          · go_wp2_with fail
            go_ret
            exact ⟨rfl, below_all HBa9.out hBq⟩
end Go.Proofs.Ytgkjglpnnehdbaa
