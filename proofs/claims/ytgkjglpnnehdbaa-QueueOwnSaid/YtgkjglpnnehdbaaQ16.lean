/- QueueFirst, walked. -/
import Derived.Test.YtgkjglpnnehdbaaQ15
set_option linter.unusedVariables false
set_option linter.unusedSimpArgs false
namespace Go.Proofs.Ytgkjglpnnehdbaa
open Go.RowKit Go.KK

theorem info33 : (Try.prog.info? 33).map (fun i => (i.zero, i.size, i.bytes)) = some (some (.agg (z46.take 27).toArray), 27, 200) := by kernel_rfl
theorem tu44' : Try.prog.underlying 44 = some (.slice 33) := by kernel_rfl
theorem opRows_length (l : List OpD) : (opRows l).length = l.length := by simp [opRows]
theorem opRows_all (l : List OpD) : ∀ r ∈ opRows l, r.length = 27 := fun r hr => by
  obtain ⟨e, _, rfl⟩ := List.mem_map.1 hr; exact e.length
/-- The first entries' operations, their Void set. -/
def firstOps (L : List EntD) (v : Bool) : List OpD := L.map fun e => { e.op with v := v }
theorem firstOps_snoc {L : List EntD} {k : Nat} {e : EntD} (v : Bool) (h : L[k]? = some e) : firstOps (L.take (k + 1)) v = firstOps (L.take k) v ++ [{ e.op with v := v }] := by
  unfold firstOps
  rw [List.take_add_one, h, List.map_append]
  rfl
/-- All entries are forced, none void. -/
def Forced (L : List EntD) : Prop := ∀ e ∈ L, e.op.f = true
theorem putErr_forced {L : List EntD} {o : OpD} {now : Int} (h : putErr L o now = 0) : o.f = true := by
  unfold putErr at h
  split at h
  · omega
  · split at h
    · omega
    · rename_i h2
      cases hf : o.f <;> simp_all
theorem laid_forced (l : List StepD) : Forced (laidL l).1 := by
  have h : ∀ (l : List StepD) (q : List EntD × Int), Forced q.1 → Forced (l.foldl putStep q).1 := by
    intro l
    induction l with
    | nil => intro q hq; exact hq
    | cons s r ih =>
      intro q hq
      rw [List.foldl_cons]
      refine ih _ ?_
      unfold putStep
      split
      · rename_i he
        intro e hm
        rcases List.mem_append.1 hm with hm | hm
        · exact hq e hm
        · simp only [List.mem_singleton] at hm
          subst hm
          exact putErr_forced he
      · exact hq
  exact h l _ (fun e he => by simp at he)
theorem match_first {L : List EntD} (hF : Forced L) (v : Bool) : ∀ (k i : Nat), i + k ≤ L.length → matchGo L (firstOps ((L.drop i).take k) v) i i false = ((((i + k : Nat) : Int)), 0, (((i + k : Nat) : Int))) := by
  intro k
  induction k with
  | zero => intro i _; simp [firstOps, matchGo]
  | succ k ih =>
    intro i hi
    have hx : L[i]? = some L[i] := List.getElem?_eq_getElem (by omega)
    have hd : L.drop i = L[i] :: L.drop (i + 1) := List.drop_eq_getElem_cons (by omega)
    rw [hd]
    simp only [List.take_succ_cons, firstOps, List.map_cons]
    rw [matchGo]
    have hf : L[i].op.f = true := hF _ (List.getElem_mem _)
    rw [if_neg (by simp [hf]), if_neg (by decide), hx]
    have hs : OpD.same { L[i].op with v := v } L[i].op = true := by
      show OpD.eqv _ _ = true
      simp [OpD.eqv, eq4]
    simp only [hs, if_true]
    have := ih (i + 1) (by omega)
    simp only [firstOps] at this
    rw [this]
    simp only [Prod.mk.injEq]
    exact ⟨by omega, trivial, by omega⟩
theorem match_all {L : List EntD} (hF : Forced L) (v : Bool) (k : Nat) (hk : k ≤ L.length) : matchAll L (firstOps (L.take k) v) = ((k : Int), 0, (k : Int)) := by
  have := match_first hF v k 0 (by omega)
  simpa [matchAll] using this
/-- The number that the law takes. -/
theorem first_n (n : Int) (len : Nat) (h0 : -9223372036854775808 ≤ n) (h1 : n ≤ 9223372036854775807) (hl : len ≤ 256) :
    ∃ k : Nat, k ≤ len ∧ (n.tmod (len + 1) + len + 1) % (len + 1) = k ∧ -((len : Int) + 1) < n.tmod (len + 1) ∧ n.tmod (len + 1) < (len : Int) + 1 := by
  have hp : (0 : Int) < (len : Int) + 1 := by omega
  have h2 := Int.tmod_lt_of_pos n hp
  have h3 : -((len : Int) + 1) < n.tmod (len + 1) := by
    rcases Int.le_total 0 n with h | h
    · have := Int.tmod_nonneg ((len : Int) + 1) h
      omega
    · have e : n.tmod (len + 1) = -((-n).tmod (len + 1)) := by rw [Int.neg_tmod]; omega
      have := Int.tmod_lt_of_pos (-n) hp
      omega
  have h4 := Int.emod_nonneg (n.tmod (len + 1) + len + 1) (show (len : Int) + 1 ≠ 0 by omega)
  have h5 := Int.emod_lt_of_pos (n.tmod (len + 1) + len + 1) hp
  exact ⟨((n.tmod (len + 1) + len + 1) % (len + 1)).toNat, by omega, by omega, h3, h2⟩


set_option maxRecDepth 100000 in
set_option maxHeartbeats 4000000 in
theorem QueueFirst_walk (tk : Int) (l : List StepD) (v : Value) (n : Int) (void : Bool) (w : World) (hv : StepsAt w v l) (hn0 : -9223372036854775808 ≤ n) (hn1 : n ≤ 9223372036854775807) :
    Calls Try.prog 4 #[.int .u64 tk, v, .int .i64 n, .bool void] w fun e w' => e = .returned (.bool true) ∧ Below w.heap.size w w' := by
  have HV : Hid (∀ W, Below w.heap.size w W → StepsAt W v l) := Lib.hid fun W hb => hv.below hb
  clear hv
  by_cases ht : tk < 1 ∨ 4294967296 < tk
  · have HT := Lib.hid ht
    clear ht
    go_enter Try.func4, Try.ntmps4
    go_wp2_with fail
    refine (works_q _).mono ?_
    rintro e w1 ⟨rfl, hb1⟩
    go_wp2_with fail
    refine (laid_no tk _ w1 HT.out).mono ?_
    rintro e w2 ⟨rfl, rfl⟩
    go_wp2_with fail
    refine (new_no tk _ HT.out).mono ?_
    rintro e w2 ⟨rfl, rfl⟩
    go_wp2_with fail
    go_ret
    exact ⟨rfl, hb1⟩
  · have ht0 : 1 ≤ tk := by omega
    have ht1 : tk ≤ 4294967296 := by omega
    clear ht
    go_enter Try.func4, Try.ntmps4
    go_wp2_with fail
    refine (works_q _).mono ?_
    rintro e w1 ⟨rfl, hb1⟩
    go_wp2_with fail
    refine (laid_ok tk l _ w1 ht0 ht1 (HV.out _ hb1)).mono ?_
    rintro e w2 ⟨rfl, hq2, hb2⟩
    have hB2 := below_all hb1 hb2
    have HF := Lib.hid (laid_forced l)
    generalize (laidL l).1 = L at *
    generalize (laidL l).2 = put at *
    have HQ2 := Lib.hid hq2
    have HB2 := Lib.hid hB2
    have hBs : w.heap.size ≤ w1.heap.size := hb1.size
    have hlen := hq2.len
    clear hq2 hB2 hb1 hb2
    go_wp2_with fail
    refine (entries_q HQ2.out).mono ?_
    rintro e w3 ⟨av, rfl, hown, hb3⟩
    have HQ3 := Lib.hid (HQ2.out.below hb3)
    have HB3 := Lib.hid (below_all HB2.out hb3)
    have hgt : w1.heap.size < w3.heap.size := HQ3.out.lt
    obtain ⟨A, cap, hav, _, hrows⟩ := own_sl hown (entRows_length L) (entRows_all L)
    have HRW := Lib.hid hrows
    rw [hav] at hown
    have HOB : Hid (∀ k, (Value.slice A (entRows L).length cap).ownBlock = some k → w1.heap.size < k) := Lib.hid fun k hk => Nat.lt_of_lt_of_le HQ2.out.lt (hown.lt k hk).1
    rw [hav]
    rw [entRows_length]
    clear hrows hav hown hb3
    obtain ⟨k, hk, hkn, hT0, hT1⟩ := first_n n L.length hn0 hn1 hlen
    go_wp2_with fail
    rw [hkn]
    go_loopw [13, 14] (fun ov i wr => ∃ j : Nat, j ≤ k ∧ i = .int .i64 j ∧ wr.ownsRow w3.heap.size 33 27 ov j (opRows (firstOps (L.take j) void)).flatten ∧ Below w3.heap.size w3 wr) (fun _ i _ => k - (intOf i).toNat)
    case atStart => exact ⟨0, by omega, rfl, World.ownsRow_nil _ _ _ _, Below.refl _ _⟩
    case round =>
      obtain ⟨j, hj, rfl, hown, hBr⟩ := hrel
      clear hT0 hT1 hkn
      by_cases hlt : j < k
      · have hx : L[j]? = some (L[j]'(by omega)) := List.getElem?_eq_getElem (by omega)
        generalize (L[j]'(by omega)) = x at *
        obtain ⟨sb, off, rfl, hr, hsb⟩ := HRW.out j x.cells (entRows_get hx)
        have HOP : Hid (wr.rangeAt sb (off + j * 28) x.op.cells) := Lib.hid fun i v hv => (hBr.cell (by exact hsb)).trans (hr i v (by unfold EntD.cells; rw [List.getElem?_append_left (List.getElem?_eq_some_iff.1 hv).1]; exact hv))
        have HO := Lib.hid hown
        have HX := Lib.hid hx
        have s26 := x.op.set26 void
        have c26 := x.op.c26
        clear hr hown hx
        have HOA := Lib.hid (HO.out.alloc (.cells (OpD.cells { x.op with v := void }).toArray 33))
        have HBA := Lib.hid (hBr.alloc hBr.size (.cells (OpD.cells { x.op with v := void }).toArray 33))
        go_wp2_with (first
          | ((with_reducible refine g_load 33 ?_); refine wpList_load_mid rfl 33 _ rfl sb (off + j * 28) rfl x.op.cells _ HOP.out tu33 rfl ts33 ?_)
          | ((with_reducible refine g_load 33 ?_); refine wpList_load_row rfl 33 _ rfl wr.heap.size rfl 33 (OpD.cells { x.op with v := void }).toArray (0, 0) _ (block_new wr _) tu33 rfl ts33 ?_)
          | ((with_reducible refine g_store 33 ?_); refine wpList_store_new rfl 33 _ _ rfl _ x.op.cells.toArray rfl rfl ts33 rfl (all_oneCell_toArray (OpD.one _)) ?_)
          | ((with_reducible refine g_bslice 44 ?_); refine wpList_bslice1 rfl 44 1 0 _ rfl _ (bslice44 { x.op with v := void } _) ?_)
          | (at_builtin; refine wpList_append_row rfl _ _ 44 rfl w3.heap.size 33 _ 27 200 tu44' info33 rfl (by decide) u13 j _ rfl HOA.out (OpD.cells { x.op with v := void }) rfl rfl (OpD.one _) (by unfold maxLen; omega) (by omega) HBA.out.size ?_))
        intro v' w4 hown4 hg4
        have hB4 := below_own (HBA.out.alloc HBA.out.size (.cells (OpD.cells { x.op with v := void }).toArray 33)) (Nat.le_trans HBA.out.size (by simp)) hg4 (HOA.out.alloc _) (Nat.le_refl _)
        have HO4 := Lib.hid hown4
        have HB4 := Lib.hid hB4
        clear hown4 hg4 hB4 hBr
        go_wp2_with fail
        go_roundw
        case rel => exact ⟨j + 1, by omega, by go_num, by rw [firstOps_snoc void HX.out]; simp only [opRows, List.map_append, List.map_cons, List.map_nil, List.flatten_append, List.flatten_cons, List.flatten_nil, List.append_nil] at HO4 ⊢; exact HO4.out, HB4.out⟩
        case measure => simp [intOf]; omega
      · have hjk : j = k := by omega
        subst hjk
        have hsl : SlAt wr u13 27 (opRows (firstOps (L.take j) void)) := own_sl hown (by simp [opRows, firstOps]; omega) (opRows_all _)
        have HSL := Lib.hid hsl
        have HQr := Lib.hid (HQ3.out.below hBr)
        have HBr := Lib.hid hBr
        clear hsl hown hBr
        go_wp2_with fail
        refine (take_ok HQr.out (firstOps (L.take j) void) _ HSL.out j j (match_all HF.out void j hk) hk).mono ?_
        rintro r w5 ⟨rfl, hq5, hg5⟩
        have hML : (((L.drop j).length : Int) != (L.length : Int) - j) = false := by simp; omega
        have hMg : ∀ i, (L.drop j)[i]? = L[j + i]? := fun i => List.getElem?_drop
        have hMl : (L.drop j).length ≤ 256 := by simp; omega
        generalize L.drop j = M at *
        have HMG := Lib.hid hMg
        have HQ5 := Lib.hid hq5
        have HG5 := Lib.hid hg5
        have HB5 := Lib.hid (below_grown (below_all HB3.out HBr.out) (below_all HB3.out HBr.out).size hg5 (by rintro _ ⟨rfl⟩; exact hBs))
        clear hq5 hg5 hMg
        go_wp2_with fail
        refine (entries_q HQ5.out).mono ?_
        rintro e w6 ⟨rv, rfl, hown6, hb6⟩
        have HQ6 := Lib.hid (HQ5.out.below hb6)
        have HB6 := Lib.hid (below_all HB5.out hb6)
        obtain ⟨A6, cap6, hrv, _, hrows6⟩ := own_sl hown6 (entRows_length M) (entRows_all M)
        have HRW6 := Lib.hid hrows6
        have HG36 : Hid (∀ ws, Below w6.heap.size w6 ws → ∀ sb o u, sb < w3.heap.size → sb ≠ w1.heap.size → w3.cell? ⟨sb, o, none⟩ = some u → ws.cell? ⟨sb, o, none⟩ = some u) := Lib.hid fun ws hws sb o u hsb hne hu => by
          have h1 : wr.cell? ⟨sb, o, none⟩ = some u := (HBr.out.cell (by exact hsb)).trans hu
          have h2 : w5.cell? ⟨sb, o, none⟩ = some u := HG5.out.cell h1 (fun e => hne (Option.some.inj e))
          have h3 : w6.cell? ⟨sb, o, none⟩ = some u := (hb6.cell (World.block_lt_of_cell? w5 _ h2)).trans h2
          exact (hws.cell (World.block_lt_of_cell? w6 _ h3)).trans h3
        rw [hrv]
        rw [entRows_length]
        clear hrows6 hrv hown6 hb6
        go_wp2_with (go_at_call 16; refine (len_q HQ6.out).mono ?_; rintro e w' ⟨rfl, rfl⟩)
        go_loopw [20] (fun i ws => ∃ q : Nat, q ≤ M.length ∧ i = .int .i64 q ∧ Below w6.heap.size w6 ws) (fun i _ => M.length - (intOf i).toNat)
        case atStart => exact ⟨0, by omega, rfl, Below.refl _ _⟩
        case round =>
          obtain ⟨q, hq, rfl, hBq⟩ := hrel
          clear hML
          by_cases hlt2 : q < M.length
          · have hy : M[q]? = some M[q] := List.getElem?_eq_getElem hlt2
            have hy2 : L[j + q]? = some M[q] := by rw [← HMG.out]; exact hy
            have hjq := (List.getElem?_eq_some_iff.1 hy2).1
            generalize M[q] = y at *
            obtain ⟨sb, off, rfl, hr, hsb⟩ := HRW.out (j + q) y.cells (entRows_get hy2)
            obtain ⟨sb6, off6, rfl, hr6, hsb6⟩ := HRW6.out q y.cells (entRows_get hy)
            have hsn : sb ≠ w1.heap.size := by have := HOB.out sb rfl; omega
            have HR1 : Hid (∀ e : ExtOf wr, e.wd.rangeAt sb6 (off6 + q * 28) y.cells) := Lib.hid fun e => e.range fun i v hv => (hBq.cell (by exact hsb6)).trans (hr6 i v hv)
            have hg36 := HG36.out
            have HR2 : Hid (∀ e : ExtOf wr, e.wd.rangeAt sb (off + (j + q) * 28) y.cells) := Lib.hid fun e => e.range fun i v hv => hg36 _ hBq sb _ _ hsb hsn (hr i v hv)
            have hnq := neq46 y y
            have hrf := y.eqv_refl
            have hw1 : IntKind.i64.wrap ((j : Int) + q) = (j : Int) + q := IntWalk.i64_in _ (by omega)
            have hw2 : (0 : Int) ≤ (j : Int) + q := by omega
            have hw3 : ((j : Int) + q).toNat = j + q := by omega
            have hw4 : (j : Int) + q < L.length := by omega
            have HBQ := Lib.hid hBq
            clear hr hr6 hy hy2 hBq hg36 hsn
            go_wp2_with fail
            refine wp_region_ext (by kernel_rfl) (by kernel_rfl) ?_
            iterate 3 (quiet_step (fail))
            refine wpQuiet_load_ext rfl 46 _ rfl sb6 (off6 + q * 28) rfl y.cells _ HR1.out tu46 rfl ts46 ?_
            iterate 5 (quiet_step (fail))
            refine wpQuiet_load_ext rfl 46 _ rfl sb (off + (j + q) * 28) rfl y.cells _ HR2.out tu46 rfl ts46 ?_
            quiet_step (fail)
            refine wpQuiet_nil ?_
            rintro _ ⟨e, rfl⟩
            clear hw1 hw2 hw3 hw4
            go_wp2_with fail
            go_roundw
            case rel => exact ⟨q + 1, by omega, by go_num, below_all HBQ.out e.below⟩
            case measure => simp [intOf]; omega
          · go_wp2_with fail
            go_ret
            exact ⟨rfl, below_all HB6.out hBq⟩

end Go.Proofs.Ytgkjglpnnehdbaa
