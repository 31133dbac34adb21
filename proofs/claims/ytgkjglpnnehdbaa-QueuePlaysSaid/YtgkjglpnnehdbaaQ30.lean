/- A step's kind; what stands ahead; walked. -/
import Derived.Test.YtgkjglpnnehdbaaQ29
set_option linter.unusedVariables false
namespace Go.Proofs.Ytgkjglpnnehdbaa
open Go.RowKit Go.KK

def kindI (x : Int) : Int := (x.tmod 7 + 7).tmod 7
theorem kindI_in (x : Int) : 0 ≤ kindI x ∧ kindI x ≤ 6 := by
  unfold kindI
  have h1 : -7 < x.tmod 7 ∧ x.tmod 7 < 7 := by
    constructor
    · have := Int.lt_tmod_of_pos x (show (0 : Int) < 7 by decide); omega
    · exact Int.tmod_lt_of_pos x (by decide)
  rw [Int.tmod_eq_emod_of_nonneg (by omega)]
  omega
theorem kindI_wrap (x : Int) : IntKind.i64.wrap (x.tmod 7) = x.tmod 7 ∧ IntKind.i64.wrap (x.tmod 7 + 7) = x.tmod 7 + 7 ∧ IntKind.i64.wrap ((x.tmod 7 + 7).tmod 7) = kindI x := by
  have h1 : -7 < x.tmod 7 ∧ x.tmod 7 < 7 := by
    constructor
    · have := Int.lt_tmod_of_pos x (show (0 : Int) < 7 by decide); omega
    · exact Int.tmod_lt_of_pos x (by decide)
  have h2 := kindI_in x
  exact ⟨IntWalk.i64_in _ (by omega), IntWalk.i64_in _ (by omega), IntWalk.i64_in _ (by unfold kindI at h2; omega)⟩
theorem StepD.w0 (s : StepD) : s.cells[0]? = some (.int .i64 s.what) := rfl
set_option maxHeartbeats 1000000 in
theorem kind_p (s : StepD) (w : World) : Calls Try.prog 36 #[.agg s.cells.toArray] w fun e w' => e = .returned (.int .i64 (kindI s.what)) ∧ Below w.heap.size w w' := by
  have c0 := s.w0
  obtain ⟨h1, h2, h3⟩ := kindI_wrap s.what
  go_enter Try.func36, Try.ntmps36
  go_wp2
  go_ret
  exact ⟨rfl, (Below.refl _ _).alloc (Nat.le_refl _) _⟩
/-- Some operations (at most three), in memory of their own. -/
def HeadPost (w : World) (e : Ending) (w' : World) : Prop := ∃ v hops, e = .returned v ∧ hops.length ≤ 3 ∧ w'.ownsRow w.heap.size 33 27 v hops.length (opRows hops).flatten ∧ Below w.heap.size w w'
set_option maxHeartbeats 2000000 in
theorem head_r {B : Nat} {w : World} {r : Nat} {tk N : Int} {L : List EntD} (h : RAt B w r tk L N) (n : Int) (hn0 : 0 ≤ n) (hn1 : n ≤ 18446744073709551615) :
    Calls Try.prog 37 #[.pointer (some ⟨r, 0, none⟩), .int .u64 n] w (HeadPost w) := by
  obtain ⟨A, cap, _, hc1, _, hlen, _, _, hent⟩ := h.open
  have HC := Lib.hid hc1
  have HE := Lib.hid hent
  have hm : n.tmod 4 = ((n.toNat % 4 : Nat) : Int) := by rw [Int.tmod_eq_emod_of_nonneg hn0]; omega
  have hm4 : n.toNat % 4 < 4 := Nat.mod_lt _ (by decide)
  generalize n.toNat % 4 = q at *
  clear h hc1 hent
  go_enter Try.func37, Try.ntmps37
  go_wp2_with fail
  go_loopw [5, 6] (fun ov i wr => ∃ hops : List OpD, hops.length ≤ q ∧ hops.length ≤ L.length ∧ i = .int .i64 hops.length ∧ wr.ownsRow w.heap.size 33 27 ov hops.length (opRows hops).flatten ∧ Below w.heap.size w wr) (fun _ i _ => 3 - (intOf i).toNat)
  case atStart => exact ⟨[], by simp, by simp, rfl, World.ownsRow_nil _ _ _ _, Below.refl _ _⟩
  case round =>
    obtain ⟨hops, hq, hqL, rfl, hown, hB⟩ := hrel
    have HO := Lib.hid hown
    have HB := Lib.hid hB
    have hc1 : wr.cell? ⟨r, 1, none⟩ = some (.slice A L.length cap) := (hB.cell (World.block_lt_of_cell? w _ HC.out)).trans HC.out
    clear hown
    generalize hk : hops.length = k at *
    have hcv : IntKind.u64.wrap (k : Int) = k := IntWalk.u64_in _ (by omega)
    by_cases hlt : k < L.length
    · by_cases hltq : k < q
      · have hx : L[k]? = some L[k] := List.getElem?_eq_getElem hlt
        generalize L[k] = x at *
        obtain ⟨sb, off, rfl, hr, hsb⟩ := HE.out k x hx
        have HOP : Hid (wr.rangeAt sb (off + k * 28) x.op.cells) := Lib.hid fun i v hv => (hB.cell (by exact hsb)).trans (range_take (n := 27) hr i v hv)
        have s26 := fun v => x.op.set26 v
        have c26 := x.op.c26
        obtain ⟨vv, hvv⟩ : ∃ vv : Bool, ((k : Int) % 2 == 1) = vv := ⟨_, rfl⟩
        have hw2 : IntKind.i64.wrap ((k : Int).tmod 2) = (k : Int).tmod 2 := IntWalk.i64_in _ (by rw [Int.tmod_eq_emod_of_nonneg (by omega)]; omega)
        have HOA := Lib.hid (HO.out.alloc (.cells (OpD.cells { x.op with v := vv }).toArray 33))
        have HBA := Lib.hid (hB.alloc hB.size (.cells (OpD.cells { x.op with v := vv }).toArray 33))
        clear hr hx hB HC HE
        go_wp2_with (first
          | ((with_reducible refine g_load 33 ?_); refine wpList_load_mid rfl 33 _ rfl sb (off + k * 28) rfl x.op.cells _ HOP.out tu33 rfl ts33 ?_)
          | ((with_reducible refine g_load 33 ?_); refine wpList_load_row rfl 33 _ rfl wr.heap.size rfl 33 (OpD.cells { x.op with v := vv }).toArray (0, 0) _ (block_new wr _) tu33 rfl ts33 ?_)
          | ((with_reducible refine g_store 33 ?_); refine wpList_store_new rfl 33 _ _ rfl _ x.op.cells.toArray rfl rfl ts33 rfl (all_oneCell_toArray (OpD.one _)) ?_)
          | ((with_reducible refine g_bslice 44 ?_); refine wpList_bslice1 rfl 44 1 0 _ rfl _ (bslice44 { x.op with v := vv } _) ?_)
          | (at_builtin; refine wpList_append_row rfl _ _ 44 rfl w.heap.size 33 _ 27 200 tu44' info33 rfl (by decide) u5 k _ rfl HOA.out (OpD.cells { x.op with v := vv }) rfl rfl (OpD.one _) (by unfold maxLen; omega) (by omega) HBA.out.size ?_))
        intro v' w4 hown4 hg4
        have hB4 := below_own (HBA.out.alloc HBA.out.size (.cells (OpD.cells { x.op with v := vv }).toArray 33)) (Nat.le_trans HBA.out.size (by simp)) hg4 (HOA.out.alloc _) (Nat.le_refl _)
        have HO4 := Lib.hid hown4
        have HB4 := Lib.hid hB4
        clear hown4 hg4 hB4 hvv hw2
        go_wp2_with fail
        go_roundw
        case rel => exact ⟨hops ++ [{ x.op with v := vv }], by simp; omega, by simp; omega, by simp [hk], by simp only [List.length_append, List.length_singleton, hk]; simp only [opRows, List.map_append, List.map_cons, List.map_nil, List.flatten_append, List.flatten_cons, List.flatten_nil, List.append_nil] at HO4 ⊢; exact HO4.out, HB4.out⟩
        case measure => simp [intOf]; omega
      · have hk3 : hops.length ≤ 3 := by omega
        clear hB
        go_wp2_with fail
        go_ret
        exact ⟨u5, hops, rfl, hk3, by rw [hk]; exact HO.out, HB.out⟩
    · have hk3 : hops.length ≤ 3 := by omega
      clear hB
      go_wp2_with fail
      go_ret
      exact ⟨u5, hops, rfl, hk3, by rw [hk]; exact HO.out, HB.out⟩
end Go.Proofs.Ytgkjglpnnehdbaa
