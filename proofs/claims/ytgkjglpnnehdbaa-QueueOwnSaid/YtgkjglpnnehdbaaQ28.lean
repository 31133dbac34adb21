/- Copy and Clear, walked. -/
import Derived.Test.YtgkjglpnnehdbaaQ27
set_option linter.unusedVariables false
namespace Go.Proofs.Ytgkjglpnnehdbaa
open Go.RowKit Go.KK

theorem al73 {ops : Array Oper} {Q : Exit → Act → World → Prop} {a : Act} {w : World} {op : Oper} {rest : List Oper} (hgd : op.guard = none) (ho : op.op = .alloc 73)
    (h : wpList Try.prog ops Q rest (a.put op.dst (.pointer (some ⟨w.heap.size, 0, none⟩))) (w.alloc (.cells z73 73))) : wpList Try.prog ops Q (op :: rest) a w :=
  wpList_plain hgd fun K hK => by
    have hz := zero73
    unfold Oper.wp execOp
    simp only [ho]
    simp [go_sem, hz]
    exact hK _ _ h
set_option maxHeartbeats 1000000 in
theorem copy_q {w : World} {b : Nat} {tk put : Int} {L : List EntD} (hq : QAt w b tk L put) :
    Calls Try.prog 30 #[.pointer (some ⟨b, 0, none⟩)] w fun e w' => ∃ b', e = .returned (.pointer (some ⟨b', 0, none⟩)) ∧ w.heap.size ≤ b' ∧ Below w.heap.size w w' ∧ QAt w' b' tk L put := by
  have HM := Lib.hid (made_q hq)
  obtain ⟨c, fr, hb, hc⟩ := hq
  have hs : (Try.prog.info? 73).map (·.size) = some c.size := by rw [hc.size]; exact ts73
  have hz : z73.size = c.size := by rw [hc.size]; exact z73_size
  have hone : c.all (·.oneCell') = true := Array.all_eq_true_iff_forall_mem.2 (fun v hv => hc.one v (by simpa using hv))
  have HB := Lib.hid hb
  have HC := Lib.hid hc
  have HS := Lib.hid hs
  have HZ := Lib.hid hz
  have HO := Lib.hid hone
  clear hb hc hs hz hone
  go_enter Try.func30, Try.ntmps30
  go_wp2_with (first
    | (go_at_call 32; refine HM.out.mono ?_; rintro e w' ⟨rfl, rfl⟩)
    | ((with_reducible refine g_load 73 ?_); refine wpList_load_row rfl 73 _ rfl b rfl 73 c (0, 0) _ HB.out tu73 rfl HS.out ?_)
    | ((with_reducible refine g_alloc 73 ?_); refine al73 rfl rfl ?_)
    | ((with_reducible refine g_store 73 ?_); refine wpList_store_new rfl 73 _ _ rfl z73 c rfl rfl HS.out HZ.out HO.out ?_))
  go_ret
  exact ⟨_, rfl, Nat.le_refl _, (Below.refl _ _).alloc (Nat.le_refl _) _, c, fr, block_new w _, HC.out⟩
/-- An empty ring's cells. -/
noncomputable def z71 : Array Value := match (Try.prog.info? 71).bind (·.zero) with | some (.agg c) => c | _ => #[]
theorem z71_size : z71.size = 7168 := by kernel_rfl
theorem z71_info : (Try.prog.info? 71).bind (·.zero) = some (.agg z71) := by kernel_rfl
theorem z71_one : z71.toList.all (·.oneCell') = true := by kernel_rfl
theorem ts71 : (Try.prog.info? 71).map (·.size) = some 7168 := by kernel_rfl
theorem zero71 (w : World) : (zeroValue 71).run Try.prog w = .ok (.agg z71) w := by
  have h := z71_info
  cases hq : Try.prog.info? 71 with
  | none => simp [hq] at h
  | some i => simp [hq] at h; simp [zeroValue, typeInfo, hq, h]
attribute [irreducible] z71
theorem build71 (w : World) : (Instr.build 71 #[]).run Try.prog w = .ok (.agg z71) w := by
  have hz := zero71
  simp [go_sem, hz]
/-- The cells behind a Clear. -/
noncomputable def cleared (c : Array Value) : Array Value := ((c.toList.take 1 ++ z71.toList ++ c.toList.drop (1 + z71.toList.length)).toArray.setIfInBounds 7169 (.int .i64 0)).setIfInBounds 7170 (.int .i64 0)
theorem QC.clear {c : Array Value} {tk put : Int} {fr : Nat} {L : List EntD} (h : QC c tk fr L put) : QC (cleared c) tk 0 [] put := by
  have hs := h.size
  have hzl : z71.toList.length = 7168 := by simp [z71_size]
  have hsp : 1 + z71.toList.length ≤ c.toList.length := by rw [hzl]; simp; omega
  have hlen := splice_length c.toList 1 z71.toList hsp
  have hget : ∀ j, j ≠ 7169 → j ≠ 7170 → (cleared c)[j]? = if 1 ≤ j ∧ j < 1 + 7168 then z71[j - 1]? else c[j]? := fun j h1 h2 => by
    unfold cleared
    rw [Array.getElem?_setIfInBounds_ne (Ne.symm h2), Array.getElem?_setIfInBounds_ne (Ne.symm h1), List.getElem?_toArray, splice_get _ _ _ hsp, hzl]
    simp
  have hsz : (c.toList.take 1 ++ z71.toList ++ c.toList.drop (1 + z71.toList.length)).length = 7172 := by rw [hlen]; simpa using hs
  refine ⟨?_, ?_, h.tk0, h.tk1, ?_, ?_, ?_, ?_, by omega, by simp, by simp, h.put0, by simp⟩
  · unfold cleared; rw [Array.size_setIfInBounds, Array.size_setIfInBounds, List.size_toArray, hsz]
  · intro v hv
    simp only [cleared, Array.toList_setIfInBounds] at hv
    rcases List.mem_or_eq_of_mem_set hv with hv | hv
    · rcases List.mem_or_eq_of_mem_set hv with hv | hv
      · exact splice_mem (o := 1) h.one (fun v hv => List.all_eq_true.1 z71_one v hv) v hv
      · subst hv; rfl
    · subst hv; rfl
  · rw [hget 0 (by omega) (by omega), if_neg (by omega), h.h0]
  · unfold cleared
    rw [Array.getElem?_setIfInBounds_ne (by omega), Array.getElem?_setIfInBounds_self_of_lt (by rw [List.size_toArray, hsz]; omega)]
    rfl
  · unfold cleared
    rw [Array.getElem?_setIfInBounds_self_of_lt (by rw [Array.size_setIfInBounds, List.size_toArray, hsz]; omega)]
    rfl
  · rw [hget 7171 (by omega) (by omega), if_neg (by omega), h.hp]
/-- What Clear leaves. -/
def ClearPost (b : Nat) (tk put : Int) (L : List EntD) (w : World) (e : Ending) (w' : World) : Prop :=
  ∃ v, e = .returned v ∧ w'.ownsRow w.heap.size 46 28 v L.length (entRows L).flatten ∧ w.grownBy w' (some b) ∧ QAt w' b tk [] put
set_option maxRecDepth 100000 in
set_option maxHeartbeats 1000000 in
theorem clear_q {w : World} {b : Nat} {tk put : Int} {L : List EntD} (hq : QAt w b tk L put) :
    Calls Try.prog 31 #[.pointer (some ⟨b, 0, none⟩)] w (ClearPost b tk put L w) := by
  have HE := Lib.hid (entries_q hq)
  have HQ := Lib.hid hq
  clear hq
  go_enter Try.func31, Try.ntmps31
  go_wp2_with fail
  go_at_call 14
  refine HE.out.mono ?_
  rintro e V ⟨v, rfl, hown, hV⟩
  have HV := Lib.hid hV
  have HO := Lib.hid hown
  have HM := Lib.hid (made_q (HQ.out.below hV))
  clear hV hown
  obtain ⟨c, fr, hb, hc⟩ := HQ.out.below HV.out
  have hcs := hc.size
  have hzl : z71.toList.length = 7168 := by simp [z71_size]
  have hb4 := setCells_block (o := 1) hb z71.toList (by rw [hzl]; omega)
  have hg4 := setCells_grown (w := V) (b := b) z71.toList 1
  have hV1 : (V.setCells b 1 z71.toList).cell? ⟨b, 7169, none⟩ = some (.int .i64 fr) := by
    rw [cell_of_row _ b 7169 _ 73 _ hb4, List.getElem?_toArray, splice_get _ _ _ (by rw [hzl]; simp; omega), if_neg (by rw [hzl]; omega)]
    simpa using hc.hf
  have hV2 : (V.setCells b 1 z71.toList).cell? ⟨b, 7170, none⟩ = some (.int .i64 L.length) := by
    rw [cell_of_row _ b 7170 _ 73 _ hb4, List.getElem?_toArray, splice_get _ _ _ (by rw [hzl]; simp; omega), if_neg (by rw [hzl]; omega)]
    simpa using hc.hn
  have hV3 := fun j => frozen_of_row _ b j _ 73 hb4
  have hth : V.there b 1 z71.size := there_block hb 1 z71.size (by rw [z71_size]; omega)
  have hs71 : (Try.prog.info? 71).map (·.size) = some z71.size := by rw [z71_size]; exact ts71
  have hone : z71.all (·.oneCell') = true := Array.all_eq_true_iff_forall_mem.2 (fun v hv => List.all_eq_true.1 z71_one v (by simpa using hv))
  have HC := Lib.hid hc
  have HB4 := Lib.hid hb4
  have HG4 := Lib.hid hg4
  have HTH := Lib.hid hth
  have HS71 := Lib.hid hs71
  have HONE := Lib.hid hone
  have HBT := Lib.hid (block_lt hb)
  have hB71 := build71
  clear hb hc hcs hzl hb4 hg4 hth hs71 hone
  generalize hZ : z71 = Z at *
  have HZ := Lib.hid hZ
  clear hZ
  go_wp2_with (first
    | (go_at_call 32; refine HM.out.mono ?_; rintro e w' ⟨rfl, rfl⟩)
    | ((with_reducible refine g_build 71 ?_); refine wpList_build0 rfl 71 rfl _ (hB71 _) ?_)
    | ((with_reducible refine g_store 71 ?_); refine wpList_store_mid rfl 71 _ _ rfl b 1 Z rfl rfl HTH.out HS71.out HONE.out ?_; generalize V.setCells b 1 Z.toList = V4 at *))
  go_ret
  have h5 := heap_setCell_same _ b 7169 _ 73 (.int .i64 0) HB4.out
  have h6 := heap_setCell_same _ b 7170 _ 73 (.int .i64 0) h5
  have hg := grown_trans (grown_trans HG4.out (setCell_grown b 7169 (.int .i64 0))) (setCell_grown b 7170 (.int .i64 0))
  have hbw : b < w.heap.size := HQ.out.lt
  exact ⟨v, rfl, HO.out.kept hg (.inr fun e => by have := (own_block HO.out e).1; omega), grown_trans (grown_of_below HV.out _) hg, _, 0, h6, by have := HC.out.clear; unfold cleared at this; rw [HZ.out] at this; exact this⟩
end Go.Proofs.Ytgkjglpnnehdbaa
