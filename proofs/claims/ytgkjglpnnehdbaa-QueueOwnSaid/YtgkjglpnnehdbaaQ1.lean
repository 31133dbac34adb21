/- The queue's small methods, walked: made, at. -/
import Derived.Test.YtgkjglpnnehdbaaQ0
import Derived.WalkSpells
import Derived.WalkLawsBesides
import Derived.Lib.Hide
import Derived.Outline
namespace Go.Proofs.Ytgkjglpnnehdbaa
open Go.RowKit Go.KK

set_option maxHeartbeats 400000 in
theorem made_nil (w : World) :
    Calls Try.prog 32 #[.pointer none] w fun e w' => e = .returned (.bool false) ∧ w = w' := by
  go_enter Try.func32, Try.ntmps32
  go_wp2
  go_ret
  exact ⟨rfl, rfl⟩

set_option maxHeartbeats 400000 in
theorem made_cell (b : Nat) (tk : Int) (w : World) (h0 : w.cell? ⟨b, 0, none⟩ = some (.int .u64 tk)) :
    Calls Try.prog 32 #[.pointer (some ⟨b, 0, none⟩)] w fun e w' => e = .returned (.bool (decide (0 < tk))) ∧ w = w' := by
  go_enter Try.func32, Try.ntmps32
  go_wp2
  go_ret
  exact ⟨rfl, rfl⟩

set_option maxHeartbeats 400000 in
theorem at_any (b : Nat) (c : Array Value) (tk put : Int) (fr i : Nat) (L : List EntD) (x : EntD) (w : World) (hb : w.heap[b]? = some (.cells c 73 (0, 0))) (hq : QC c tk fr L put) (hx : L[i]? = some x) :
    Calls Try.prog 33 #[.pointer (some ⟨b, 0, none⟩), .int .i64 i] w fun e w' => e = .returned (.agg x.cells.toArray) ∧ Below w.heap.size w w' := by
  have hil : i < L.length := (List.getElem?_eq_some_iff.1 hx).1
  have hlen := hq.len
  have hfr := hq.frl
  have hr := QC.range hb hq hx
  have hcell : ∀ (X : Obj) (e : ExtOf (w.alloc X)), e.wd.cell? ⟨b, 7169, none⟩ = some (.int .i64 fr) := fun X e => by
    rw [cell_of_row _ b 7169 c 73 _ (e.block (block_alloc hb X))]; exact hq.hf
  have HR : ∀ (X : Obj) (e : ExtOf (w.alloc X)), e.wd.rangeAt b (1 + (fr + i) % 256 * 28) x.cells := fun X e => e.range (World.rangeAt_alloc hr X)
  have hw := wrap_mod fr i hfr (by omega)
  have hk : (fr + i) % 256 < 256 := Nat.mod_lt _ (by omega)
  generalize (fr + i) % 256 = k at *
  have hk' : (k : Int) < 256 := by omega
  have HH := Lib.hid HR
  have HB : Hid (w.heap[b]? = some (.cells c 73 (0, 0))) := Lib.hid hb
  clear HR hr hx hq hb hk
  go_enter Try.func33, Try.ntmps33
  go_wp2
  refine wp_region_ext_tail 12 (by kernel_rfl) (by kernel_rfl) ?_
  simp only [List.take_succ_cons, List.take_zero, List.drop_succ_cons, List.drop_zero]
  iterate 11 (quiet_step (fail))
  refine wpQuiet_load_ext rfl 46 _ rfl b (1 + k * 28) rfl x.cells _ (HH.out _) tu46 rfl ts46 ?_
  refine wpQuiet_nil ?_
  rintro _ ⟨e, rfl⟩
  have hz := e.block (block_new w _)
  have hB := (below_all ((Below.refl _ _).alloc (Nat.le_refl _) _) e.below).grown (setCells_grown x.cells 0 (b := w.heap.size)) (Nat.le_of_lt (Nat.lt_of_lt_of_le (by simp) e.below.size)) (by rintro _ ⟨rfl⟩; exact Nat.le_refl _)
  refine wpList_store_mid rfl 46 _ _ rfl w.heap.size 0 x.cells.toArray rfl rfl (there_block hz 0 28 (by simp)) ts46 (all_oneCell_toArray x.one) ?_
  have hr := setCells_whole (new := x.cells.toArray) hz rfl
  generalize e.wd.setCells w.heap.size 0 x.cells.toArray.toList = W at *
  clear hz
  go_wp2
  exact bodyPost_ret (v := .agg x.cells.toArray) (results_cell_row rfl _ _ w.heap.size 46 _ (0, 0) _ rfl hr tu46 rfl ts46) rfl ⟨rfl, hB⟩


/-! ### Of a queue that was made -/
theorem made_q {w : World} {b : Nat} {tk put : Int} {L : List EntD} (hq : QAt w b tk L put) :
    Calls Try.prog 32 #[.pointer (some ⟨b, 0, none⟩)] w fun e w' => e = .returned (.bool true) ∧ w = w' := by
  obtain ⟨c, fr, hb, hc⟩ := hq
  have := made_cell b tk w (by rw [cell_of_row w b 0 c 73 _ hb]; exact hc.h0)
  have h0 : decide (0 < tk) = true := by have := hc.tk0; simp; omega
  rwa [h0] at this

set_option maxHeartbeats 400000 in
theorem len_q {w : World} {b : Nat} {tk put : Int} {L : List EntD} (hq : QAt w b tk L put) :
    Calls Try.prog 16 #[.pointer (some ⟨b, 0, none⟩)] w fun e w' => e = .returned (.int .i64 L.length) ∧ w = w' := by
  have hm := made_q hq
  obtain ⟨c, fr, hb, hc⟩ := hq
  have hn : w.cell? ⟨b, 7170, none⟩ = some (.int .i64 L.length) := by rw [cell_of_row w b 7170 c 73 _ hb]; exact hc.hn
  have HM := Lib.hid hm
  clear hm hb hc
  go_enter Try.func16, Try.ntmps16
  go_wp2_with (go_at_call 32; refine HM.out.mono ?_; rintro e w' ⟨rfl, rfl⟩)
  go_ret
  exact ⟨rfl, rfl⟩

set_option maxHeartbeats 400000 in
theorem put0_q {w : World} {b : Nat} {tk put : Int} {L : List EntD} (hq : QAt w b tk L put) :
    Calls Try.prog 19 #[.pointer (some ⟨b, 0, none⟩)] w fun e w' => e = .returned (.int .i64 put) ∧ w = w' := by
  have hm := made_q hq
  obtain ⟨c, fr, hb, hc⟩ := hq
  have hn : w.cell? ⟨b, 7171, none⟩ = some (.int .i64 put) := by rw [cell_of_row w b 7171 c 73 _ hb]; exact hc.hp
  have HM := Lib.hid hm
  clear hm hb hc
  go_enter Try.func19, Try.ntmps19
  go_wp2_with (go_at_call 32; refine HM.out.mono ?_; rintro e w' ⟨rfl, rfl⟩)
  go_ret
  exact ⟨rfl, rfl⟩

theorem at_q {w : World} {b : Nat} {tk put : Int} {L : List EntD} (hq : QAt w b tk L put) (i : Int) (h0 : 0 ≤ i) (x : EntD) (hx : L[i.toNat]? = some x) :
    Calls Try.prog 33 #[.pointer (some ⟨b, 0, none⟩), .int .i64 i] w fun e w' => e = .returned (.agg x.cells.toArray) ∧ Below w.heap.size w w' := by
  obtain ⟨c, fr, hb, hc⟩ := hq
  obtain ⟨n, rfl⟩ := Int.eq_ofNat_of_zero_le h0
  exact at_any b c tk put fr n L x w hb hc (by simpa using hx)

set_option maxHeartbeats 400000 in
theorem old_nil {w : World} {b : Nat} {tk put : Int} (hq : QAt w b tk [] put) (now by_ : Int) :
    Calls Try.prog 35 #[.pointer (some ⟨b, 0, none⟩), .int .u64 now, .int .u64 by_] w fun e w' => e = .returned (.bool false) ∧ Below w.heap.size w w' := by
  have hm := made_q hq
  obtain ⟨c, fr, hb, hc⟩ := hq
  have hn : w.cell? ⟨b, 7170, none⟩ = some (.int .i64 0) := by rw [cell_of_row w b 7170 c 73 _ hb]; exact hc.hn
  have HM := Lib.hid hm
  clear hm hb hc
  go_enter Try.func35, Try.ntmps35
  go_wp2_with (go_at_call 32; refine HM.out.mono ?_; rintro e w' ⟨rfl, rfl⟩)
  go_ret
  exact ⟨rfl, Below.refl _ _⟩

set_option maxHeartbeats 400000 in
theorem old_cons {w : World} {b : Nat} {tk put : Int} {x : EntD} {L : List EntD} (hq : QAt w b tk (x :: L) put) (now by_ : Int) (h0 : 0 ≤ now) (h1 : now ≤ 18446744073709551615) :
    Calls Try.prog 35 #[.pointer (some ⟨b, 0, none⟩), .int .u64 now, .int .u64 by_] w fun e w' => e = .returned (.bool (oldB (x :: L) now by_)) ∧ Below w.heap.size w w' := by
  have hm := made_q hq
  have H1 := Lib.hid (at_q hq 0 (by omega) x rfl)
  have H2 : Hid (∀ w', Below w.heap.size w w' → Calls Try.prog 33 #[.pointer (some ⟨b, 0, none⟩), .int .i64 0] w' fun e w'' => e = .returned (.agg x.cells.toArray) ∧ Below w'.heap.size w' w'') :=
    Lib.hid fun w' hb => at_q (hq.below hb) 0 (by omega) x rfl
  obtain ⟨c, fr, hb, hc⟩ := hq
  have hok := hc.ok x (by simp)
  have ha0 := hok.1.1
  have ha1 := hok.1.2
  have hn : w.cell? ⟨b, 7170, none⟩ = some (.int .i64 (L.length + 1)) := by rw [cell_of_row w b 7170 c 73 _ hb, hc.hn]; simp
  have hfa := field_at x
  have HM := Lib.hid hm
  clear hm hb hc hok
  by_cases hge : x.at_ ≤ now
  · go_enter Try.func35, Try.ntmps35
    go_wp2_with (go_at_call 32; refine HM.out.mono ?_; rintro e w' ⟨rfl, rfl⟩)
    refine H1.out.mono ?_
    rintro e w1 ⟨rfl, hb1⟩
    go_wp2_with fail
    refine (H2.out _ hb1).mono ?_
    rintro e w2 ⟨rfl, hb2⟩
    go_wp2_with fail
    go_ret
    exact ⟨by simp [oldB, hge], below_all hb1 hb2⟩
  · have hlt : ¬ x.at_ ≤ now := hge
    go_enter Try.func35, Try.ntmps35
    go_wp2_with (go_at_call 32; refine HM.out.mono ?_; rintro e w' ⟨rfl, rfl⟩)
    refine H1.out.mono ?_
    rintro e w1 ⟨rfl, hb1⟩
    go_wp2_with fail
    go_ret
    exact ⟨ret_b (oldB_lt hge).symm, hb1⟩
theorem old_q {w : World} {b : Nat} {tk put : Int} {L : List EntD} (hq : QAt w b tk L put) (now by_ : Int) (h0 : 0 ≤ now) (h1 : now ≤ 18446744073709551615) :
    Calls Try.prog 35 #[.pointer (some ⟨b, 0, none⟩), .int .u64 now, .int .u64 by_] w fun e w' => e = .returned (.bool (oldB L now by_)) ∧ Below w.heap.size w w' := by
  cases L with
  | nil => exact old_nil hq now by_
  | cons x L => exact old_cons hq now by_ h0 h1

set_option maxHeartbeats 400000 in
theorem overdue_q {w : World} {b : Nat} {tk put : Int} {L : List EntD} (hq : QAt w b tk L put) (now : Int) (h0 : 0 ≤ now) (h1 : now ≤ 18446744073709551615) :
    Calls Try.prog 18 #[.pointer (some ⟨b, 0, none⟩), .int .u64 now] w fun e w' => e = .returned (.bool (oldB L now tk)) ∧ Below w.heap.size w w' := by
  have HM := Lib.hid (made_q hq)
  have HO := Lib.hid (old_q hq now tk h0 h1)
  obtain ⟨c, fr, hb, hc⟩ := hq
  have hn : w.cell? ⟨b, 0, none⟩ = some (.int .u64 tk) := by rw [cell_of_row w b 0 c 73 _ hb]; exact hc.h0
  clear hb hc
  go_enter Try.func18, Try.ntmps18
  go_wp2_with (first | (go_at_call 32; refine HM.out.mono ?_; rintro e w' ⟨rfl, rfl⟩) | (go_at_call 35; refine HO.out.mono ?_; rintro e w1 ⟨rfl, hb1⟩))
  go_ret
  exact ⟨rfl, hb1⟩

set_option maxHeartbeats 400000 in
theorem late_q {w : World} {b : Nat} {tk put : Int} {L : List EntD} (hq : QAt w b tk L put) (now : Int) (h0 : 0 ≤ now) (h1 : now ≤ 18446744073709551615) :
    Calls Try.prog 17 #[.pointer (some ⟨b, 0, none⟩), .int .u64 now] w fun e w' => e = .returned (.bool (oldB L now (2 * tk))) ∧ Below w.heap.size w w' := by
  have HM := Lib.hid (made_q hq)
  have HO := Lib.hid (old_q hq now (2 * tk) h0 h1)
  obtain ⟨c, fr, hb, hc⟩ := hq
  have hn : w.cell? ⟨b, 0, none⟩ = some (.int .u64 tk) := by rw [cell_of_row w b 0 c 73 _ hb]; exact hc.h0
  have ht0 := hc.tk0
  have ht1 := hc.tk1
  clear hb hc
  go_enter Try.func17, Try.ntmps17
  go_wp2_with (first | (go_at_call 32; refine HM.out.mono ?_; rintro e w' ⟨rfl, rfl⟩) | (go_at_call 35; refine HO.out.mono ?_; rintro e w1 ⟨rfl, hb1⟩))
  go_ret
  exact ⟨rfl, hb1⟩
/-- A queue is made. -/
def NewPost (tk : Int) (w : World) (e : Ending) (w' : World) : Prop :=
  e = .returned (.tuple #[.pointer (some ⟨w.heap.size, 0, none⟩), .int .i64 0]) ∧ QAt w' w.heap.size tk [] 0 ∧ Below w.heap.size w w'
set_option maxHeartbeats 400000 in
theorem new_ok (tk : Int) (w : World) (h0 : 1 ≤ tk) (h1 : tk ≤ 4294967296) : Calls Try.prog 13 #[.int .u64 tk] w (NewPost tk w) := by
  have h0' : ¬ tk < 1 := by omega
  have h1' : ¬ 4294967296 < tk := by omega
  have hz := zero73
  have hne := z73_ne
  go_enter Try.func13, Try.ntmps13
  go_wp2
  go_ret2
  exact ⟨rfl, ⟨_, 0, block_new w _, zq_qc tk h0 h1⟩, (Below.refl _ _).alloc (Nat.le_refl _) _⟩
set_option maxHeartbeats 400000 in
theorem new_no (tk : Int) (w : World) (h : tk < 1 ∨ 4294967296 < tk) : Calls Try.prog 13 #[.int .u64 tk] w fun e w' => e = .returned (.tuple #[.pointer none, .int .i64 4]) ∧ w = w' := by
  rcases h with h | h
  · go_enter Try.func13, Try.ntmps13
    go_wp2
    go_ret2
    exact ⟨rfl, rfl⟩
  · have h' : ¬ tk < 1 := by omega
    go_enter Try.func13, Try.ntmps13
    go_wp2
    go_ret2
    exact ⟨rfl, rfl⟩

end Go.Proofs.Ytgkjglpnnehdbaa
