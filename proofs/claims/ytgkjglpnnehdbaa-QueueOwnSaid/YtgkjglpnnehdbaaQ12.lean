/- The steps of a law's list; a queue behind some puts (laid), walked. -/
import Derived.Test.YtgkjglpnnehdbaaQ11
namespace Go.Proofs.Ytgkjglpnnehdbaa
open Go.RowKit Go.KK

structure StepD where
  what : Int
  op : OpD
  n : Int
  ov : Value
  ops : List OpD
def StepD.cells (s : StepD) : List Value := .int .i64 s.what :: (s.op.cells ++ [.int .u64 s.n, s.ov])
theorem StepD.length (s : StepD) : s.cells.length = 30 := rfl
def StepD.OK (w : World) (s : StepD) : Prop := (0 ≤ s.n ∧ s.n ≤ 18446744073709551615) ∧ (0 ≤ s.op.x 3 ∧ s.op.x 3 ≤ 18446744073709551615) ∧ SlAt w s.ov 27 (opRows s.ops)
def stepRows (l : List StepD) : List (List Value) := l.map StepD.cells
/-- A slice of steps that is read. -/
def StepsAt (w : World) (v : Value) (l : List StepD) : Prop := SlAt w v 30 (stepRows l) ∧ ∀ s ∈ l, s.OK w
theorem StepD.OK.below {w w' : World} {s : StepD} (h : s.OK w) (hb : Below w.heap.size w w') : s.OK w' := ⟨h.1, h.2.1, h.2.2.below hb⟩
theorem StepsAt.below {w w' : World} {v : Value} {l : List StepD} (h : StepsAt w v l) (hb : Below w.heap.size w w') : StepsAt w' v l := ⟨h.1.below hb, fun s hs => (h.2 s hs).below hb⟩
theorem range_part {w : World} {b o : Nat} {p m r : List Value} (h : w.rangeAt b o (p ++ (m ++ r))) : w.rangeAt b (o + p.length) m := fun j v hv => by
  have hj : j < m.length := (List.getElem?_eq_some_iff.1 hv).1
  rw [Nat.add_assoc]
  exact h (p.length + j) v (by rw [List.getElem?_append_right (by omega), List.getElem?_append_left (by omega)]; simpa using hv)
theorem StepD.rop {w : World} {b o : Nat} {s : StepD} (h : w.rangeAt b o s.cells) : w.rangeAt b (o + 1) s.op.cells := range_part (p := [.int .i64 s.what]) h
theorem StepD.rn {w : World} {b o : Nat} {s : StepD} (h : w.rangeAt b o s.cells) : w.cell? ⟨b, o + 28, none⟩ = some (.int .u64 s.n) := h 28 _ rfl
theorem StepD.rov {w : World} {b o : Nat} {s : StepD} (h : w.rangeAt b o s.cells) : w.cell? ⟨b, o + 29, none⟩ = some s.ov := h 29 _ rfl
theorem StepD.rw {w : World} {b o : Nat} {s : StepD} (h : w.rangeAt b o s.cells) : w.cell? ⟨b, o, none⟩ = some (.int .i64 s.what) := h 0 _ rfl

/-- What a put does. -/
def putStep (q : List EntD × Int) (s : StepD) : List EntD × Int := if putErr q.1 s.op s.n = 0 then (q.1 ++ [⟨s.op, s.n⟩], q.2 + 1) else q
def laidL (l : List StepD) : List EntD × Int := l.foldl putStep ([], 0)
theorem laidL_snoc {l : List StepD} {k : Nat} {s : StepD} (h : l[k]? = some s) : laidL (l.take (k + 1)) = putStep (laidL (l.take k)) s := by
  unfold laidL
  rw [List.take_add_one, h, List.foldl_append]
  rfl
theorem laidL_len (l : List StepD) : (laidL l).2 = (laidL l).1.length := by
  have h : ∀ (l : List StepD) (q : List EntD × Int), q.2 = q.1.length → (l.foldl putStep q).2 = (l.foldl putStep q).1.length := by
    intro l
    induction l with
    | nil => intro q hq; exact hq
    | cons s r ih =>
      intro q hq
      rw [List.foldl_cons]
      refine ih _ ?_
      unfold putStep
      split
      · simp [hq]
      · exact hq
  exact h l _ rfl

def LaidPost (tk : Int) (l : List StepD) (w : World) (e : Ending) (w' : World) : Prop :=
  e = .returned (.pointer (some ⟨w.heap.size, 0, none⟩)) ∧ QAt w' w.heap.size tk (laidL l).1 (laidL l).2 ∧ Below w.heap.size w w'
theorem ptr_ne (w : World) (b : Nat) : (binOp .neq 37 (.pointer (some ⟨b, 0, none⟩)) (.pointer none)).run Try.prog w = .ok (.bool true) w := by simp [go_sem]

set_option maxHeartbeats 1000000 in
theorem laid_no (tk : Int) (v : Value) (w : World) (h : tk < 1 ∨ 4294967296 < tk) : Calls Try.prog 12 #[.int .u64 tk, v] w fun e w' => e = .returned (.pointer none) ∧ w = w' := by
  have HN := Lib.hid (new_no tk w h)
  clear h
  go_enter Try.func12, Try.ntmps12
  go_wp2_with (go_at_call 13; refine HN.out.mono ?_; rintro e w' ⟨rfl, rfl⟩)
  go_ret
  exact ⟨rfl, rfl⟩

set_option maxHeartbeats 1000000 in
theorem laid_ok (tk : Int) (l : List StepD) (v : Value) (w : World) (h0 : 1 ≤ tk) (h1 : tk ≤ 4294967296) (hv : StepsAt w v l) : Calls Try.prog 12 #[.int .u64 tk, v] w (LaidPost tk l w) := by
  obtain ⟨⟨A, cap, rfl, hlen, hrows⟩, hok⟩ := hv
  have hl : (stepRows l).length = l.length := by simp [stepRows]
  rw [hl] at hlen ⊢
  have HR := Lib.hid hrows
  have HOK := Lib.hid hok
  have HN := Lib.hid (new_ok tk w h0 h1)
  clear hrows hok hl h0 h1
  go_enter Try.func12, Try.ntmps12
  go_wp2_with (go_at_call 13; refine HN.out.mono ?_; rintro e w1 ⟨rfl, hq1, hb1⟩)
  have HQ1 := Lib.hid hq1
  have HB1 := Lib.hid hb1
  clear hq1 hb1
  go_loopw [7] (fun i wr => ∃ k : Nat, k ≤ l.length ∧ i = .int .i64 k ∧ QAt wr w.heap.size tk (laidL (l.take k)).1 (laidL (l.take k)).2 ∧ Below w.heap.size w wr) (fun i _ => l.length - (intOf i).toNat)
  case atStart => exact ⟨0, by omega, rfl, HQ1.out, HB1.out⟩
  case round =>
    obtain ⟨k, hk, rfl, hq, hB⟩ := hrel
    have HQ := Lib.hid hq
    have HB := Lib.hid hB
    clear hq hB
    by_cases hlt : k < l.length
    · have hs : l[k]? = some l[k] := List.getElem?_eq_getElem hlt
      obtain ⟨sb, off, rfl, hr, hsb⟩ := HR.out k l[k].cells (by simp [stepRows, hlt])
      have hrr : wr.rangeAt sb (off + k * 30) l[k].cells := fun j v hv => (HB.out.cell (World.block_lt_of_cell? w _ (hr j v hv))).trans (hr j v hv)
      have HOP : Hid (∀ e : ExtOf wr, e.wd.rangeAt sb (off + k * 30 + 1) l[k].op.cells) := Lib.hid fun e => e.range (StepD.rop hrr)
      have hN : ∀ e : ExtOf wr, e.wd.cell? ⟨sb, off + k * 30 + 28, none⟩ = some (.int .u64 l[k].n) := fun e => e.cell (StepD.rn hrr)
      have HS := Lib.hid hs
      obtain ⟨⟨hn0, hn1⟩, ⟨ha0, ha1⟩, _⟩ := HOK.out l[k] (List.getElem_mem hlt)
      clear hr hrr hs
      go_wp2_with fail
      refine wp_region_ext_tail 11 (by kernel_rfl) (by kernel_rfl) ?_
      simp only [List.take_succ_cons, List.take_zero, List.drop_succ_cons, List.drop_zero]
      iterate 5 (quiet_step (fail))
      refine wpQuiet_load_ext rfl 33 _ rfl sb (off + k * 30 + 1) rfl l[k].op.cells _ HOP.out tu33 rfl ts33 ?_
      iterate 5 (quiet_step (fail))
      refine wpQuiet_nil ?_
      rintro _ ⟨e, rfl⟩
      go_wp2_with fail
      have hQe := HQ.out.below e.below
      have hBe := below_all HB.out e.below
      have hput : (laidL (l.take k)).2 ≤ 4611686018427387904 := by have := laidL_len (l.take k); have := hQe.len; omega
      rcases put_any hQe l[k].op l[k].n hn0 hn1 ha0 ha1 hput with ⟨he, hc⟩ | ⟨he, hc⟩
      · refine hc.mono ?_
        rintro r w2 ⟨rfl, hq2, hg2⟩
        have HQ2 : Hid (QAt w2 w.heap.size tk (laidL (l.take (k + 1))).1 (laidL (l.take (k + 1))).2) := Lib.hid (by rw [laidL_snoc HS.out, putStep, if_pos he]; exact hq2)
        have HB2 := Lib.hid (below_grown hBe hBe.size hg2 (by rintro _ ⟨rfl⟩; exact Nat.le_refl _))
        clear hc he hq2 hg2 hQe hBe hput
        go_wp2_with fail
        go_roundw
        case rel => exact ⟨k + 1, by omega, by go_num, HQ2.out, HB2.out⟩
        case measure => simp [intOf]; omega
      · refine hc.mono ?_
        rintro r w2 ⟨rfl, hb2⟩
        have HQ2 : Hid (QAt w2 w.heap.size tk (laidL (l.take (k + 1))).1 (laidL (l.take (k + 1))).2) := Lib.hid (by rw [laidL_snoc HS.out, putStep, if_neg he]; exact hQe.below hb2)
        have HB2 := Lib.hid (below_all hBe hb2)
        clear hc he hb2 hQe hBe hput
        go_wp2_with fail
        go_roundw
        case rel => exact ⟨k + 1, by omega, by go_num, HQ2.out, HB2.out⟩
        case measure => simp [intOf]; omega
    · have hkk : k = l.length := by omega
      subst hkk
      have hq := HQ.out
      rw [List.take_length] at hq
      have HQ2 := Lib.hid hq
      clear hq HQ HR HOK
      go_wp2_with fail
      go_ret
      exact ⟨rfl, HQ2.out, HB.out⟩

end Go.Proofs.Ytgkjglpnnehdbaa
