/- The page's queue: Put, walked. -/
import Derived.Test.YtgkjglpnnehdbaaQ20
set_option linter.unusedVariables false
namespace Go.Proofs.Ytgkjglpnnehdbaa
open Go.RowKit Go.KK

theorem build83 (o : OpD) (now : Int) (w : World) : (Instr.build 83 #[(0, .agg o.cells.toArray), (1, .int .u64 now)]).run Try.prog w = .ok (.agg (EntD.mk o now).cells.toArray) w := by
  unfold OpD.cells EntD.cells
  simp [go_sem]
  rfl
theorem bslice65 (e : EntD) (w : World) : (Instr.buildSlice 65 1 #[(0, .agg e.cells.toArray)]).run Try.prog w = .ok (.slice (some ⟨w.heap.size, 0, none⟩) 1 1) (w.alloc (.cells e.cells.toArray 83)) := by
  unfold EntD.cells OpD.cells
  simp [go_sem]

/-- What the page's Put answers. -/
def RPutPost (B r : Nat) (tk N : Int) (L : List EntD) (o : OpD) (now : Int) (w : World) (e : Ending) (w' : World) : Prop :=
  e = .returned (.tuple #[.int .i64 N, .int .i64 0]) ∧ RAt B w' r tk (L ++ [⟨o, now⟩]) (N + 1) ∧ Frm B RT w w'

set_option maxHeartbeats 400000 in
theorem rput_kind (r : Nat) (o : OpD) (now : Int) (w : World) (h : o.x 0 < 1 ∨ 3 < o.x 0) :
    Calls Try.prog 38 #[.pointer (some ⟨r, 0, none⟩), .agg o.cells.toArray, .int .u64 now] w (PutNo 145 w) := by
  have o0 := o.c0
  rcases h with h | h
  · go_enter Try.func38, Try.ntmps38
    go_wp2
    go_ret2
    exact ⟨rfl, (Below.refl _ _).alloc (Nat.le_refl _) _⟩
  · have h' : ¬ o.x 0 < 1 := by omega
    go_enter Try.func38, Try.ntmps38
    go_wp2
    go_ret2
    exact ⟨rfl, (Below.refl _ _).alloc (Nat.le_refl _) _⟩
set_option maxHeartbeats 400000 in
theorem rput_arg (r : Nat) (o : OpD) (now : Int) (w : World) (hk0 : 1 ≤ o.x 0) (hk1 : o.x 0 ≤ 3) (h : o.v = true ∨ o.f = false) :
    Calls Try.prog 38 #[.pointer (some ⟨r, 0, none⟩), .agg o.cells.toArray, .int .u64 now] w (PutNo 1 w) := by
  have o0 := o.c0
  have o25 := o.c25
  have o26 := o.c26
  have hk0' : ¬ o.x 0 < 1 := by omega
  have hk1' : ¬ 3 < o.x 0 := by omega
  cases hv : o.v with
  | true =>
    rw [hv] at o26
    clear h hv
    go_enter Try.func38, Try.ntmps38
    go_wp2
    go_ret2
    exact ⟨rfl, (Below.refl _ _).alloc (Nat.le_refl _) _⟩
  | false =>
    have hf : o.f = false := by simpa [hv] using h
    rw [hv] at o26
    rw [hf] at o25
    clear h hv hf
    go_enter Try.func38, Try.ntmps38
    go_wp2
    go_ret2
    exact ⟨rfl, (Below.refl _ _).alloc (Nat.le_refl _) _⟩

/-- The last entry's tick, in the world. -/
theorem RAt.last {B : Nat} {w : World} {r : Nat} {tk N : Int} {L : List EntD} (h : RAt B w r tk L N) {x : EntD} (hx : L.getLast? = some x) :
    ∃ g off cap k, w.cell? ⟨r, 1, none⟩ = some (.slice (some ⟨g, off, none⟩) (k + 1) cap) ∧ L.length = k + 1 ∧ w.cell? ⟨g, off + k * 28 + 27, none⟩ = some (.int .u64 x.at_) ∧ k + 1 ≤ 256 := by
  have hne : L ≠ [] := by rintro rfl; simp at hx
  have hpos : 0 < L.length := List.length_pos_iff.2 hne
  obtain ⟨A, cap, _, h1, _, h3, _, _, h2⟩ := h.open
  rw [List.getLast?_eq_getElem?] at hx
  obtain ⟨g, off, rfl, hr, _⟩ := h2 _ _ hx
  refine ⟨g, off, cap, L.length - 1, ?_, by omega, by simpa using hr 27 _ x.c27, by omega⟩
  rw [show L.length - 1 + 1 = L.length by omega]
  exact h1

set_option maxHeartbeats 1000000 in
theorem rput_order {B : Nat} {w : World} {r : Nat} {tk N : Int} {L : List EntD} (h : RAt B w r tk L N) (o : OpD) (now : Int) (hk0 : 1 ≤ o.x 0) (hk1 : o.x 0 ≤ 3) (hv : o.v = false) (hf : o.f = true) (x : EntD) (hx : L.getLast? = some x) (hlt : now < x.at_) :
    Calls Try.prog 38 #[.pointer (some ⟨r, 0, none⟩), .agg o.cells.toArray, .int .u64 now] w (PutNo 7 w) := by
  have o0 := o.c0
  have o25 := o.c25
  have o26 := o.c26
  rw [hv] at o26
  rw [hf] at o25
  have hk0' : ¬ o.x 0 < 1 := by omega
  have hk1' : ¬ 3 < o.x 0 := by omega
  obtain ⟨g, off, cap, k, h1, hk, h2, hL⟩ := (h.below ((Below.refl _ _).alloc (Nat.le_refl _) (.cells o.cells.toArray 33))).last hx
  have hw : IntKind.i64.wrap (k : Int) = k := IntWalk.i64_in _ (by omega)
  have hkk : (k : Int) < (k : Int) + 1 := by omega
  have H1 := Lib.hid h1
  have H2 := Lib.hid h2
  clear hx hv hf h h1 h2 hk
  go_enter Try.func38, Try.ntmps38
  go_wp2_with fail
  have hWB := (Below.refl w.heap.size w).alloc (Nat.le_refl _) (.cells o.cells.toArray 33)
  generalize w.alloc (.cells o.cells.toArray 33) = W at *
  have h1 : ∀ e : ExtOf W, e.wd.cell? ⟨r, 1, none⟩ = some (.slice (some ⟨g, off, none⟩) (k + 1) cap) := fun e => e.cell H1.out
  have h2 : ∀ e : ExtOf W, e.wd.cell? ⟨g, off + k * 28 + 27, none⟩ = some (.int .u64 x.at_) := fun e => e.cell H2.out
  clear o0 o25 o26
  refine wp_region_ext (by kernel_rfl) (by kernel_rfl) ?_
  iterate 24 (quiet_step (fail))
  refine wpQuiet_nil ?_
  rintro _ ⟨e, rfl⟩
  have hBe := below_all hWB e.below
  clear h1 h2
  go_wp2_with fail
  go_ret2
  exact ⟨rfl, hBe⟩
set_option maxHeartbeats 1000000 in
theorem rput_room {B : Nat} {w : World} {r : Nat} {tk N : Int} {L : List EntD} (h : RAt B w r tk L N) (o : OpD) (now : Int) (hk0 : 1 ≤ o.x 0) (hk1 : o.x 0 ≤ 3) (hv : o.v = false) (hf : o.f = true) (hlast : ∀ x, L.getLast? = some x → x.at_ ≤ now) (hl : L.length = 256) :
    Calls Try.prog 38 #[.pointer (some ⟨r, 0, none⟩), .agg o.cells.toArray, .int .u64 now] w (PutNo 223 w) := by
  have o0 := o.c0
  have o25 := o.c25
  have o26 := o.c26
  rw [hv] at o26
  rw [hf] at o25
  have hk0' : ¬ o.x 0 < 1 := by omega
  have hk1' : ¬ 3 < o.x 0 := by omega
  obtain ⟨x, hx⟩ : ∃ x, L.getLast? = some x := ⟨_, List.getLast?_eq_some_getLast (List.ne_nil_of_length_pos (by omega))⟩
  obtain ⟨g, off, cap, k, h1, hk, h2, hL⟩ := (h.below ((Below.refl _ _).alloc (Nat.le_refl _) (.cells o.cells.toArray 33))).last hx
  obtain rfl : k = 255 := by omega
  have hle : ¬ now < x.at_ := by have := hlast x hx; omega
  have hw : IntKind.i64.wrap (255 : Int) = 255 := rfl
  have H1 := Lib.hid h1
  have H2 := Lib.hid h2
  clear hx hv hf h h1 h2 hk hlast hl
  go_enter Try.func38, Try.ntmps38
  go_wp2_with fail
  have hWB := (Below.refl w.heap.size w).alloc (Nat.le_refl _) (.cells o.cells.toArray 33)
  generalize w.alloc (.cells o.cells.toArray 33) = W at *
  have h1 : ∀ e : ExtOf W, e.wd.cell? ⟨r, 1, none⟩ = some (.slice (some ⟨g, off, none⟩) 256 cap) := fun e => e.cell H1.out
  have h2 : ∀ e : ExtOf W, e.wd.cell? ⟨g, off + 255 * 28 + 27, none⟩ = some (.int .u64 x.at_) := fun e => e.cell H2.out
  simp only [Nat.reduceMul] at h2
  clear o0 o25 o26
  refine wp_region_ext (by kernel_rfl) (by kernel_rfl) ?_
  iterate 24 (quiet_step (fail))
  refine wpQuiet_nil ?_
  rintro _ ⟨e, rfl⟩
  have hBe := below_all hWB e.below
  have h3 := h1 e
  clear h1 h2
  go_wp2_with fail
  go_ret2
  exact ⟨rfl, hBe⟩

/-- Behind the append and the count: the object. -/
theorem rput_fin {B r : Nat} {tk N : Int} {L : List EntD} {o : OpD} {now : Int} {w V : World} {sv : Value} (hN0 : 0 ≤ N) (hN1 : N ≤ 4611686018427387904) (hw : Frm B RT w V) (hv : ∃ v0, V.heap[r]? = some (.cells #[.int .u64 tk, v0, .int .i64 N] 67 (0, 0))) (hB : B ≤ r)
    (hs : SOwn V B 83 28 sv (L.length + 1) ((entRows L).flatten ++ (EntD.mk o now).cells)) (hL : L.length < 256) (hok : ∀ e ∈ L ++ [⟨o, now⟩], e.OK) :
    RAt B ((V.setCell ⟨r, 1, none⟩ sv).setCell ⟨r, 2, none⟩ (.int .i64 (N + 1))) r tk (L ++ [⟨o, now⟩]) (N + 1) ∧ Frm B RT w ((V.setCell ⟨r, 1, none⟩ sv).setCell ⟨r, 2, none⟩ (.int .i64 (N + 1))) := by
  obtain ⟨v0, hv⟩ := hv
  have h1 := heap_setCell_same V r 1 _ 67 sv hv
  have h2 := heap_setCell_same _ r 2 _ 67 (.int .i64 (N + 1)) h1
  refine ⟨⟨sv, h2, hB, ?_, by simp; omega, hok⟩, (hw.trans (Frm.of_grown (setCell_grown _ _ _) hB hv rfl)).trans (Frm.of_grown (setCell_grown _ _ _) hB h1 rfl)⟩
  have := (hs.grown (setCell_grown r 1 sv) hv (by decide)).grown (setCell_grown r 2 (.int .i64 (N + 1))) h1 (by decide)
  simpa [entRows] using this

set_option maxRecDepth 100000 in
set_option maxHeartbeats 1000000 in
/-- The regions from the append on. -/
theorem rput_ok {B : Nat} {w : World} {r : Nat} {tk N : Int} {L : List EntD} (h : RAt B w r tk L N) (hB : B ≤ w.heap.size) (o : OpD) (now : Int) (hn0 : 0 ≤ now) (hn1 : now ≤ 18446744073709551615) (ha0 : 0 ≤ o.x 3) (ha1 : o.x 3 ≤ 18446744073709551615)
    (hN0 : 0 ≤ N) (hN1 : N ≤ 4611686018427387904) (hk0 : 1 ≤ o.x 0) (hk1 : o.x 0 ≤ 3) (hv : o.v = false) (hf : o.f = true) (hlast : ∀ x, L.getLast? = some x → x.at_ ≤ now) (hl : L.length < 256) :
    Calls Try.prog 38 #[.pointer (some ⟨r, 0, none⟩), .agg o.cells.toArray, .int .u64 now] w (RPutPost B r tk N L o now w) := by
  have o0 := o.c0
  have o25 := o.c25
  have o26 := o.c26
  rw [hv] at o26
  rw [hf] at o25
  have hk0' : ¬ o.x 0 < 1 := by omega
  have hk1' : ¬ 3 < o.x 0 := by omega
  have HW := Lib.hid (h.below ((Below.refl _ _).alloc (Nat.le_refl _) (.cells o.cells.toArray 33)))
  have hrl := h.lt
  have HH := Lib.hid h
  have HB := Lib.hid hB
  clear hv hf h hB
  go_enter Try.func38, Try.ntmps38
  go_wp2_with fail
  have hWB := (Below.refl w.heap.size w).alloc (Nat.le_refl _) (.cells o.cells.toArray 33)
  have hWo := block_new w (.cells o.cells.toArray 33)
  have hWs : (w.alloc (.cells o.cells.toArray 33)).heap.size = w.heap.size + 1 := by simp
  generalize w.alloc (.cells o.cells.toArray 33) = W at *
  have HWO := Lib.hid hWo
  have HWB := Lib.hid hWB
  have HWS := Lib.hid hWs
  have hL : ¬ 256 ≤ L.length := by omega
  have HL := Lib.hid hl
  clear o0 o25 o26 hWo hWB hWs hl
  rcases Nat.eq_zero_or_pos L.length with hz | hz
  · obtain ⟨A, cap, _, hc1, _⟩ := HW.out.open
    have h1 : ∀ e : ExtOf W, e.wd.cell? ⟨r, 1, none⟩ = some (.slice A 0 cap) := fun e => by rw [e.cell hc1, hz]
    have h2 : True := trivial
    clear hc1 hz
    refine wp_region_ext (by kernel_rfl) (by kernel_rfl) ?_
    iterate 24 (((with_reducible refine wpQuiet_step (fun K hK => ?_)); go_simp; with_reducible refine hK _ ?_; clear hK K))
    refine wpQuiet_nil ?_
    rintro _ ⟨e, rfl⟩
    have hVB := below_all HWB.out e.below
    have hR := HW.out.below e.below
    have hVo := e.block HWO.out
    clear h1 h2
    generalize e.wd = V at *
    obtain ⟨A, vcap, _, hc1, _, _, hok, hso, _⟩ := hR.open
    have hb : ∃ v0, V.heap[r]? = some (.cells #[.int .u64 tk, v0, .int .i64 N] 67 (0, 0)) ∧ B ≤ r := by
      obtain ⟨v0, h1, h2, _⟩ := hR
      exact ⟨v0, h1, h2⟩
    obtain ⟨v0, hb, hBr⟩ := hb
    have hv0 : v0 = .slice A L.length vcap := by
      rw [cell_of_row _ r 1 _ _ _ hb] at hc1
      exact Option.some.inj hc1
    have HVB := Lib.hid hVB
    have HVO := Lib.hid hVo
    have HBB := Lib.hid hb
    have HOK := Lib.hid hok
    have HSO := Lib.hid hso
    have HV0 := Lib.hid hv0
    clear hVB hVo hb hok hso hv0 hR
    go_wp2_with fail
    clear hc1
    have hc1 : ∀ e : KeepOf V (fun i => i == r || i == w.heap.size), e.wd.cell? ⟨r, 1, none⟩ = some (.slice A L.length vcap) := fun e => by
      rw [cell_of_row _ r 1 _ _ _ (e.block (by simp) HBB.out), HV0.out]; rfl
    have hco : ∀ e : KeepOf V (fun i => i == r || i == w.heap.size), e.wd.rangeAt w.heap.size 0 o.cells := fun e => range_block (e.block (by simp) HVO.out)
    have HCO := Lib.hid hco
    clear hco
    refine wp_region_headtail (fun w' => ∃ e : KeepOf V (fun i => i == r || i == w.heap.size), w' = e.wd) 12 [0, 1, 2, 3, 4, 5, 6, 7] [8, 9, 10, 11, 12] (by kernel_rfl) (by kernel_rfl) (fun d _ _ _ _ h => by cases d <;> exact h) (KeepOf.of fun _ _ => rfl) ?_
    simp only [List.map_cons, List.map_nil, List.getD_cons_zero, List.getD_cons_succ]
    iterate 5 (((with_reducible refine wpHead_step (fun K hK => ?_)); go_simp; refine hK _ ?_; clear hK K))
    refine wpHead_load rfl 33 _ rfl w.heap.size 0 rfl o.cells _ HCO.out tu33 rfl ts33 ?_
    ((with_reducible refine wpHead_step (fun K hK => ?_)); go_simp; refine hK _ ?_; clear hK K)
    refine wpHead_build2 rfl 83 0 1 _ _ rfl _ (build83 o now) ?_
    refine wpHead_nil ?_
    refine wpTail_of_list ?_
    refine wpList_bslice1 rfl 65 1 0 _ rfl _ (bslice65 _ _) ?_
    have hrV := block_lt HBB.out
    have hoV := block_lt HVO.out
    have hD : V.drew.heap = V.heap := rfl
    refine wpList_end ⟨fun _ => KeepOf.of fun i hi => (Below.heap_alloc V.drew _ i (by simp at hi; rcases hi with rfl | rfl <;> simpa using ‹_›)), ?_⟩
    have hB1 : Below V.heap.size V (V.drew.alloc (.cells (EntD.mk o now).cells.toArray 83)) := (Below.refl _ _).drew.alloc (Nat.le_refl _) _
    have hX1 : (V.drew.alloc (.cells (EntD.mk o now).cells.toArray 83)).heap[V.heap.size]? = some (.cells (EntD.mk o now).cells.toArray 83 (0, 0)) := heap_alloc_new V.drew _
    generalize V.drew.alloc (.cells (EntD.mk o now).cells.toArray 83) = V1 at *
    refine wpTail_of_list ?_
    refine wpList_append_sown rfl _ _ 65 65 rfl B 83 _ 28 208 tu65 info83 rfl (by decide) (.slice A L.length vcap) L.length (entRows L).flatten rfl (HSO.out.below hB1) _ 1 (EntD.mk o now).cells rfl (Src.ofSlice V1 tu65 ⟨V.heap.size, 0, none⟩ 1 1 _ rfl (fun j u hu => by rw [Addr.add_mid]; exact range_block hX1 j u hu) (EntD.one _)) (by unfold maxLen; have := HL.out; omega) (by have := HL.out; omega) (by have := HVB.out.size; have := hB1.size; have := HB.out; omega) RT rfl ?_
    intro sv V2 hs2 hf2 hk2
    obtain ⟨A2, cap2, rfl⟩ : ∃ A2 cap2, sv = .slice A2 (L.length + 1) cap2 := by obtain ⟨_, A2, cap2, h, _⟩ := hs2; exact ⟨A2, cap2, h⟩
    have hS2 : ∃ e : KeepOf V (fun i => i == r || i == w.heap.size), V2 = e.wd := KeepOf.of fun i hi => by
      simp at hi
      rcases hi with rfl | rfl
      · rw [hk2 _ _ _ _ (block_below HBB.out hB1) (by decide), hB1.block _ hrV]
      · rw [hk2 _ _ _ _ (block_below HVO.out hB1) (by decide), hB1.block _ hoV]
    refine wpList_end ⟨fun _ => hS2, ?_⟩
    have hr2 := (hk2 _ _ _ _ (block_below HBB.out hB1) (by decide)).trans (block_below HBB.out hB1)
    have hfz : ∀ j, V2.frozen? ⟨r, j, none⟩ = false := fun j => frozen_of_row _ r j _ 67 hr2
    have hc1 : V2.cell? ⟨r, 1, none⟩ = some v0 := by rw [cell_of_row _ r 1 _ _ _ hr2]; rfl
    have hc2 : V2.cell? ⟨r, 2, none⟩ = some (.int .i64 N) := by rw [cell_of_row _ r 2 _ _ _ hr2]; rfl
    have hF : Frm B RT w V2 := ((Frm.of_below HVB.out).trans (Frm.of_below hB1)).trans hf2
    have HF := Lib.hid hF
    have HS := Lib.hid hs2
    have HR := Lib.hid hr2
    have HS2 := Lib.hid hS2
    clear hF hs2 hr2 hS2 hk2 hf2 hB1 hX1 hD
    (refine wpTail_of_list ?_; refine wpList_plain rfl (fun K hK => ?_); go_simp; refine hK _ _ ?_; clear hK K; refine wpList_end ⟨?_, ?_⟩)
    · exact fun _ => HS2.out
    (refine wpTail_of_list ?_; refine wpList_plain rfl (fun K hK => ?_); go_simp; refine hK _ _ ?_; clear hK K; refine wpList_end ⟨?_, ?_⟩)
    · exact fun _ => HS2.out
    (refine wpTail_of_list ?_; refine wpList_plain rfl (fun K hK => ?_); go_simp; refine hK _ _ ?_; clear hK K; refine wpList_end ⟨?_, ?_⟩)
    · exact fun h => absurd rfl h
    refine wpTail_nil ?_
    have hN2 : ¬ N + 1 - 1 < 0 := by omega
    clear hc1
    go_wp2_with fail
    go_ret2
    have hfin := rput_fin hN0 hN1 HF.out ⟨_, HR.out⟩ hBr HS.out HL.out (fun e he => by
      rcases List.mem_append.1 he with he | he
      · exact HOK.out e he
      · simp only [List.mem_singleton] at he; subst he; exact ⟨⟨hn0, hn1⟩, ha0, ha1⟩)
    exact ⟨rfl, hfin.1, hfin.2⟩
  · obtain ⟨x, hx⟩ : ∃ x, L.getLast? = some x := ⟨_, List.getLast?_eq_some_getLast (List.ne_nil_of_length_pos hz)⟩
    have hle : ¬ now < x.at_ := by have := hlast x hx; omega
    obtain ⟨g, off, cap, k, hc1, hk, hc2, hkL⟩ := HW.out.last hx
    have hw : IntKind.i64.wrap (k : Int) = k := IntWalk.i64_in _ (by omega)
    have hkk : (k : Int) < (k : Int) + 1 := by omega
    have h1 : ∀ e : ExtOf W, e.wd.cell? ⟨r, 1, none⟩ = some (.slice (some ⟨g, off, none⟩) (k + 1) cap) := fun e => e.cell hc1
    have h2 : ∀ e : ExtOf W, e.wd.cell? ⟨g, off + k * 28 + 27, none⟩ = some (.int .u64 x.at_) := fun e => e.cell hc2
    clear hc1 hc2 hk hx
    refine wp_region_ext (by kernel_rfl) (by kernel_rfl) ?_
    iterate 24 (((with_reducible refine wpQuiet_step (fun K hK => ?_)); go_simp; with_reducible refine hK _ ?_; clear hK K))
    refine wpQuiet_nil ?_
    rintro _ ⟨e, rfl⟩
    have hVB := below_all HWB.out e.below
    have hR := HW.out.below e.below
    have hVo := e.block HWO.out
    clear h1 h2
    generalize e.wd = V at *
    obtain ⟨A, vcap, _, hc1, _, _, hok, hso, _⟩ := hR.open
    have hb : ∃ v0, V.heap[r]? = some (.cells #[.int .u64 tk, v0, .int .i64 N] 67 (0, 0)) ∧ B ≤ r := by
      obtain ⟨v0, h1, h2, _⟩ := hR
      exact ⟨v0, h1, h2⟩
    obtain ⟨v0, hb, hBr⟩ := hb
    have hv0 : v0 = .slice A L.length vcap := by
      rw [cell_of_row _ r 1 _ _ _ hb] at hc1
      exact Option.some.inj hc1
    have HVB := Lib.hid hVB
    have HVO := Lib.hid hVo
    have HBB := Lib.hid hb
    have HOK := Lib.hid hok
    have HSO := Lib.hid hso
    have HV0 := Lib.hid hv0
    clear hVB hVo hb hok hso hv0 hR
    go_wp2_with fail
    clear hc1
    have hc1 : ∀ e : KeepOf V (fun i => i == r || i == w.heap.size), e.wd.cell? ⟨r, 1, none⟩ = some (.slice A L.length vcap) := fun e => by
      rw [cell_of_row _ r 1 _ _ _ (e.block (by simp) HBB.out), HV0.out]; rfl
    have hco : ∀ e : KeepOf V (fun i => i == r || i == w.heap.size), e.wd.rangeAt w.heap.size 0 o.cells := fun e => range_block (e.block (by simp) HVO.out)
    have HCO := Lib.hid hco
    clear hco
    refine wp_region_headtail (fun w' => ∃ e : KeepOf V (fun i => i == r || i == w.heap.size), w' = e.wd) 12 [0, 1, 2, 3, 4, 5, 6, 7] [8, 9, 10, 11, 12] (by kernel_rfl) (by kernel_rfl) (fun d _ _ _ _ h => by cases d <;> exact h) (KeepOf.of fun _ _ => rfl) ?_
    simp only [List.map_cons, List.map_nil, List.getD_cons_zero, List.getD_cons_succ]
    iterate 5 (((with_reducible refine wpHead_step (fun K hK => ?_)); go_simp; refine hK _ ?_; clear hK K))
    refine wpHead_load rfl 33 _ rfl w.heap.size 0 rfl o.cells _ HCO.out tu33 rfl ts33 ?_
    ((with_reducible refine wpHead_step (fun K hK => ?_)); go_simp; refine hK _ ?_; clear hK K)
    refine wpHead_build2 rfl 83 0 1 _ _ rfl _ (build83 o now) ?_
    refine wpHead_nil ?_
    refine wpTail_of_list ?_
    refine wpList_bslice1 rfl 65 1 0 _ rfl _ (bslice65 _ _) ?_
    have hrV := block_lt HBB.out
    have hoV := block_lt HVO.out
    have hD : V.drew.heap = V.heap := rfl
    refine wpList_end ⟨fun _ => KeepOf.of fun i hi => (Below.heap_alloc V.drew _ i (by simp at hi; rcases hi with rfl | rfl <;> simpa using ‹_›)), ?_⟩
    have hB1 : Below V.heap.size V (V.drew.alloc (.cells (EntD.mk o now).cells.toArray 83)) := (Below.refl _ _).drew.alloc (Nat.le_refl _) _
    have hX1 : (V.drew.alloc (.cells (EntD.mk o now).cells.toArray 83)).heap[V.heap.size]? = some (.cells (EntD.mk o now).cells.toArray 83 (0, 0)) := heap_alloc_new V.drew _
    generalize V.drew.alloc (.cells (EntD.mk o now).cells.toArray 83) = V1 at *
    refine wpTail_of_list ?_
    refine wpList_append_sown rfl _ _ 65 65 rfl B 83 _ 28 208 tu65 info83 rfl (by decide) (.slice A L.length vcap) L.length (entRows L).flatten rfl (HSO.out.below hB1) _ 1 (EntD.mk o now).cells rfl (Src.ofSlice V1 tu65 ⟨V.heap.size, 0, none⟩ 1 1 _ rfl (fun j u hu => by rw [Addr.add_mid]; exact range_block hX1 j u hu) (EntD.one _)) (by unfold maxLen; have := HL.out; omega) (by have := HL.out; omega) (by have := HVB.out.size; have := hB1.size; have := HB.out; omega) RT rfl ?_
    intro sv V2 hs2 hf2 hk2
    obtain ⟨A2, cap2, rfl⟩ : ∃ A2 cap2, sv = .slice A2 (L.length + 1) cap2 := by obtain ⟨_, A2, cap2, h, _⟩ := hs2; exact ⟨A2, cap2, h⟩
    have hS2 : ∃ e : KeepOf V (fun i => i == r || i == w.heap.size), V2 = e.wd := KeepOf.of fun i hi => by
      simp at hi
      rcases hi with rfl | rfl
      · rw [hk2 _ _ _ _ (block_below HBB.out hB1) (by decide), hB1.block _ hrV]
      · rw [hk2 _ _ _ _ (block_below HVO.out hB1) (by decide), hB1.block _ hoV]
    refine wpList_end ⟨fun _ => hS2, ?_⟩
    have hr2 := (hk2 _ _ _ _ (block_below HBB.out hB1) (by decide)).trans (block_below HBB.out hB1)
    have hfz : ∀ j, V2.frozen? ⟨r, j, none⟩ = false := fun j => frozen_of_row _ r j _ 67 hr2
    have hc1 : V2.cell? ⟨r, 1, none⟩ = some v0 := by rw [cell_of_row _ r 1 _ _ _ hr2]; rfl
    have hc2 : V2.cell? ⟨r, 2, none⟩ = some (.int .i64 N) := by rw [cell_of_row _ r 2 _ _ _ hr2]; rfl
    have hF : Frm B RT w V2 := ((Frm.of_below HVB.out).trans (Frm.of_below hB1)).trans hf2
    have HF := Lib.hid hF
    have HS := Lib.hid hs2
    have HR := Lib.hid hr2
    have HS2 := Lib.hid hS2
    clear hF hs2 hr2 hS2 hk2 hf2 hB1 hX1 hD
    (refine wpTail_of_list ?_; refine wpList_plain rfl (fun K hK => ?_); go_simp; refine hK _ _ ?_; clear hK K; refine wpList_end ⟨?_, ?_⟩)
    · exact fun _ => HS2.out
    (refine wpTail_of_list ?_; refine wpList_plain rfl (fun K hK => ?_); go_simp; refine hK _ _ ?_; clear hK K; refine wpList_end ⟨?_, ?_⟩)
    · exact fun _ => HS2.out
    (refine wpTail_of_list ?_; refine wpList_plain rfl (fun K hK => ?_); go_simp; refine hK _ _ ?_; clear hK K; refine wpList_end ⟨?_, ?_⟩)
    · exact fun h => absurd rfl h
    refine wpTail_nil ?_
    have hN2 : ¬ N + 1 - 1 < 0 := by omega
    clear hc1
    go_wp2_with fail
    go_ret2
    have hfin := rput_fin hN0 hN1 HF.out ⟨_, HR.out⟩ hBr HS.out HL.out (fun e he => by
      rcases List.mem_append.1 he with he | he
      · exact HOK.out e he
      · simp only [List.mem_singleton] at he; subst he; exact ⟨⟨hn0, hn1⟩, ha0, ha1⟩)
    exact ⟨rfl, hfin.1, hfin.2⟩

/-- Put, whatever it is given. -/
theorem rput_any {B : Nat} {w : World} {r : Nat} {tk N : Int} {L : List EntD} (h : RAt B w r tk L N) (hB : B ≤ w.heap.size) (o : OpD) (now : Int) (hn0 : 0 ≤ now) (hn1 : now ≤ 18446744073709551615) (ha0 : 0 ≤ o.x 3) (ha1 : o.x 3 ≤ 18446744073709551615)
    (hN0 : 0 ≤ N) (hN1 : N ≤ 4611686018427387904) :
    (putErr L o now = 0 ∧ Calls Try.prog 38 #[.pointer (some ⟨r, 0, none⟩), .agg o.cells.toArray, .int .u64 now] w (RPutPost B r tk N L o now w)) ∨
    (putErr L o now ≠ 0 ∧ Calls Try.prog 38 #[.pointer (some ⟨r, 0, none⟩), .agg o.cells.toArray, .int .u64 now] w (PutNo (putErr L o now) w)) := by
  unfold putErr
  have hlen : L.length ≤ 256 := by obtain ⟨_, _, _, _, h4, _⟩ := h; exact h4
  by_cases h1 : o.x 0 < 1 ∨ 3 < o.x 0
  · rw [if_pos h1]; exact .inr ⟨by omega, rput_kind r o now w h1⟩
  rw [if_neg h1]
  by_cases h2 : o.v = true ∨ o.f = false
  · rw [if_pos h2]; exact .inr ⟨by omega, rput_arg r o now w (by omega) (by omega) h2⟩
  rw [if_neg h2]
  have hv : o.v = false := by cases hv : o.v <;> simp_all
  have hf : o.f = true := by cases hf : o.f <;> simp_all
  cases hx : L.getLast? with
  | none =>
    have hnil : L = [] := List.getLast?_eq_none_iff.1 hx
    subst hnil
    exact .inl ⟨by simp, rput_ok h hB o now hn0 hn1 ha0 ha1 hN0 hN1 (by omega) (by omega) hv hf (by simp) (by simp)⟩
  | some x =>
    by_cases h3 : now < x.at_
    · simp only [h3, decide_true, if_true]; exact .inr ⟨by omega, rput_order h o now (by omega) (by omega) hv hf x hx h3⟩
    · simp only [h3, decide_false, Bool.false_eq_true, if_false]
      have hlast : ∀ y, L.getLast? = some y → y.at_ ≤ now := fun y hy => by rw [hx] at hy; cases hy; omega
      by_cases h4 : L.length = 256
      · rw [if_pos h4]; exact .inr ⟨by omega, rput_room h o now (by omega) (by omega) hv hf hlast h4⟩
      · rw [if_neg h4]; exact .inl ⟨rfl, rput_ok h hB o now hn0 hn1 ha0 ha1 hN0 hN1 (by omega) (by omega) hv hf hlast (by omega)⟩
end Go.Proofs.Ytgkjglpnnehdbaa
