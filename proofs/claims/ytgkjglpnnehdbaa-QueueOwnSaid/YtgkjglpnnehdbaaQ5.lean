/- Put, walked. -/
import Derived.Test.YtgkjglpnnehdbaaQ4
namespace Go.Proofs.Ytgkjglpnnehdbaa
open Go.RowKit Go.KK

/-- What Put answers. -/
def putErr (L : List EntD) (o : OpD) (now : Int) : Int :=
  if o.x 0 < 1 ∨ 3 < o.x 0 then 145
  else if o.v = true ∨ o.f = false then 1
  else if (match L.getLast? with | some e => decide (now < e.at_) | none => false) = true then 7
  else if L.length = 256 then 223
  else 0
def PutPost (b : Nat) (tk put : Int) (L : List EntD) (o : OpD) (now : Int) (w : World) (e : Ending) (w' : World) : Prop :=
  e = .returned (.tuple #[.int .i64 put, .int .i64 0]) ∧ QAt w' b tk (L ++ [⟨o, now⟩]) (put + 1) ∧ w.grownBy w' (some b)

theorem put_fin {w V : World} {b k fr : Nat} {c : Array Value} {tk put : Int} {L : List EntD} {o : OpD} {now : Int} (hc : QC c tk fr L put) (hl : L.length < 256) (he : (EntD.mk o now).OK) (hk : (fr + L.length) % 256 = k)
    (hb : V.heap[b]? = some (.cells (c.toList.take (1 + k * 28) ++ (EntD.mk o now).cells ++ c.toList.drop (1 + k * 28 + (EntD.mk o now).cells.length)).toArray 73 (0, 0))) (hg : w.grownBy V (some b)) :
    PutPost b tk put L o now w (.returned (.tuple #[.int .i64 put, .int .i64 0])) ((V.setCell ⟨b, 7170, none⟩ (.int .i64 (L.length + 1))).setCell ⟨b, 7171, none⟩ (.int .i64 (put + 1))) := by
  have h := hc.push hl ⟨o, now⟩ he
  rw [hk] at h
  exact ⟨rfl, ⟨_, fr, heap_setCell_same _ b 7171 _ 73 _ (heap_setCell_same V b 7170 _ 73 _ hb), h⟩, grown_trans (grown_trans hg (setCell_grown _ _ _)) (setCell_grown _ _ _)⟩

set_option maxHeartbeats 1000000 in
theorem put_ok {w : World} {b : Nat} {tk put : Int} {L : List EntD} (hq : QAt w b tk L put) (o : OpD) (now : Int) (hn0 : 0 ≤ now) (hn1 : now ≤ 18446744073709551615) (ha0 : 0 ≤ o.x 3) (ha1 : o.x 3 ≤ 18446744073709551615)
    (hp : put ≤ 4611686018427387904) (hk0 : 1 ≤ o.x 0) (hk1 : o.x 0 ≤ 3) (hv : o.v = false) (hf : o.f = true) (hlast : ∀ x, L.getLast? = some x → x.at_ ≤ now) (hl : L.length < 256) :
    Calls Try.prog 20 #[.pointer (some ⟨b, 0, none⟩), .agg o.cells.toArray, .int .u64 now] w (PutPost b tk put L o now w) := by
  have HM : Hid (∀ X, Calls Try.prog 32 #[.pointer (some ⟨b, 0, none⟩)] (w.alloc X) fun e w' => e = .returned (.bool true) ∧ w.alloc X = w') := Lib.hid fun X => made_q (hq.below ((Below.refl _ _).alloc (Nat.le_refl _) _))
  have HA : Hid (∀ X x, L.getLast? = some x → Calls Try.prog 33 #[.pointer (some ⟨b, 0, none⟩), .int .i64 ((L.length : Int) - 1)] (w.alloc X) fun e w' => e = .returned (.agg x.cells.toArray) ∧ Below (w.alloc X).heap.size (w.alloc X) w') :=
    Lib.hid fun X x hx => by
      have hne : L ≠ [] := by rintro rfl; simp at hx
      have hpos : 0 < L.length := List.length_pos_iff.2 hne
      exact at_q (hq.below ((Below.refl _ _).alloc (Nat.le_refl _) _)) _ (by omega) x (by rw [← hx, List.getLast?_eq_getElem?]; congr 1; omega)
  obtain ⟨c, fr, hb, hc⟩ := hq
  have hbl := block_lt hb
  have hcn : w.cell? ⟨b, 7170, none⟩ = some (.int .i64 L.length) := by rw [cell_of_row w b 7170 c 73 _ hb]; exact hc.hn
  have hput0 := hc.put0
  have hfr := hc.frl
  have hw := wrap_mod fr L.length hfr hl
  have o0 := o.c0
  have o25 := o.c25
  have o26 := o.c26
  rw [hv] at o26
  rw [hf] at o25
  have HQ := Lib.hid hc
  have HB := Lib.hid hb
  clear hc hb
  have hk0' : ¬ o.x 0 < 1 := by omega
  have hk1' : ¬ 3 < o.x 0 := by omega
  have HF := Lib.hid hf
  have HV := Lib.hid hv
  clear hf hv
  have hmid : ∀ W : World, W.heap[b]? = some (.cells c 73 (0, 0)) → (∀ e : ExtOf W, e.wd.cell? ⟨b, 7169, none⟩ = some (.int .i64 fr)) ∧ (∀ e : ExtOf W, e.wd.cell? ⟨b, 7170, none⟩ = some (.int .i64 L.length)) := fun W hWb =>
    ⟨fun e => by rw [cell_of_row _ b 7169 c 73 _ (e.block hWb)]; exact HQ.out.hf, fun e => by rw [cell_of_row _ b 7170 c 73 _ (e.block hWb)]; exact HQ.out.hn⟩
  have HMID := Lib.hid hmid
  clear hmid
  rcases Nat.eq_zero_or_pos L.length with hz | hz
  · have hz1 : ¬ 0 < L.length := by omega
    clear hz
    go_enter Try.func20, Try.ntmps20
    go_wp2_with (go_at_call 32; refine (HM.out _).mono ?_; rintro e w' ⟨rfl, rfl⟩)
    have hWb := block_alloc HB.out (.cells o.cells.toArray 33)
    have hWo := block_new w (.cells o.cells.toArray 33)
    have hWB := (Below.refl w.heap.size w).alloc (Nat.le_refl _) (.cells o.cells.toArray 33)
    generalize w.alloc (.cells o.cells.toArray 33) = W at *
    obtain ⟨hm1, hm2⟩ := HMID.out _ hWb
    refine wp_region_ext_tail 17 (by kernel_rfl) (by kernel_rfl) ?_
    simp only [List.take_succ_cons, List.take_zero, List.drop_succ_cons, List.drop_zero]
    generalize hkk : (fr + L.length) % 256 = k at *
    have hk : (k : Int) < 256 := by omega
    have HK := Lib.hid hkk
    clear hkk
    iterate 11 (quiet_step (fail))
    refine wpQuiet_load_ext rfl 33 _ rfl w.heap.size 0 rfl o.cells _ (fun e => range_block (e.block hWo)) tu33 rfl ts33 ?_
    quiet_step (fail)
    refine wpQuiet_build2 rfl 46 0 1 _ _ rfl _ (build46 o now) ?_
    iterate 3 (quiet_step (fail))
    refine wpQuiet_nil ?_
    rintro _ ⟨e, rfl⟩
    have hb3 := e.block hWb
    have hcs := HQ.out.size
    have hkN : k < 256 := by omega
    have hb4 := setCells_block (o := 1 + k * 28) hb3 (EntD.mk o now).cells (by rw [EntD.length]; omega)
    have hg4 : w.grownBy (e.wd.setCells b (1 + k * 28) (EntD.mk o now).cells) (some b) := grown_trans (grown_of_below (below_all hWB e.below) _) (setCells_grown _ _)
    refine wpList_store_mid rfl 46 _ _ rfl b (1 + k * 28) (EntD.mk o now).cells.toArray rfl rfl (there_block hb3 _ 28 (by omega)) ts46 (all_oneCell_toArray (EntD.one _)) ?_
    have hV1 : (e.wd.setCells b (1 + k * 28) (EntD.mk o now).cells).cell? ⟨b, 7170, none⟩ = some (.int .i64 L.length) := by
      rw [cell_of_row _ b 7170 _ 73 _ hb4, List.getElem?_toArray, splice_get _ _ _ (by rw [EntD.length]; simp; omega), if_neg (by rw [EntD.length]; omega)]
      simpa using HQ.out.hn
    have hV2 : (e.wd.setCells b (1 + k * 28) (EntD.mk o now).cells).cell? ⟨b, 7171, none⟩ = some (.int .i64 put) := by
      rw [cell_of_row _ b 7171 _ 73 _ hb4, List.getElem?_toArray, splice_get _ _ _ (by rw [EntD.length]; simp; omega), if_neg (by rw [EntD.length]; omega)]
      simpa using HQ.out.hp
    have hV3 := fun j => frozen_of_row _ b j _ 73 hb4
    rw [List.toList_toArray]
    have HB4 := Lib.hid hb4
    have HG4 := Lib.hid hg4
    clear hb4 hg4 hb3 hm1 hm2 hWb hWo hWB
    generalize e.wd.setCells b (1 + k * 28) (EntD.mk o now).cells = V at *
    go_wp2
    go_ret2
    exact put_fin HQ.out hl ⟨⟨hn0, hn1⟩, ha0, ha1⟩ HK.out HB4.out HG4.out
  · have hz1 : 0 < L.length := by omega
    obtain ⟨x, hx⟩ : ∃ x, L.getLast? = some x := ⟨_, List.getLast?_eq_some_getLast (List.ne_nil_of_length_pos hz)⟩
    have hle : ¬ now < x.at_ := by have := hlast x hx; omega
    have HX := Lib.hid hx
    have hfa := field_at x
    clear hz hx hlast
    go_enter Try.func20, Try.ntmps20
    go_wp2_with (go_at_call 32; refine (HM.out _).mono ?_; rintro e w' ⟨rfl, rfl⟩)
    refine (HA.out _ x HX.out).mono ?_
    rintro e W ⟨rfl, hWB0⟩
    have hWb := block_below (block_alloc HB.out (.cells o.cells.toArray 33)) hWB0
    have hWo := block_below (block_new w (.cells o.cells.toArray 33)) hWB0
    have hWB := below_all ((Below.refl w.heap.size w).alloc (Nat.le_refl _) (.cells o.cells.toArray 33)) hWB0
    clear hWB0
    have hWn : W.cell? ⟨b, 7170, none⟩ = some (.int .i64 L.length) := by rw [cell_of_row _ b 7170 c 73 _ hWb]; exact HQ.out.hn
    go_wp2_with fail
    clear hWn
    obtain ⟨hm1, hm2⟩ := HMID.out _ hWb
    refine wp_region_ext_tail 17 (by kernel_rfl) (by kernel_rfl) ?_
    simp only [List.take_succ_cons, List.take_zero, List.drop_succ_cons, List.drop_zero]
    generalize hkk : (fr + L.length) % 256 = k at *
    have hk : (k : Int) < 256 := by omega
    have HK := Lib.hid hkk
    clear hkk
    iterate 11 (quiet_step (fail))
    refine wpQuiet_load_ext rfl 33 _ rfl w.heap.size 0 rfl o.cells _ (fun e => range_block (e.block hWo)) tu33 rfl ts33 ?_
    quiet_step (fail)
    refine wpQuiet_build2 rfl 46 0 1 _ _ rfl _ (build46 o now) ?_
    iterate 3 (quiet_step (fail))
    refine wpQuiet_nil ?_
    rintro _ ⟨e, rfl⟩
    have hb3 := e.block hWb
    have hcs := HQ.out.size
    have hkN : k < 256 := by omega
    have hb4 := setCells_block (o := 1 + k * 28) hb3 (EntD.mk o now).cells (by rw [EntD.length]; omega)
    have hg4 : w.grownBy (e.wd.setCells b (1 + k * 28) (EntD.mk o now).cells) (some b) := grown_trans (grown_of_below (below_all hWB e.below) _) (setCells_grown _ _)
    refine wpList_store_mid rfl 46 _ _ rfl b (1 + k * 28) (EntD.mk o now).cells.toArray rfl rfl (there_block hb3 _ 28 (by omega)) ts46 (all_oneCell_toArray (EntD.one _)) ?_
    have hV1 : (e.wd.setCells b (1 + k * 28) (EntD.mk o now).cells).cell? ⟨b, 7170, none⟩ = some (.int .i64 L.length) := by
      rw [cell_of_row _ b 7170 _ 73 _ hb4, List.getElem?_toArray, splice_get _ _ _ (by rw [EntD.length]; simp; omega), if_neg (by rw [EntD.length]; omega)]
      simpa using HQ.out.hn
    have hV2 : (e.wd.setCells b (1 + k * 28) (EntD.mk o now).cells).cell? ⟨b, 7171, none⟩ = some (.int .i64 put) := by
      rw [cell_of_row _ b 7171 _ 73 _ hb4, List.getElem?_toArray, splice_get _ _ _ (by rw [EntD.length]; simp; omega), if_neg (by rw [EntD.length]; omega)]
      simpa using HQ.out.hp
    have hV3 := fun j => frozen_of_row _ b j _ 73 hb4
    rw [List.toList_toArray]
    have HB4 := Lib.hid hb4
    have HG4 := Lib.hid hg4
    clear hb4 hg4 hb3 hm1 hm2 hWb hWo hWB
    generalize e.wd.setCells b (1 + k * 28) (EntD.mk o now).cells = V at *
    go_wp2
    go_ret2
    exact put_fin HQ.out hl ⟨⟨hn0, hn1⟩, ha0, ha1⟩ HK.out HB4.out HG4.out



def PutNo (er : Int) (w : World) (e : Ending) (w' : World) : Prop := e = .returned (.tuple #[.int .i64 0, .int .i64 er]) ∧ Below w.heap.size w w'
set_option maxHeartbeats 400000 in
theorem put_kind {w : World} {b : Nat} {tk put : Int} {L : List EntD} (hq : QAt w b tk L put) (o : OpD) (now : Int) (h : o.x 0 < 1 ∨ 3 < o.x 0) :
    Calls Try.prog 20 #[.pointer (some ⟨b, 0, none⟩), .agg o.cells.toArray, .int .u64 now] w (PutNo 145 w) := by
  have HM : Hid (∀ X, Calls Try.prog 32 #[.pointer (some ⟨b, 0, none⟩)] (w.alloc X) fun e w' => e = .returned (.bool true) ∧ w.alloc X = w') := Lib.hid fun X => made_q (hq.below ((Below.refl _ _).alloc (Nat.le_refl _) _))
  have o0 := o.c0
  rcases h with h | h
  · clear hq
    go_enter Try.func20, Try.ntmps20
    go_wp2_with (go_at_call 32; refine (HM.out _).mono ?_; rintro e w' ⟨rfl, rfl⟩)
    go_ret2
    exact ⟨rfl, (Below.refl _ _).alloc (Nat.le_refl _) _⟩
  · have h' : ¬ o.x 0 < 1 := by omega
    clear hq
    go_enter Try.func20, Try.ntmps20
    go_wp2_with (go_at_call 32; refine (HM.out _).mono ?_; rintro e w' ⟨rfl, rfl⟩)
    go_ret2
    exact ⟨rfl, (Below.refl _ _).alloc (Nat.le_refl _) _⟩
set_option maxHeartbeats 400000 in
theorem put_arg {w : World} {b : Nat} {tk put : Int} {L : List EntD} (hq : QAt w b tk L put) (o : OpD) (now : Int) (hk0 : 1 ≤ o.x 0) (hk1 : o.x 0 ≤ 3) (h : o.v = true ∨ o.f = false) :
    Calls Try.prog 20 #[.pointer (some ⟨b, 0, none⟩), .agg o.cells.toArray, .int .u64 now] w (PutNo 1 w) := by
  have HM : Hid (∀ X, Calls Try.prog 32 #[.pointer (some ⟨b, 0, none⟩)] (w.alloc X) fun e w' => e = .returned (.bool true) ∧ w.alloc X = w') := Lib.hid fun X => made_q (hq.below ((Below.refl _ _).alloc (Nat.le_refl _) _))
  have o0 := o.c0
  have o25 := o.c25
  have o26 := o.c26
  have hk0' : ¬ o.x 0 < 1 := by omega
  have hk1' : ¬ 3 < o.x 0 := by omega
  cases hv : o.v with
  | true =>
    rw [hv] at o26
    clear hq h hv
    go_enter Try.func20, Try.ntmps20
    go_wp2_with (go_at_call 32; refine (HM.out _).mono ?_; rintro e w' ⟨rfl, rfl⟩)
    go_ret2
    exact ⟨rfl, (Below.refl _ _).alloc (Nat.le_refl _) _⟩
  | false =>
    have hf : o.f = false := by simpa [hv] using h
    rw [hv] at o26
    rw [hf] at o25
    clear hq h hv hf
    go_enter Try.func20, Try.ntmps20
    go_wp2_with (go_at_call 32; refine (HM.out _).mono ?_; rintro e w' ⟨rfl, rfl⟩)
    go_ret2
    exact ⟨rfl, (Below.refl _ _).alloc (Nat.le_refl _) _⟩
set_option maxHeartbeats 1000000 in
theorem put_order {w : World} {b : Nat} {tk put : Int} {L : List EntD} (hq : QAt w b tk L put) (o : OpD) (now : Int) (hk0 : 1 ≤ o.x 0) (hk1 : o.x 0 ≤ 3) (hv : o.v = false) (hf : o.f = true) (x : EntD) (hx : L.getLast? = some x) (hlt : now < x.at_) :
    Calls Try.prog 20 #[.pointer (some ⟨b, 0, none⟩), .agg o.cells.toArray, .int .u64 now] w (PutNo 7 w) := by
  have HM : Hid (∀ X, Calls Try.prog 32 #[.pointer (some ⟨b, 0, none⟩)] (w.alloc X) fun e w' => e = .returned (.bool true) ∧ w.alloc X = w') := Lib.hid fun X => made_q (hq.below ((Below.refl _ _).alloc (Nat.le_refl _) _))
  have HA : Hid (∀ X x, L.getLast? = some x → Calls Try.prog 33 #[.pointer (some ⟨b, 0, none⟩), .int .i64 ((L.length : Int) - 1)] (w.alloc X) fun e w' => e = .returned (.agg x.cells.toArray) ∧ Below (w.alloc X).heap.size (w.alloc X) w') :=
    Lib.hid fun X x hx => by
      have hne : L ≠ [] := by rintro rfl; simp at hx
      have hpos : 0 < L.length := List.length_pos_iff.2 hne
      exact at_q (hq.below ((Below.refl _ _).alloc (Nat.le_refl _) _)) _ (by omega) x (by rw [← hx, List.getLast?_eq_getElem?]; congr 1; omega)
  obtain ⟨c, fr, hb, hc⟩ := hq
  have hbl := block_lt hb
  have hcn : w.cell? ⟨b, 7170, none⟩ = some (.int .i64 L.length) := by rw [cell_of_row w b 7170 c 73 _ hb]; exact hc.hn
  have hlen := hc.len
  have hz1 : 0 < L.length := by
    have hne : L ≠ [] := by rintro rfl; simp at hx
    exact List.length_pos_iff.2 hne
  have o0 := o.c0
  have o25 := o.c25
  have o26 := o.c26
  rw [hv] at o26
  rw [hf] at o25
  have hk0' : ¬ o.x 0 < 1 := by omega
  have hk1' : ¬ 3 < o.x 0 := by omega
  have HX := Lib.hid hx
  have hfa := field_at x
  clear hx hc hb hf hv
  go_enter Try.func20, Try.ntmps20
  go_wp2_with (go_at_call 32; refine (HM.out _).mono ?_; rintro e w' ⟨rfl, rfl⟩)
  refine (HA.out _ x HX.out).mono ?_
  rintro e W ⟨rfl, hWB0⟩
  go_wp2_with fail
  go_ret2
  exact ⟨rfl, below_all ((Below.refl w.heap.size w).alloc (Nat.le_refl _) _) hWB0⟩
set_option maxHeartbeats 1000000 in
theorem put_room {w : World} {b : Nat} {tk put : Int} {L : List EntD} (hq : QAt w b tk L put) (o : OpD) (now : Int) (hk0 : 1 ≤ o.x 0) (hk1 : o.x 0 ≤ 3) (hv : o.v = false) (hf : o.f = true) (hlast : ∀ x, L.getLast? = some x → x.at_ ≤ now) (hl : L.length = 256) :
    Calls Try.prog 20 #[.pointer (some ⟨b, 0, none⟩), .agg o.cells.toArray, .int .u64 now] w (PutNo 223 w) := by
  have HM : Hid (∀ X, Calls Try.prog 32 #[.pointer (some ⟨b, 0, none⟩)] (w.alloc X) fun e w' => e = .returned (.bool true) ∧ w.alloc X = w') := Lib.hid fun X => made_q (hq.below ((Below.refl _ _).alloc (Nat.le_refl _) _))
  have HA : Hid (∀ X x, L.getLast? = some x → Calls Try.prog 33 #[.pointer (some ⟨b, 0, none⟩), .int .i64 ((L.length : Int) - 1)] (w.alloc X) fun e w' => e = .returned (.agg x.cells.toArray) ∧ Below (w.alloc X).heap.size (w.alloc X) w') :=
    Lib.hid fun X x hx => by
      have hne : L ≠ [] := by rintro rfl; simp at hx
      have hpos : 0 < L.length := List.length_pos_iff.2 hne
      exact at_q (hq.below ((Below.refl _ _).alloc (Nat.le_refl _) _)) _ (by omega) x (by rw [← hx, List.getLast?_eq_getElem?]; congr 1; omega)
  obtain ⟨c, fr, hb, hc⟩ := hq
  have hbl := block_lt hb
  have hcn : w.cell? ⟨b, 7170, none⟩ = some (.int .i64 L.length) := by rw [cell_of_row w b 7170 c 73 _ hb]; exact hc.hn
  have hlen := hc.len
  have hz1 : 0 < L.length := by omega
  obtain ⟨x, hx⟩ : ∃ x, L.getLast? = some x := ⟨_, List.getLast?_eq_some_getLast (List.ne_nil_of_length_pos hz1)⟩
  have hle : ¬ now < x.at_ := by have := hlast x hx; omega
  have o0 := o.c0
  have o25 := o.c25
  have o26 := o.c26
  rw [hv] at o26
  rw [hf] at o25
  have hk0' : ¬ o.x 0 < 1 := by omega
  have hk1' : ¬ 3 < o.x 0 := by omega
  have HX := Lib.hid hx
  have hfa := field_at x
  have HN := Lib.hid hc.hn
  have HB := Lib.hid hb
  have HL := Lib.hid hl
  clear hx hc hb hf hv hl hlast
  go_enter Try.func20, Try.ntmps20
  go_wp2_with (go_at_call 32; refine (HM.out _).mono ?_; rintro e w' ⟨rfl, rfl⟩)
  refine (HA.out _ x HX.out).mono ?_
  rintro e W ⟨rfl, hWB0⟩
  have hWb := block_below (block_alloc HB.out (.cells o.cells.toArray 33)) hWB0
  have hWn : W.cell? ⟨b, 7170, none⟩ = some (.int .i64 256) := by rw [cell_of_row _ b 7170 c 73 _ hWb, HN.out, HL.out]; rfl
  clear hWb
  go_wp2_with fail
  go_ret2
  exact ⟨rfl, below_all ((Below.refl w.heap.size w).alloc (Nat.le_refl _) _) hWB0⟩

/-- Put, whatever it is given. -/
theorem put_any {w : World} {b : Nat} {tk put : Int} {L : List EntD} (hq : QAt w b tk L put) (o : OpD) (now : Int) (hn0 : 0 ≤ now) (hn1 : now ≤ 18446744073709551615) (ha0 : 0 ≤ o.x 3) (ha1 : o.x 3 ≤ 18446744073709551615)
    (hp : put ≤ 4611686018427387904) :
    (putErr L o now = 0 ∧ Calls Try.prog 20 #[.pointer (some ⟨b, 0, none⟩), .agg o.cells.toArray, .int .u64 now] w (PutPost b tk put L o now w)) ∨
    (putErr L o now ≠ 0 ∧ Calls Try.prog 20 #[.pointer (some ⟨b, 0, none⟩), .agg o.cells.toArray, .int .u64 now] w (PutNo (putErr L o now) w)) := by
  unfold putErr
  have hlen := (show L.length ≤ 256 from by obtain ⟨c, fr, _, hc⟩ := hq; exact hc.len)
  by_cases h1 : o.x 0 < 1 ∨ 3 < o.x 0
  · rw [if_pos h1]; exact .inr ⟨by omega, put_kind hq o now h1⟩
  rw [if_neg h1]
  by_cases h2 : o.v = true ∨ o.f = false
  · rw [if_pos h2]; exact .inr ⟨by omega, put_arg hq o now (by omega) (by omega) h2⟩
  rw [if_neg h2]
  have hv : o.v = false := by cases hv : o.v <;> simp_all
  have hf : o.f = true := by cases hf : o.f <;> simp_all
  cases hx : L.getLast? with
  | none =>
    have hnil : L = [] := List.getLast?_eq_none_iff.1 hx
    subst hnil
    exact .inl ⟨by simp, put_ok hq o now hn0 hn1 ha0 ha1 hp (by omega) (by omega) hv hf (by simp) (by simp)⟩
  | some x =>
    by_cases h3 : now < x.at_
    · simp only [h3, decide_true, if_true]; exact .inr ⟨by omega, put_order hq o now (by omega) (by omega) hv hf x hx h3⟩
    · simp only [h3, decide_false, Bool.false_eq_true, if_false]
      have hlast : ∀ y, L.getLast? = some y → y.at_ ≤ now := fun y hy => by rw [hx] at hy; cases hy; omega
      by_cases h4 : L.length = 256
      · rw [if_pos h4]; exact .inr ⟨by omega, put_room hq o now (by omega) (by omega) hv hf hlast h4⟩
      · rw [if_neg h4]; exact .inl ⟨rfl, put_ok hq o now hn0 hn1 ha0 ha1 hp (by omega) (by omega) hv hf hlast (by omega)⟩

end Go.Proofs.Ytgkjglpnnehdbaa
