/- Take: what it does to the queue's cells, and the walk. -/
import Derived.Test.YtgkjglpnnehdbaaQ6
import Derived.RegionTactic
import Derived.BigRegion
namespace Go.Proofs.Ytgkjglpnnehdbaa
open Go.RowKit Go.KK

theorem matchGo_ok (L : List EntD) : ∀ (ops : List OpD) (i n : Nat) (free : Bool), n ≤ L.length → (matchGo L ops i n free).2.1 = 0 → ∃ m : Nat, (matchGo L ops i n free).1 = m ∧ m ≤ L.length := by
  intro ops
  induction ops with
  | nil => intro i n free hn _; exact ⟨n, rfl, hn⟩
  | cons o r ih =>
    intro i n free hn h
    rw [matchGo] at h ⊢
    by_cases h1 : o.f = false
    · rw [if_pos h1] at h ⊢; exact ih _ _ _ hn h
    · rw [if_neg h1] at h ⊢
      by_cases h2 : free = true
      · rw [if_pos h2] at h; simp at h
      · rw [if_neg h2] at h ⊢
        cases hx : L[n]? with
        | none => rw [hx] at h; simp at h
        | some e =>
          rw [hx] at h
          simp only [] at h ⊢
          by_cases h3 : o.same e.op = true
          · rw [if_pos h3] at h ⊢
            exact ih _ _ _ (by have := (List.getElem?_eq_some_iff.1 hx).1; omega) h
          · rw [if_neg h3] at h; simp at h
theorem matchGo_no (L : List EntD) : ∀ (ops : List OpD) (i n : Nat) (free : Bool), (matchGo L ops i n free).2.1 ≠ 0 → (matchGo L ops i n free).1 = 0 := by
  intro ops
  induction ops with
  | nil => intro i n free h; simp [matchGo] at h
  | cons o r ih =>
    intro i n free h
    rw [matchGo] at h ⊢
    by_cases h1 : o.f = false
    · rw [if_pos h1] at h ⊢; exact ih _ _ _ h
    · rw [if_neg h1] at h ⊢
      by_cases h2 : free = true
      · rw [if_pos h2]
      · rw [if_neg h2] at h ⊢
        cases hx : L[n]? with
        | none => rfl
        | some e =>
          rw [hx] at h
          simp only [] at h ⊢
          by_cases h3 : o.same e.op = true
          · rw [if_pos h3] at h ⊢; exact ih _ _ _ h
          · rw [if_neg h3]

/-- A queue's cells, the first k entries overwritten. -/
structure QCk (c : Array Value) (tk : Int) (fr : Nat) (L : List EntD) (put : Int) (k : Nat) : Prop where
  size : c.size = 7172
  one : ∀ v ∈ c.toList, v.oneCell' = true
  tk0 : 1 ≤ tk
  tk1 : tk ≤ 4294967296
  h0 : c[0]? = some (.int .u64 tk)
  hf : c[7169]? = some (.int .i64 fr)
  hn : c[7170]? = some (.int .i64 L.length)
  hp : c[7171]? = some (.int .i64 put)
  frl : fr < 256
  len : L.length ≤ 256
  ok : ∀ e ∈ L, e.OK
  put0 : 0 ≤ put
  ent : ∀ i e, k ≤ i → L[i]? = some e → ∀ j, j < 28 → c[1 + (fr + i) % 256 * 28 + j]? = e.cells[j]?
theorem QC.toK {c : Array Value} {tk put : Int} {fr : Nat} {L : List EntD} (h : QC c tk fr L put) : QCk c tk fr L put 0 :=
  ⟨h.size, h.one, h.tk0, h.tk1, h.h0, h.hf, h.hn, h.hp, h.frl, h.len, h.ok, h.put0, fun i e _ => h.ent i e⟩
def z46 : List Value := [.int .i64 0, .int .u32 0, .int .u32 0, .int .u64 0, .int .u64 0, .int .u64 0, .int .u64 0, .int .u64 0, .int .u64 0, .int .u64 0, .int .u64 0, .int .u64 0, .int .u64 0, .int .u64 0, .int .u64 0, .int .u64 0, .int .u64 0, .int .u64 0, .int .u64 0, .int .u64 0, .int .u64 0, .int .u64 0, .int .u64 0, .int .u64 0, .int .u64 0, .bool false, .bool false, .int .u64 0]
theorem z46_one : ∀ v ∈ z46, v.oneCell' = true := List.all_eq_true.1 (by decide)
theorem QCk.step {c : Array Value} {tk put : Int} {fr : Nat} {L : List EntD} {k : Nat} (h : QCk c tk fr L put k) (hk : k < L.length) :
    QCk (c.toList.take (1 + (fr + k) % 256 * 28) ++ z46 ++ c.toList.drop (1 + (fr + k) % 256 * 28 + 28)).toArray tk fr L put (k + 1) := by
  have hm : (fr + k) % 256 < 256 := Nat.mod_lt _ (by omega)
  have hs := h.size
  have hlen := h.len
  have hsp : 1 + (fr + k) % 256 * 28 + z46.length ≤ c.toList.length := by show _ + 28 ≤ _; simp; omega
  have hg : ∀ j, (c.toList.take (1 + (fr + k) % 256 * 28) ++ z46 ++ c.toList.drop (1 + (fr + k) % 256 * 28 + 28)).toArray[j]? = if 1 + (fr + k) % 256 * 28 ≤ j ∧ j < 1 + (fr + k) % 256 * 28 + 28 then z46[j - (1 + (fr + k) % 256 * 28)]? else c[j]? := fun j => by
    have := splice_get c.toList (1 + (fr + k) % 256 * 28) z46 hsp j
    rw [List.getElem?_toArray]
    simpa [show z46.length = 28 from rfl] using this
  refine ⟨?_, ?_, h.tk0, h.tk1, ?_, ?_, ?_, ?_, h.frl, h.len, h.ok, h.put0, ?_⟩
  · have := splice_length c.toList (1 + (fr + k) % 256 * 28) z46 hsp
    rw [show z46.length = 28 from rfl] at this
    rw [List.size_toArray, this]; simpa using hs
  · intro v hv
    rw [List.toList_toArray] at hv
    exact splice_mem (o := 1 + (fr + k) % 256 * 28) h.one z46_one v hv
  · rw [hg, if_neg (by omega), h.h0]
  · rw [hg, if_neg (by omega), h.hf]
  · rw [hg, if_neg (by omega), h.hn]
  · rw [hg, if_neg (by omega), h.hp]
  · intro i e hi hx j hj
    have hil := (List.getElem?_eq_some_iff.1 hx).1
    have hne : (fr + i) % 256 ≠ (fr + k) % 256 := by omega
    have hm2 : (fr + i) % 256 < 256 := Nat.mod_lt _ (by omega)
    rw [hg, if_neg (by omega)]
    exact h.ent i e (by omega) hx j hj
theorem QCk.done {c : Array Value} {tk put : Int} {fr : Nat} {L : List EntD} {k : Nat} (h : QCk c tk fr L put k) (hk : k ≤ L.length) :
    QC ((c.setIfInBounds 7169 (.int .i64 (((fr + k) % 256 : Nat) : Int))).setIfInBounds 7170 (.int .i64 ((L.length : Int) - k))) tk ((fr + k) % 256) (L.drop k) put := by
  have hs := h.size
  have hlen := h.len
  have hm : (fr + k) % 256 < 256 := Nat.mod_lt _ (by omega)
  refine ⟨by simp [hs], ?_, h.tk0, h.tk1, ?_, ?_, ?_, ?_, hm, by simp; omega, fun e he => h.ok e (List.mem_of_mem_drop he), h.put0, ?_⟩
  · intro v hv
    simp only [Array.toList_setIfInBounds] at hv
    rcases List.mem_or_eq_of_mem_set hv with hv | hv
    · rcases List.mem_or_eq_of_mem_set hv with hv | hv
      · exact h.one v hv
      · subst hv; rfl
    · subst hv; rfl
  · rw [Array.getElem?_setIfInBounds_ne (by omega), Array.getElem?_setIfInBounds_ne (by omega), h.h0]
  · rw [Array.getElem?_setIfInBounds_ne (by omega), Array.getElem?_setIfInBounds_self_of_lt (by omega)]
  · rw [Array.getElem?_setIfInBounds_self_of_lt (by rw [Array.size_setIfInBounds]; omega), List.length_drop]
    congr 2; omega
  · rw [Array.getElem?_setIfInBounds_ne (by omega), Array.getElem?_setIfInBounds_ne (by omega), h.hp]
  · intro i e hx j hj
    rw [List.getElem?_drop] at hx
    have hm2 : (fr + (k + i)) % 256 < 256 := Nat.mod_lt _ (by omega)
    have e1 : ((fr + k) % 256 + i) % 256 = (fr + (k + i)) % 256 := by omega
    rw [e1, Array.getElem?_setIfInBounds_ne (by omega), Array.getElem?_setIfInBounds_ne (by omega)]
    exact h.ent (k + i) e (by omega) hx j hj

def TakeNo (r : Int × Int × Int) (w : World) (e : Ending) (w' : World) : Prop := e = .returned (.tuple #[.int .i64 0, .int .i64 r.2.1, .int .i64 r.2.2]) ∧ Below w.heap.size w w'
set_option maxHeartbeats 400000 in
theorem take_no {w : World} {b : Nat} {tk put : Int} {L : List EntD} (hq : QAt w b tk L put) (ops : List OpD) (v : Value) (hv : SlAt w v 27 (opRows ops)) (h : (matchAll L ops).2.1 ≠ 0) :
    Calls Try.prog 15 #[.pointer (some ⟨b, 0, none⟩), v] w (TakeNo (matchAll L ops) w) := by
  have HM := Lib.hid (match_q hq ops v hv)
  generalize matchAll L ops = r at *
  obtain ⟨r1, r2, r3⟩ := r
  simp only [] at h
  have h' : (r2 == 0) = false := by simpa using h
  clear hq hv h
  go_enter Try.func15, Try.ntmps15
  go_wp2_with (go_at_call 34; refine HM.out.mono ?_; rintro e w1 ⟨rfl, hb1⟩)
  go_ret3
  exact ⟨rfl, hb1⟩

def TakePost (b : Nat) (tk put : Int) (L : List EntD) (m : Nat) (j : Int) (w : World) (e : Ending) (w' : World) : Prop :=
  e = .returned (.tuple #[.int .i64 m, .int .i64 0, .int .i64 j]) ∧ QAt w' b tk (L.drop m) put ∧ w.grownBy w' (some b)
set_option maxHeartbeats 1000000 in
theorem take_ok {w : World} {b : Nat} {tk put : Int} {L : List EntD} (hq : QAt w b tk L put) (ops : List OpD) (v : Value) (hv : SlAt w v 27 (opRows ops)) (m : Nat) (j : Int) (h : matchAll L ops = ((m : Int), 0, j)) (hm : m ≤ L.length) :
    Calls Try.prog 15 #[.pointer (some ⟨b, 0, none⟩), v] w (TakePost b tk put L m j w) := by
  have HM := Lib.hid (match_q hq ops v hv)
  rw [h] at HM
  have hlen := hq.len
  have HQ := Lib.hid hq
  clear hq hv h
  go_enter Try.func15, Try.ntmps15
  go_wp2_with (go_at_call 34; refine HM.out.mono ?_; rintro e w1 ⟨rfl, hb1⟩)
  obtain ⟨c, fr, hb, hc⟩ := HQ.out.below hb1
  have hfr := hc.frl
  go_loopw [23] (fun i wr => ∃ (k : Nat) (ck : Array Value), k ≤ m ∧ i = .int .i64 k ∧ w1.grownBy wr (some b) ∧ wr.heap[b]? = some (.cells ck 73 (0, 0)) ∧ QCk ck tk fr L put k) (fun i _ => m - (intOf i).toNat)
  case atStart => exact ⟨0, c, by omega, rfl, grown_refl _ _, hb, hc.toK⟩
  case round =>
    obtain ⟨k, ck, hk, rfl, hg, hbk, hck⟩ := hrel
    clear hb hc
    by_cases hlt : k < m
    · have hcell : ∀ e : ExtOf wr, e.wd.cell? ⟨b, 7169, none⟩ = some (.int .i64 fr) := fun e => by rw [cell_of_row _ b 7169 ck 73 _ (e.block hbk)]; exact hck.hf
      have hw := wrap_mod fr k hfr (by omega)
      have HB := Lib.hid hbk
      have HC := Lib.hid hck
      have HG := Lib.hid hg
      clear hbk hck hg
      go_wp2_with fail
      generalize hkk : (fr + k) % 256 = q at *
      have hq' : (q : Int) < 256 := by omega
      have HK := Lib.hid hkk
      clear hkk
      refine wp_region_ext_tail 12 (by kernel_rfl) (by kernel_rfl) ?_
      simp only [List.take_succ_cons, List.take_zero, List.drop_succ_cons, List.drop_zero]
      iterate 12 (quiet_step (fail))
      refine wpQuiet_nil ?_
      rintro _ ⟨e, rfl⟩
      have hb3 := e.block HB.out
      have hcs := HC.out.size
      have hqN : q < 256 := by omega
      have hb4 := setCells_block (o := 1 + q * 28) hb3 z46 (by show _ + 28 ≤ _; omega)
      have hg4 : w1.grownBy (e.wd.setCells b (1 + q * 28) z46) (some b) := grown_trans (grown_trans HG.out (grown_of_below e.below _)) (setCells_grown _ _)
      refine wpList_store_mid rfl 46 _ _ rfl b (1 + q * 28) z46.toArray rfl rfl (there_block hb3 _ 28 (by omega)) ts46 (all_oneCell_toArray z46_one) ?_
      have hc4 := HC.out.step (by omega : k < L.length)
      rw [HK.out] at hc4
      rw [List.toList_toArray]
      generalize e.wd.setCells b (1 + q * 28) z46 = V at *
      have HB4 := Lib.hid hb4
      have HG4 := Lib.hid hg4
      have HC4 := Lib.hid hc4
      clear hb4 hg4 hc4 hb3
      go_wp2_with fail
      go_roundw
      case rel => exact ⟨k + 1, _, by omega, by go_num, HG4.out, HB4.out, HC4.out⟩
      case measure => simp [intOf]; omega
    · have hkm : k = m := by omega
      subst hkm
      have hcell : ∀ n, (wr.drewN n).cell? ⟨b, 7169, none⟩ = some (.int .i64 fr) := fun n => by simp only [World.cell?_drewN]; rw [cell_of_row _ b 7169 ck 73 _ hbk]; exact hck.hf
      have hc1 : wr.cell? ⟨b, 7169, none⟩ = some (.int .i64 fr) := by rw [cell_of_row _ b 7169 ck 73 _ hbk]; exact hck.hf
      have hc2 : wr.cell? ⟨b, 7170, none⟩ = some (.int .i64 L.length) := by rw [cell_of_row _ b 7170 ck 73 _ hbk]; exact hck.hn
      have hfz := fun j => frozen_of_row _ b j _ 73 hbk
      have hw := wrap_mod fr k hfr
      have HB := Lib.hid hbk
      have HC := Lib.hid hck
      have HG := Lib.hid hg
      clear hbk hck hg hcell hw
      go_wp2_with fail
      go_region
      go_wp2_with fail
      go_ret3
      have e1 : ((fr : Int) + k) % 256 = (((fr + k) % 256 : Nat) : Int) := by omega
      rw [e1]
      refine ⟨rfl, ⟨_, _, heap_setCell_same _ b 7170 _ 73 _ (heap_setCell_same wr b 7169 _ 73 _ HB.out), HC.out.done hm⟩, ?_⟩
      exact grown_trans (grown_of_below hb1 _) (grown_trans HG.out (grown_trans (grown_trans (setCell_grown _ _ _) (setCell_grown _ _ _)) (grown_of_below (Below.refl _ _).drew _)))

end Go.Proofs.Ytgkjglpnnehdbaa
