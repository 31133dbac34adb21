/- Entries, walked: what waits, in memory of its own. -/
import Derived.Test.YtgkjglpnnehdbaaQ8
import Derived.Test.YtgkjglpnnehdbaaK2
namespace Go.Proofs.Ytgkjglpnnehdbaa
open Go.RowKit Go.KK

def entRows (L : List EntD) : List (List Value) := L.map EntD.cells
theorem entRows_length (L : List EntD) : (entRows L).length = L.length := by simp [entRows]
theorem entRows_all (L : List EntD) : ∀ r ∈ entRows L, r.length = 28 := fun r hr => by
  obtain ⟨e, _, rfl⟩ := List.mem_map.1 hr; exact e.length
theorem entRows_snoc {L : List EntD} {k : Nat} {e : EntD} (h : L[k]? = some e) : entRows (L.take (k + 1)) = entRows (L.take k) ++ [e.cells] := by
  unfold entRows
  rw [List.take_add_one, h, List.map_append]
  rfl
theorem entRows_get {L : List EntD} {i : Nat} {e : EntD} (h : L[i]? = some e) : (entRows L)[i]? = some e.cells := by simp [entRows, h]
theorem tu42 : Try.prog.underlying 42 = some (.slice 46) := by kernel_rfl
theorem info46 : (Try.prog.info? 46).map (fun i => (i.zero, i.size, i.bytes)) = some (some (.agg z46.toArray), 28, 208) := by kernel_rfl
theorem bslice42 (e : EntD) (w : World) : (Instr.buildSlice 42 1 #[(0, .agg e.cells.toArray)]).run Try.prog w = .ok (.slice (some ⟨w.heap.size, 0, none⟩) 1 1) (w.alloc (.cells e.cells.toArray 46)) := by
  unfold EntD.cells OpD.cells
  simp [go_sem]
/-- The entries, owned from block B on. -/
def EntsAt (B : Nat) (L : List EntD) (w : World) (e : Ending) (w' : World) : Prop := ∃ v, e = .returned v ∧ w'.ownsRow B 46 28 v L.length (entRows L).flatten ∧ Below w.heap.size w w'

set_option maxHeartbeats 1000000 in
theorem entries_q {w : World} {b : Nat} {tk put : Int} {L : List EntD} (hq : QAt w b tk L put) : Calls Try.prog 14 #[.pointer (some ⟨b, 0, none⟩)] w (EntsAt w.heap.size L w) := by
  have HM := Lib.hid (made_q hq)
  have hcn := hq.cn
  have hlen := hq.len
  have HQ := Lib.hid hq
  clear hq
  go_enter Try.func14, Try.ntmps14
  go_wp2_with (go_at_call 32; refine HM.out.mono ?_; rintro e w' ⟨rfl, rfl⟩)
  go_loopw [3, 12] (fun v i wr => ∃ k : Nat, k ≤ L.length ∧ i = .int .i64 k ∧ wr.ownsRow w.heap.size 46 28 v k (entRows (L.take k)).flatten ∧ Below w.heap.size w wr) (fun _ i _ => L.length - (intOf i).toNat)
  case atStart => exact ⟨0, by omega, rfl, World.ownsRow_nil _ _ _ _, Below.refl _ _⟩
  case round =>
    obtain ⟨k, hk, rfl, hown, hB⟩ := hrel
    have HO := Lib.hid hown
    clear hown hcn
    by_cases hlt : k < L.length
    · have hx : L[k]? = some L[k] := List.getElem?_eq_getElem hlt
      have HA := Lib.hid (at_q (HQ.out.below hB) k (by omega) L[k] (by simp))
      go_wp2_with fail
      refine HA.out.mono ?_
      rintro e w1 ⟨rfl, hb1⟩
      have HO1 := Lib.hid (own_below (own_below HO.out (Below.refl _ _)) hb1)
      have hB1 := below_all hB hb1
      have hsz := hB1.size
      go_wp2_with (first
        | ((with_reducible refine g_bslice 42 ?_); refine wpList_bslice1 rfl 42 1 0 _ rfl _ (bslice42 _ _) ?_)
        | (at_builtin; refine wpList_append_row rfl _ _ 42 rfl w.heap.size 46 _ 28 208 tu42 info46 rfl (by decide) u3 k _ rfl HO1.out L[k].cells rfl rfl (EntD.one _) (by unfold maxLen; omega) (by omega) hsz ?_))
      intro v' w2 hown2 hg2
      have hB2 := below_own (hB1.alloc hsz (.cells L[k].cells.toArray 46)) (by simp; omega) hg2 (HO1.out.alloc _) (Nat.le_refl _)
      have HO2 := Lib.hid hown2
      have HB2 := Lib.hid hB2
      have HX := Lib.hid hx
      clear hown2 hg2 hB2 hx hB1 hB hb1 hsz
      go_wp2_with fail
      go_roundw
      case rel => exact ⟨k + 1, by omega, by go_num, by rw [entRows_snoc HX.out]; simp only [List.flatten_append, List.flatten_cons, List.flatten_nil, List.append_nil]; exact HO2.out, HB2.out⟩
      case measure => simp [intOf]; omega
    · have hkk : k = L.length := by omega
      subst hkk
      have ho := HO.out
      rw [List.take_length] at ho
      have HO2 := Lib.hid ho
      clear ho HO
      go_wp2_with fail
      go_ret
      exact ⟨u3, rfl, HO2.out, hB⟩

end Go.Proofs.Ytgkjglpnnehdbaa
