/- Operations among a call's arguments, opened. No premise. -/
import Derived.Test.YtgkjglpnnehdbaaQ3
import Derived.Test.YtgkjglpnnehdbaaK1
namespace Go.Proofs.Ytgkjglpnnehdbaa
open Go.RowKit Go.KK

theorem tc22 : Try.prog.cellsOf 22 = 1 := by kernel_rfl
theorem tc23 : Try.prog.cellsOf 23 = 1 := by kernel_rfl
theorem tc24 : Try.prog.cellsOf 24 = 1 := by kernel_rfl
theorem tc26 : Try.prog.cellsOf 26 = 4 := by kernel_rfl
theorem tc29 : Try.prog.cellsOf 29 = 4 := by kernel_rfl
theorem tc28 : Try.prog.cellsOf 28 = 8 := by kernel_rfl
theorem tc31 : Try.prog.cellsOf 31 = 12 := by kernel_rfl
theorem tc33 : Try.prog.cellsOf 33 = 27 := by kernel_rfl
theorem tc4 : Try.prog.cellsOf 4 = 1 := by kernel_rfl
theorem tc46 : Try.prog.cellsOf 46 = 28 := by kernel_rfl

theorem ff33_0 : ((Try.prog.fieldsOf 33)[0]?).map (fun f : Field => (f.type, f.offset)) = some (22, 0) := by kernel_rfl
theorem ff33_1 : ((Try.prog.fieldsOf 33)[1]?).map (fun f : Field => (f.type, f.offset)) = some (23, 1) := by kernel_rfl
theorem ff33_2 : ((Try.prog.fieldsOf 33)[2]?).map (fun f : Field => (f.type, f.offset)) = some (23, 2) := by kernel_rfl
theorem ff33_3 : ((Try.prog.fieldsOf 33)[3]?).map (fun f : Field => (f.type, f.offset)) = some (24, 3) := by kernel_rfl
theorem ff33_4 : ((Try.prog.fieldsOf 33)[4]?).map (fun f : Field => (f.type, f.offset)) = some (24, 4) := by kernel_rfl
theorem ff33_5 : ((Try.prog.fieldsOf 33)[5]?).map (fun f : Field => (f.type, f.offset)) = some (28, 5) := by kernel_rfl
theorem ff33_6 : ((Try.prog.fieldsOf 33)[6]?).map (fun f : Field => (f.type, f.offset)) = some (31, 13) := by kernel_rfl
theorem ff33_7 : ((Try.prog.fieldsOf 33)[7]?).map (fun f : Field => (f.type, f.offset)) = some (4, 25) := by kernel_rfl
theorem ff33_8 : ((Try.prog.fieldsOf 33)[8]?).map (fun f : Field => (f.type, f.offset)) = some (4, 26) := by kernel_rfl
theorem ff28_0 : ((Try.prog.fieldsOf 28)[0]?).map (fun f : Field => (f.type, f.offset)) = some (26, 0) := by kernel_rfl
theorem ff28_1 : ((Try.prog.fieldsOf 28)[1]?).map (fun f : Field => (f.type, f.offset)) = some (26, 4) := by kernel_rfl
theorem ff31_0 : ((Try.prog.fieldsOf 31)[0]?).map (fun f : Field => (f.type, f.offset)) = some (28, 0) := by kernel_rfl
theorem ff31_1 : ((Try.prog.fieldsOf 31)[1]?).map (fun f : Field => (f.type, f.offset)) = some (29, 8) := by kernel_rfl

section
variable {H : Type} {enc : TypeId × Value → H} {w : World} {base : Nat} {spare : Nat → Bool} {held : Bool} {fuel : Nat} {cs : List Value} {x : DataW H × List MemPlace}
def U8 (l : List Int) : List Value := l.map (Value.int .u64)
theorem ed_open (h : DataW.trod enc Try.prog w base spare held fuel 28 cs = some x) : ∃ l : List Int, l.length = 8 ∧ cs = U8 l := by
  obtain ⟨n, hf⟩ := field_open tu28 h
  have hl := length_open tu28 h
  rw [tc28] at hl
  obtain ⟨y0, h0⟩ := hf 0 26 0 ff28_0
  obtain ⟨y1, h1⟩ := hf 1 26 4 ff28_1
  obtain ⟨a0, a1, a2, a3, e0, _⟩ := arr4_open tu26 tu24 tc24 tc26 h0
  obtain ⟨b0, b1, b2, b3, e1, _⟩ := arr4_open tu26 tu24 tc24 tc26 h1
  rw [tc26] at e0 e1
  refine ⟨[a0, a1, a2, a3, b0, b1, b2, b3], rfl, ?_⟩
  have s := drop_split cs 0 4
  rw [e0, drop_split cs (0 + 4) 4, e1, show cs.drop (0 + 4 + 4) = [] from List.drop_of_length_le (by omega)] at s
  exact s
theorem sig_open (h : DataW.trod enc Try.prog w base spare held fuel 31 cs = some x) : ∃ l : List Int, l.length = 12 ∧ cs = U8 l := by
  obtain ⟨n, hf⟩ := field_open tu31 h
  have hl := length_open tu31 h
  rw [tc31] at hl
  obtain ⟨y0, h0⟩ := hf 0 28 0 ff31_0
  obtain ⟨y1, h1⟩ := hf 1 29 8 ff31_1
  obtain ⟨l, hl0, e0⟩ := ed_open h0
  obtain ⟨b0, b1, b2, b3, e1, _⟩ := arr4_open tu29 tu24 tc24 tc29 h1
  rw [tc28] at e0
  rw [tc29] at e1
  refine ⟨l ++ [b0, b1, b2, b3], by simp [hl0], ?_⟩
  have s := drop_split cs 0 8
  rw [e0, drop_split cs (0 + 8) 4, e1, show cs.drop (0 + 8 + 4) = [] from List.drop_of_length_le (by omega)] at s
  simpa [U8] using s
theorem u8_get (l : List Int) (n : Nat) (h : l.length = n) : U8 l = (List.range n).map fun i => Value.int .u64 (l.getD i 0) := by
  apply List.ext_getElem?
  intro i
  by_cases hi : i < n
  · simp [U8, hi, h]
  · simp [U8, hi, List.getElem?_eq_none (show l.length ≤ i by omega)]
theorem op_open (h : DataW.trod enc Try.prog w base spare held fuel 33 cs = some x) : ∃ o : OpD, cs = o.cells ∧ 0 ≤ o.x 3 ∧ o.x 3 ≤ 18446744073709551615 := by
  obtain ⟨n, hf⟩ := field_open tu33 h
  have hl := length_open tu33 h
  rw [tc33] at hl
  obtain ⟨y0, h0⟩ := hf 0 22 0 ff33_0
  obtain ⟨y1, h1⟩ := hf 1 23 1 ff33_1
  obtain ⟨y2, h2⟩ := hf 2 23 2 ff33_2
  obtain ⟨y3, h3⟩ := hf 3 24 3 ff33_3
  obtain ⟨y4, h4⟩ := hf 4 24 4 ff33_4
  obtain ⟨y5, h5⟩ := hf 5 28 5 ff33_5
  obtain ⟨y6, h6⟩ := hf 6 31 13 ff33_6
  obtain ⟨y7, h7⟩ := hf 7 4 25 ff33_7
  obtain ⟨y8, h8⟩ := hf 8 4 26 ff33_8
  obtain ⟨n0, e0, w0⟩ := int_open tu22 h0
  obtain ⟨n1, e1, w1⟩ := int_open tu23 h1
  obtain ⟨n2, e2, w2⟩ := int_open tu23 h2
  obtain ⟨n3, e3, w3⟩ := int_open tu24 h3
  obtain ⟨n4, e4, w4⟩ := int_open tu24 h4
  obtain ⟨l, hl5, e5⟩ := ed_open h5
  obtain ⟨m, hm6, e6⟩ := sig_open h6
  obtain ⟨b7, e7⟩ := bool_open tu4 h7
  obtain ⟨b8, e8⟩ := bool_open tu4 h8
  rw [tc22] at e0
  rw [tc23] at e1
  rw [tc23] at e2
  rw [tc24] at e3
  rw [tc24] at e4
  rw [tc28] at e5
  rw [tc31] at e6
  rw [tc4] at e7
  rw [tc4] at e8
  refine ⟨⟨fun i => if i = 0 then n0 else if i = 1 then n1 else if i = 2 then n2 else if i = 3 then n3 else if i = 4 then n4 else if i < 13 then l.getD (i - 5) 0 else m.getD (i - 13) 0, b7, b8⟩, ?_, (wf_u64 w3).1, (wf_u64 w3).2⟩
  rw [u8_get l 8 hl5] at e5
  rw [u8_get m 12 hm6] at e6
  have s := drop_split cs 0 1
  rw [e0, drop_split cs (0 + 1) 1, e1, drop_split cs ((0 + 1) + 1) 1, e2, drop_split cs (((0 + 1) + 1) + 1) 1, e3, drop_split cs ((((0 + 1) + 1) + 1) + 1) 1, e4, drop_split cs (((((0 + 1) + 1) + 1) + 1) + 1) 8, e5, drop_split cs ((((((0 + 1) + 1) + 1) + 1) + 1) + 8) 12, e6, drop_split cs (((((((0 + 1) + 1) + 1) + 1) + 1) + 8) + 12) 1, e7, drop_split cs ((((((((0 + 1) + 1) + 1) + 1) + 1) + 8) + 12) + 1) 1, e8, show cs.drop (((((((((0 + 1) + 1) + 1) + 1) + 1) + 8) + 12) + 1) + 1) = [] from List.drop_of_length_le (by omega)] at s
  exact s
end
end Go.Proofs.Ytgkjglpnnehdbaa
