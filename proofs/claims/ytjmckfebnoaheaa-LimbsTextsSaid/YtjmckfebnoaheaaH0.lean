/- LimbsTexts, walked. -/
import Derived.Test.YtjmckfebnoaheaaG8
import Derived.Test.YtjmckfebnoaheaaG6
import Derived.Test.YtjmckfebnoaheaaG5
import Derived.Test.YtjmckfebnoaheaaG3
import Derived.Test.YtjmckfebnoaheaaG2
import Derived.Test.YtjmckfebnoaheaaB15
import Derived.Test.YtjmckfebnoaheaaK6
import Derived.Test.YtjmckfebnoaheaaC7
import Derived.Test.YtjmckfebnoaheaaK1
import Derived.ChangeSlices
set_option linter.unusedVariables false
namespace Go.Proofs.Ytjmckfebnoaheaa
open Go.RowKit Go.KK Go.Lm Go.WideShapes
theorem Res.unique {s : ByteArray} {r c r' c' : Int} (h : Res s r c) (k : Res s r' c') : r = r' ∧ c = c' := by
  rcases h with ⟨a, b, d⟩ | ⟨a, b, d, e⟩ | ⟨a, b, d, e⟩ <;> rcases k with ⟨a', b', d'⟩ | ⟨a', b', d', e'⟩ | ⟨a', b', d', e'⟩ <;> first
    | exact absurd a a'
    | exact absurd a' a
    | (exfalso; omega)
    | (subst_vars; exact ⟨rfl, rfl⟩)
theorem Res.ex (s : ByteArray) : ∃ r c, Res s r c := by
  by_cases h : Bad s
  · exact ⟨0, 11, .inl ⟨h, rfl, rfl⟩⟩
  · by_cases k : R256 ≤ vI s s.size
    · exact ⟨0, 4, .inr (.inl ⟨h, k, rfl, rfl⟩)⟩
    · exact ⟨_, 0, .inr (.inr ⟨h, by omega, rfl, rfl⟩)⟩
theorem parse_res {s : ByteArray} (hm : s.size ≤ 9223372036854775807) {r c : Int} (hr : Res s r c) (W' : World) : Calls Try.prog 33 #[.string s] W' fun o w' => o = .returned (.tuple #[.agg (W r), .int .i64 c]) ∧ Below W'.heap.size W' w' :=
  (parse_p hm W').mono fun o w' ⟨⟨r', c', h, ho⟩, hb⟩ => by obtain ⟨rfl, rfl⟩ := hr.unique h; exact ⟨ho, hb⟩
theorem rparse_res {s : ByteArray} (hm : s.size ≤ 9223372036854775807) {r c : Int} (hr : Res s r c) (W' : World) : Calls Try.prog 34 #[.string s] W' fun o w' => o = .returned (.tuple #[.agg (W r), .int .i64 c]) ∧ Below W'.heap.size W' w' :=
  (rparse_p hm W').mono fun o w' ⟨⟨r', c', h, ho⟩, hb⟩ => by obtain ⟨rfl, rfl⟩ := hr.unique h; exact ⟨ho, hb⟩
/-- A list of bytes that is read. -/
def BIn (w : World) (v : Value) : Prop := ∃ (A : Option Addr) (n cap : Nat) (f : Nat → Int), v = .slice A n cap ∧ n ≤ 9223372036854775807 ∧ cap ≤ 9223372036854775807 ∧ n ≤ cap ∧ (0 < n → ∃ g off, A = some ⟨g, off, none⟩ ∧ g < w.heap.size ∧ ∀ k, k < n → (0 ≤ f k ∧ f k ≤ 255) ∧ w.cell? ⟨g, off + k, none⟩ = some (.int .u8 (f k)))
theorem read_any {w : World} {v : Value} (h : BIn w v) : ∃ n e : Int,
    (∀ W', Below w.heap.size w W' → Calls Try.prog 31 #[v] W' fun o w' => o = .returned (.tuple #[.agg (W n), .int .i64 e]) ∧ Below W'.heap.size W' w') ∧
    (∀ W', Below w.heap.size w W' → Calls Try.prog 32 #[v] W' fun o w' => o = .returned (.tuple #[.agg (W n), .int .i64 e]) ∧ Below W'.heap.size W' w') := by
  obtain ⟨A, n, cap, f, rfl, hn, hc, hnc, hA⟩ := h
  by_cases h32 : n = 32
  · subst h32
    obtain ⟨g, off, rfl, hg, hf⟩ := hA (by omega)
    obtain ⟨m, hm, _, _⟩ := rdw_word (f := f) (fun k hk => (hf k hk).1)
    refine ⟨m, 0, fun W' hb => ?_, fun W' hb => ?_⟩
    · rw [← hm]
      exact read_ok hnc hc (fun k hk => (hf k hk).1) (Nat.lt_of_lt_of_le hg hb.size) (fun k hk => (hb.cell (p := ⟨g, off + k, none⟩) hg).trans (hf k hk).2)
    · rw [← hm]
      exact rread_ok (fun k hk => (hf k hk).1) (Nat.lt_of_lt_of_le hg hb.size) (fun k hk => (hb.cell (p := ⟨g, off + k, none⟩) hg).trans (hf k hk).2)
  · exact ⟨0, 3, fun W' _ => read_bad h32 hn W', fun W' _ => rread_bad h32 hn W'⟩
theorem isLen_ex (x : Int) : ∀ n : Nat, x / 10 ^ (n + 1) = 0 → ∃ j, IsLen x j
  | 0, h => ⟨1, Nat.le_refl _, h, .inl rfl⟩
  | n + 1, h => by
    by_cases k : x / 10 ^ (n + 1) = 0
    · exact isLen_ex x n k
    · exact ⟨n + 2, by omega, h, .inr k⟩
set_option maxRecDepth 100000 in
set_option maxHeartbeats 8000000 in
theorem LimbsTexts_walk {x : Int} (hx0 : 0 ≤ x) (hx1 : x < R256) (w : World) {v : Value} (hv : BIn w v) {s : ByteArray} (hm : s.size ≤ 9223372036854775807) :
    Calls Try.prog 7 #[.agg (W x), v, .string s] w fun e w' => e = .returned (.bool true) ∧ Below w.heap.size w w' := by
  obtain ⟨p, e, hA, hB⟩ := read_any hv
  obtain ⟨r, c, hr⟩ := Res.ex s
  obtain ⟨j, hj⟩ := isLen_ex x 77 (Int.ediv_eq_zero_of_lt hx0 (by have := pow78; omega))
  have HA := Lib.hid hA
  have HB := Lib.hid hB
  have HC := Lib.hid (fun W' => parse_res hm hr W')
  have HD := Lib.hid (fun W' => rparse_res hm hr W')
  have HP1 : Hid (∀ W', Calls Try.prog 38 #[.agg (W x)] W' fun o w' => o = .returned (.string ⟨(lowd x j).toArray⟩) ∧ Below W'.heap.size W' w') := Lib.hid fun W' => (print_p hx0 hx1 W').mono fun o w' ⟨⟨j', h, ho⟩, hb⟩ => by obtain rfl := hj.unique hx0 h; exact ⟨ho, hb⟩
  have HP2 : Hid (∀ W', Calls Try.prog 39 #[.agg (W x)] W' fun o w' => o = .returned (.string ⟨(lowd x j).toArray⟩) ∧ Below W'.heap.size W' w') := Lib.hid fun W' => (rprint_p hx0 hx1 W').mono fun o w' ⟨⟨j', h, ho⟩, hb⟩ => by obtain rfl := hj.unique hx0 h; exact ⟨ho, hb⟩
  generalize (⟨(lowd x j).toArray⟩ : ByteArray) = S at *
  have heq := eqlW_self
  have HH : Hid (Blks w [(w.heap.size, W x, 24)] _) := Lib.hid ((Blks.nil w).alloc (W x) 24 rfl)
  clear hA hB hv hr hj hx0 hx1 hm
  go_enter Try.func7, Try.ntmps7
  go_upto_region 2 with (first
    | (go_at_call 31; refine (HA.out _ HH.out.below).mono ?_; rintro _ V ⟨rfl, hV⟩)
    | ((with_reducible refine g_store 24 ?_); refine wpList_blks_store ((HH.out.ext hV).alloc Z4 24 rfl) 1 _ _ 24 rfl rfl _ _ rfl rfl (W p) rfl rfl ts24 (W_one _) ?_; intro w1 H1))
  generalize hgv : V.heap.size = g0 at *
  clear hgv
  have HN : Hid (Blks w [(w.heap.size, W x, 24), (g0, W p, 24)] _) := Lib.hid H1
  clear hV H1 HH
  have HH := HN
  clear HN
  go_upto_region 3 with (first
    | (go_at_call 32; refine (HB.out _ HH.out.below).mono ?_; rintro _ V ⟨rfl, hV⟩)
    | ((with_reducible refine g_store 24 ?_); refine wpList_blks_store ((HH.out.ext hV).alloc Z4 24 rfl) 2 _ _ 24 rfl rfl _ _ rfl rfl (W p) rfl rfl ts24 (W_one _) ?_; intro w1 H1))
  generalize hgv : V.heap.size = g1 at *
  clear hgv
  have HN : Hid (Blks w [(w.heap.size, W x, 24), (g0, W p, 24), (g1, W p, 24)] _) := Lib.hid H1
  clear hV H1 HH
  have HH := HN
  clear HN
  go_upto_region 4 with (first
    | (go_at_call 33; refine (HC.out _).mono ?_; rintro _ V ⟨rfl, hV⟩)
    | ((with_reducible refine g_store 24 ?_); refine wpList_blks_store ((HH.out.ext hV).alloc Z4 24 rfl) 3 _ _ 24 rfl rfl _ _ rfl rfl (W r) rfl rfl ts24 (W_one _) ?_; intro w1 H1))
  generalize hgv : V.heap.size = g2 at *
  clear hgv
  have HN : Hid (Blks w [(w.heap.size, W x, 24), (g0, W p, 24), (g1, W p, 24), (g2, W r, 24)] _) := Lib.hid H1
  clear hV H1 HH
  have HH := HN
  clear HN
  go_upto_region 5 with (first
    | (go_at_call 34; refine (HD.out _).mono ?_; rintro _ V ⟨rfl, hV⟩)
    | ((with_reducible refine g_store 24 ?_); refine wpList_blks_store ((HH.out.ext hV).alloc Z4 24 rfl) 4 _ _ 24 rfl rfl _ _ rfl rfl (W r) rfl rfl ts24 (W_one _) ?_; intro w1 H1))
  generalize hgv : V.heap.size = g3 at *
  clear hgv
  have HN : Hid (Blks w [(w.heap.size, W x, 24), (g0, W p, 24), (g1, W p, 24), (g2, W r, 24), (g3, W r, 24)] _) := Lib.hid H1
  clear hV H1 HH
  have HH := HN
  clear HN
  go_simp
  refine wp_region_headH (fun w' => ∃ e : ExtOf w1, w' = e.wd) [0, 2] 36 (by kernel_rfl) (by kernel_rfl) (fun d _ _ _ _ h => by cases d <;> exact h) ⟨⟨w1.drew, (Below.refl _ _).drew⟩, rfl⟩ ?_
  simp only [List.map_cons, List.map_nil, List.getD_cons_zero, List.getD_cons_succ]
  have R0 : Hid (∀ e : ExtOf w1, e.wd.rangeAt w.heap.size 0 (W x).toList) := Lib.hid fun e => (HH.out.ext e.below).range 0 rfl
  refine wpHead_loade rfl 24 _ rfl w.heap.size 0 rfl (W x).toList _ R0.out tu24 rfl ts24 ?_
  refine wpHead_loade rfl 24 _ rfl w.heap.size 0 rfl (W x).toList _ R0.out tu24 rfl ts24 ?_
  refine wpHead_nil ?_
  have hVd : Below w1.heap.size w1 w1.drew := (Below.refl _ _).drew
  generalize w1.drew = V0 at *
  refine wpAnyH_one (i := 1) (by kernel_rfl) rfl ?_
  refine wpList_step (fun K hK => ?_)
  go_simp
  go_at_call 36
  refine (bytes_p x _).mono ?_
  rintro e V1 ⟨v1, rfl, ho1, hb1⟩
  refine hK _ _ ?_
  clear hK K
  have hB1 := below_all hVd hb1
  refine wpList_end ⟨IsExt.of hB1, ?_⟩
  refine wpAnyH_one (i := 3) (by kernel_rfl) rfl ?_
  refine wpList_step (fun K hK => ?_)
  go_simp
  go_at_call 37
  refine (rbytes_p x _).mono ?_
  rintro e V2 ⟨v2, rfl, ho2, hb2⟩
  refine hK _ _ ?_
  clear hK K
  have hB2 := below_all hB1 hb2
  refine wpList_end ⟨IsExt.of hB2, ?_⟩
  obtain ⟨k1, c1, rfl, _, _, _, hk1, hc1, _⟩ := own32 ho1
  obtain ⟨k2, c2, rfl, _, _, _, hk2, hc2, _⟩ := own32 ho2
  refine wpAnyH_one (i := 4) (by kernel_rfl) rfl ?_
  refine wpList_step (fun K hK => ?_)
  go_simp
  go_at_call 35
  refine (same_p (w := V2) (fun k hk => (hb2.cell (p := ⟨k1, k, none⟩) hk1).trans (hc1 k hk)) hc2 (Nat.lt_of_lt_of_le hk1 hb2.size) hk2).mono ?_
  rintro e V3 ⟨rfl, hb3⟩
  refine hK _ _ ?_
  clear hK K
  have hB3 := below_all hB2 hb3
  refine wpList_end ⟨IsExt.of hB3, ?_⟩
  refine wpAnyH_one (i := 5) (by kernel_rfl) rfl ?_
  refine wpList_step (fun K hK => ?_)
  go_simp
  refine hK _ _ ?_
  clear hK K
  refine wpList_end ⟨IsExt.of hB3, ?_⟩
  have HB3 := Lib.hid hB3
  have HL := Lib.hid (HH.out.ext hB3)
  clear hc1 hc2 hb1 hb2 hb3 hB1 hB2 hB3 ho1 ho2 hVd HH R0
  have R0 : Hid (∀ e : ExtOf V3, e.wd.rangeAt w.heap.size 0 (W x).toList) := Lib.hid fun e => (HL.out.ext e.below).range 0 rfl
  have R1 : Hid (∀ e : ExtOf V3, e.wd.rangeAt g0 0 (W p).toList) := Lib.hid fun e => (HL.out.ext e.below).range 1 rfl
  have R2 : Hid (∀ e : ExtOf V3, e.wd.rangeAt g1 0 (W p).toList) := Lib.hid fun e => (HL.out.ext e.below).range 2 rfl
  have R3 : Hid (∀ e : ExtOf V3, e.wd.rangeAt g2 0 (W r).toList) := Lib.hid fun e => (HL.out.ext e.below).range 3 rfl
  have R4 : Hid (∀ e : ExtOf V3, e.wd.rangeAt g3 0 (W r).toList) := Lib.hid fun e => (HL.out.ext e.below).range 4 rfl
  have f1 : Hid (∀ e : ExtOf V3, Calls Try.prog 38 #[.agg (W x)] e.wd fun r w' => r = .returned (.string S) ∧ ∃ e' : ExtOf V3, w' = e'.wd) := Lib.hid fun e => calls_ext e (HP1.out _)
  have f2 : Hid (∀ e : ExtOf V3, Calls Try.prog 39 #[.agg (W x)] e.wd fun r w' => r = .returned (.string S) ∧ ∃ e' : ExtOf V3, w' = e'.wd) := Lib.hid fun e => calls_ext e (HP2.out _)
  have f3 : Hid (∀ (u : Int) (e : ExtOf V3), Calls Try.prog 22 #[.int .i64 u] e.wd fun r w' => r = .returned (.int .i64 u) ∧ ∃ e' : ExtOf V3, w' = e'.wd) := Lib.hid fun u e => calls_ext e ((num_p u _).mono fun _ _ ⟨h1, h2⟩ => ⟨h1, h2 ▸ Below.refl _ _⟩)
  have f9 : Hid (∀ e : ExtOf V3, Calls Try.prog 17 #[] e.wd fun r w' => r = .returned (.bool true) ∧ ∃ e' : ExtOf V3, w' = e'.wd) := Lib.hid fun e => calls_ext e (alive_p _)
  refine wpAnyH_quiet (fun w' => ∃ e : ExtOf V3, w' = e.wd) 6 (by kernel_rfl) (by kernel_rfl) ⟨⟨V3, Below.refl _ _⟩, rfl⟩ (fun _ ⟨e, he⟩ => he ▸ IsExt.of (below_all HB3.out e.below)) rfl ?_
  simp only [List.drop_succ_cons, List.drop_zero]
  refine wpQuiet_load_extg rfl 24 _ rfl w.heap.size 0 rfl (W x).toList _ R0.out tu24 rfl ts24 ?_
  quiet_step ((go_at_call 38; exact f1.out _))
  refine wpQuiet_load_extg rfl 24 _ rfl w.heap.size 0 rfl (W x).toList _ R0.out tu24 rfl ts24 ?_
  quiet_step ((go_at_call 39; exact f2.out _))
  iterate 3 (quiet_step (fail))
  refine wpQuiet_load_extg rfl 24 _ rfl g0 0 rfl (W p).toList _ R1.out tu24 rfl ts24 ?_
  refine wpQuiet_load_extg rfl 24 _ rfl g1 0 rfl (W p).toList _ R2.out tu24 rfl ts24 ?_
  iterate 4 (quiet_step (fail))
  quiet_step ((go_at_call 22; exact f3.out _ _))
  iterate 4 (quiet_step (fail))
  refine wpQuiet_load_extg rfl 24 _ rfl g2 0 rfl (W r).toList _ R3.out tu24 rfl ts24 ?_
  refine wpQuiet_load_extg rfl 24 _ rfl g3 0 rfl (W r).toList _ R4.out tu24 rfl ts24 ?_
  iterate 4 (quiet_step (fail))
  quiet_step ((go_at_call 22; exact f3.out _ _))
  iterate 4 (quiet_step (fail))
  quiet_step ((go_at_call 17; exact f9.out _))
  iterate 2 (quiet_step (fail))
  refine wpQuiet_nil ?_
  rintro _ ⟨e, rfl⟩
  go_wp2_with fail
  go_ret
  exact ⟨rfl, (HL.out.ext e.below).below⟩
theorem tc5 : Try.prog.cellsOf 5 = 1 := by kernel_rfl
theorem wf_u8 {n : Int} (h : (Lit.int .u8 n).wf = true) : 0 ≤ n ∧ n ≤ 255 := by
  simpa [Lit.wf, IntKind.min, IntKind.max, IntKind.signed, IntKind.bits] using h
section
variable {H : Type} {enc : TypeId × Value → H} {w : World} {base b2 : Nat} {spare : Nat → Bool} {held : Bool} {r : Reach} {v : Value} {d : DataW H} {p : List MemPlace}
theorem bin_arg (hv : Value.okWide Try.prog w r base 48 v) (h : DataW.Trod enc Try.prog w b2 spare held 48 v d p) : BIn w v := by
  obtain ⟨A, len, cap, rfl⟩ := okWide_slice tu48 hv
  obtain ⟨fuel, h⟩ := h
  obtain ⟨v', rows, hcs, hsl, _⟩ := slice_open tu48 (by rw [tc5]; omega) h
  simp [Value.cells] at hcs
  subst hcs
  obtain ⟨A', cap', he, hlen, hrow⟩ := hsl
  obtain ⟨rfl, rfl, rfl⟩ := Value.slice.inj he
  rcases Go.ChangeShapes.open_ints tu48 tu5 tc5 h with ⟨hcs, hx⟩ | ⟨a, len', cap', zs, hcs, _, hl, hm, hz, hx, hcell, hwz⟩
  · simp [Value.cells] at hcs
    obtain ⟨rfl, h0, rfl⟩ := hcs
    exact ⟨none, _, 0, fun _ => 0, rfl, hlen, by omega, by simp [h0], fun h => by simp [h0] at h⟩
  · simp [Value.cells] at hcs
    obtain ⟨rfl, h0, rfl⟩ := hcs
    unfold maxLen at hm
    refine ⟨_, _, _, fun k => zs.getD k 0, rfl, hlen, by omega, by omega, fun hpos => ?_⟩
    obtain ⟨b, off, ha, _, hb⟩ := hrow 0 _ (List.getElem?_eq_getElem hpos)
    refine ⟨b, off, ha, hb, fun k hk => ?_⟩
    have hzl : rows.length ≤ zs.length := by rw [hz]; split <;> omega
    have hc := hcell k (by omega)
    obtain rfl := Option.some.inj ha
    rw [Addr.add_mid] at hc
    refine ⟨wf_u8 (hwz _ ?_), hc⟩
    show zs.getD k 0 ∈ zs
    rw [List.getD_eq_getElem?_getD, List.getElem?_eq_getElem (show k < zs.length by omega)]
    exact List.getElem_mem _
end
end Go.Proofs.Ytjmckfebnoaheaa
