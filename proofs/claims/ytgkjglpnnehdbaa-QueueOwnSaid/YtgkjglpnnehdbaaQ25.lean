/- The page's sum of words, walked. -/
import Derived.Test.YtgkjglpnnehdbaaQ24
import Derived.Test.YtgkjglpnnehdbaaK5
import Derived.Deep.CutRange
set_option linter.unusedVariables false
namespace Go.Proofs.Ytgkjglpnnehdbaa
open Go.RowKit Go.KK

theorem halfC_one (f : Nat → Int) : (halfC f).all (·.oneCell') = true := by simp [halfC, Value.oneCell']
theorem al88 {ops : Array Oper} {Q : Exit → Act → World → Prop} {a : Act} {w : World} {op : Oper} {rest : List Oper} (hgd : op.guard = none) (ho : op.op = .alloc 88)
    (h : wpList Try.prog ops Q rest (a.put op.dst (.pointer (some ⟨w.heap.size, 0, none⟩))) (w.alloc (.cells (halfC fun _ => 0) 88))) : wpList Try.prog ops Q (op :: rest) a w :=
  wpList_plain hgd fun K hK => by
    unfold Oper.wp execOp
    simp only [ho]
    simp [go_sem]
    exact hK _ _ h
/-- Behind region 1: the halves lie in blocks of their own. -/
structure RAdd1 (x y : Nat → Int) (w : World) (b6 b7 : Nat) (wr : World) : Prop where
  below : Below w.heap.size w wr
  r : wr.heap[w.heap.size + 1 + 1]? = some (.cells (wordC fun _ => 0) 29 (0, 0))
  a : wr.heap[b6]? = some (.cells (halfC (hv x)) 88 (0, 0))
  b : wr.heap[b7]? = some (.cells (halfC (hv y)) 88 (0, 0))
  la : w.heap.size + 1 + 1 < b6
  lb : w.heap.size + 1 + 1 < b7
  ne : b6 ≠ b7
/-- Under way: which of the two arrays are there. -/
structure Two (W : World) (p q : Option Nat) (V : World) : Prop where
  e : Below W.heap.size W V
  hp : ∀ b, p = some b → V.heap[b]? = some (.cells (halfC fun _ => 0) 88 (0, 0)) ∧ W.heap.size ≤ b
  hq : ∀ b, q = some b → V.heap[b]? = some (.cells (halfC fun _ => 0) 88 (0, 0)) ∧ W.heap.size ≤ b
  ne : ∀ b, p = some b → q ≠ some b
theorem Two.call {W V V' : World} {p q : Option Nat} (h : Two W p q V) (hb : Below V.heap.size V V') : Two W p q V' :=
  ⟨below_all h.e hb, fun b hb' => ⟨block_below (h.hp b hb').1 hb, (h.hp b hb').2⟩, fun b hb' => ⟨block_below (h.hq b hb').1 hb, (h.hq b hb').2⟩, h.ne⟩
theorem Two.alloc_p {W V : World} {q : Option Nat} (h : Two W none q V) : Two W (some V.heap.size) q (V.alloc (.cells (halfC fun _ => 0) 88)) :=
  ⟨h.e.alloc h.e.size _, fun b hb => by cases hb; exact ⟨block_new _ _, h.e.size⟩, fun b hb => ⟨block_alloc (h.hq b hb).1 _, (h.hq b hb).2⟩, fun b hb hq => by
    cases hb
    have := block_lt (h.hq _ hq).1
    omega⟩
theorem Two.alloc_q {W V : World} {p : Option Nat} (h : Two W p none V) : Two W p (some V.heap.size) (V.alloc (.cells (halfC fun _ => 0) 88)) :=
  ⟨h.e.alloc h.e.size _, fun b hb => ⟨block_alloc (h.hp b hb).1 _, (h.hp b hb).2⟩, fun b hb => by cases hb; exact ⟨block_new _ _, h.e.size⟩, fun b hb hq => by
    cases hq
    have := block_lt (h.hp _ hb).1
    omega⟩
structure One (x : Nat → Int) (W : World) (p q : Nat) (V : World) : Prop where
  e : Below W.heap.size W V
  hp : V.heap[p]? = some (.cells (halfC (hv x)) 88 (0, 0))
  hq : V.heap[q]? = some (.cells (halfC fun _ => 0) 88 (0, 0))
  lp : W.heap.size ≤ p
  lq : W.heap.size ≤ q
  ne : p ≠ q
theorem Two.store {x : Nat → Int} {W V : World} {p q : Nat} (h : Two W (some p) (some q) V) : One x W p q (V.setCells p 0 (halfC (hv x)).toList) := by
  have hne : q ≠ p := fun e => h.ne p rfl (by rw [e])
  have hg := setCells_grown (w := V) (b := p) (halfC (hv x)).toList 0
  exact ⟨below_grown h.e h.e.size hg (by rintro _ ⟨rfl⟩; exact (h.hp p rfl).2), setCells_whole (h.hp p rfl).1 rfl, (hg.block q (block_lt (h.hq q rfl).1) (fun e => hne (Option.some.inj e))).trans (h.hq q rfl).1, (h.hp p rfl).2, (h.hq q rfl).2, hne.symm⟩
theorem One.store {x y : Nat → Int} {w W V : World} {p q : Nat} (h : One x W p q V) (hB : Below w.heap.size w W) (hR : W.heap[w.heap.size + 1 + 1]? = some (.cells (wordC fun _ => 0) 29 (0, 0))) (h2 : W.heap.size = w.heap.size + 3) : RAdd1 x y w p q (V.setCells q 0 (halfC (hv y)).toList) := by
  have hg := setCells_grown (w := V) (b := q) (halfC (hv y)).toList 0
  have hl := h.lq
  have hl2 := h.lp
  have hW := hB.size
  refine ⟨below_grown (below_all hB h.e) (Nat.le_trans hW h.e.size) hg (by rintro _ ⟨rfl⟩; omega), ?_, ?_, setCells_whole h.hq rfl, by omega, by omega, h.ne⟩
  · exact (hg.block _ (block_lt (block_below hR h.e)) (fun e => by have := Option.some.inj e; omega)).trans (block_below hR h.e)
  · exact (hg.block p (block_lt h.hp) (fun e => h.ne (Option.some.inj e))).trans h.hp
/-- The sum of halves. -/
def hcar (u v : Nat → Int) : Nat → Int
  | 0 => 0
  | k + 1 => (u k + v k + hcar u v k) / 4294967296
def hsum (u v : Nat → Int) (k : Nat) : Int := (u k + v k + hcar u v k) % 4294967296
theorem hv_ok {x : Nat → Int} (hx : WordOK x) : HalfOK (hv x) := fun i hi => by
  have := hx (i / 2) (by omega)
  unfold hv
  split <;> omega
theorem hcar_bit {u v : Nat → Int} (hu : HalfOK u) (hv : HalfOK v) : ∀ k, k ≤ 8 → 0 ≤ hcar u v k ∧ hcar u v k ≤ 1
  | 0, _ => ⟨by simp [hcar], by simp [hcar]⟩
  | k + 1, hk => by
    have h1 := hcar_bit hu hv k (by omega)
    have h2 := hu k (by omega)
    have h3 := hv k (by omega)
    rw [hcar]
    omega
theorem hv_even (x : Nat → Int) (k : Nat) : hv x (2 * k) = x k % 4294967296 := by
  unfold hv; rw [if_pos (by omega)]; congr 2; omega
theorem hv_odd (x : Nat → Int) (k : Nat) : hv x (2 * k + 1) = x k / 4294967296 := by
  unfold hv; rw [if_neg (by omega)]; congr 2; omega
theorem hcar_two {x y : Nat → Int} (hx : WordOK x) (hy : WordOK y) : ∀ k, k ≤ 4 → hcar (hv x) (hv y) (2 * k) = addC x y k
  | 0, _ => rfl
  | k + 1, hk => by
    have h1 := hcar_two hx hy k (by omega)
    have h2 := hx k (by omega)
    have h3 := hy k (by omega)
    have h4 := addC_bit hx hy k (by omega)
    rw [show 2 * (k + 1) = 2 * k + 1 + 1 by omega, hcar, hcar, h1, hv_even, hv_even, hv_odd, hv_odd, addC]
    omega
theorem join_sum {x y : Nat → Int} (hx : WordOK x) (hy : WordOK y) (k : Nat) (hk : k < 4) : joinF (hsum (hv x) (hv y)) k = addS x y k := by
  have h1 := hcar_two hx hy k (by omega)
  have h2 := hx k (by omega)
  have h3 := hy k (by omega)
  have h4 := addC_bit hx hy k (by omega)
  unfold joinF hsum addS
  rw [hcar, h1, hv_even, hv_even, hv_odd, hv_odd]
  omega
theorem wordC_congr {f g : Nat → Int} (h : ∀ k, k < 4 → f k = g k) : wordC f = wordC g := by
  unfold wordC; rw [h 0 (by omega), h 1 (by omega), h 2 (by omega), h 3 (by omega)]
structure RAddW (x y : Nat → Int) (w : World) (b6 b7 b8 : Nat) (k : Nat) (wr : World) : Prop where
  below : Below w.heap.size w wr
  r : wr.heap[w.heap.size + 1 + 1]? = some (.cells (wordC fun _ => 0) 29 (0, 0))
  a : wr.heap[b6]? = some (.cells (halfC (hv x)) 88 (0, 0))
  b : wr.heap[b7]? = some (.cells (halfC (hv y)) 88 (0, 0))
  s : wr.heap[b8]? = some (.cells (halfC fun i => if i < k then hsum (hv x) (hv y) i else 0) 88 (0, 0))
theorem RAddW.step {x y : Nat → Int} {w wr : World} {b6 b7 b8 k : Nat} (h : RAddW x y w b6 b7 b8 k wr) (h6 : b6 < b8) (h7 : b7 < b8) (h8 : w.heap.size + 1 + 1 < b8) (hk : k < 8) :
    RAddW x y w b6 b7 b8 (k + 1) (wr.setCell ⟨b8, k, none⟩ (.int .u64 (hsum (hv x) (hv y) k))) := by
  have hg := setCell_grown (w := wr) b8 k (.int .u64 (hsum (hv x) (hv y) k))
  have hl := block_lt h.s
  refine ⟨below_grown h.below h.below.size hg (by rintro _ ⟨rfl⟩; omega), ?_, ?_, ?_, ?_⟩
  · rw [hg.block _ (block_lt h.r) (fun e => by have := Option.some.inj e; omega)]; exact h.r
  · rw [hg.block _ (block_lt h.a) (fun e => by have := Option.some.inj e; omega)]; exact h.a
  · rw [hg.block _ (block_lt h.b) (fun e => by have := Option.some.inj e; omega)]; exact h.b
  · rw [heap_setCell_same wr _ k _ 88 _ h.s, halfC_set _ _ hk]
    congr 3
    funext i
    by_cases h1 : i = k
    · subst h1; simp
    · by_cases h2 : i < k
      · simp [h1, h2, Nat.lt_succ_of_lt h2]
      · simp [h1, h2]; omega
theorem RAddW.ext {x y : Nat → Int} {w wr wx : World} {b6 b7 b8 k : Nat} (h : RAddW x y w b6 b7 b8 k wr) (hx : Below wr.heap.size wr wx) : RAddW x y w b6 b7 b8 k wx :=
  ⟨below_all h.below hx, block_below h.r hx, block_below h.a hx, block_below h.b hx, block_below h.s hx⟩
set_option maxHeartbeats 4000000 in
theorem radd_p {x y : Nat → Int} (hx : WordOK x) (hy : WordOK y) (w : World) :
    Calls Try.prog 43 #[.agg (wordC x), .agg (wordC y)] w fun e w' => e = .returned (.tuple #[.agg (wordC (addS x y)), .int .u64 (addC x y 4)]) ∧ Below w.heap.size w w' := by
  go_enter Try.func43, Try.ntmps43
  go_upto_region 1 with (fail)
  go_cut [6, 7] from 12 (fun p q wx => ∃ b6 b7, p = .pointer (some ⟨b6, 0, none⟩) ∧ q = .pointer (some ⟨b7, 0, none⟩) ∧ RAdd1 x y w b6 b7 wx)
  case first =>
    obtain ⟨h1, h2, h3, h4, h5⟩ := alloc3 w (.cells (wordC x) 29) (.cells (wordC y) 29) (.cells (wordC fun _ => 0) 29)
    change Code.wp _ _ _ _ (((w.alloc (Obj.cells (wordC x) 29)).alloc (Obj.cells (wordC y) 29)).alloc (Obj.cells (wordC fun _ => 0) 29))
    generalize ((w.alloc (Obj.cells (wordC x) 29)).alloc (Obj.cells (wordC y) 29)).alloc (Obj.cells (wordC fun _ => 0) 29) = W at *
    have HB := Lib.hid h1
    have HR := Lib.hid h5
    have HS := Lib.hid h2
    have hcx : ∀ e : ExtOf W, e.wd.rangeAt w.heap.size 0 (wordC x).toList := fun e => range_block (e.block h3)
    have hcy : ∀ e : ExtOf W, e.wd.rangeAt (w.heap.size + 1) 0 (wordC y).toList := fun e => range_block (e.block h4)
    have HCX := Lib.hid hcx
    have HCY := Lib.hid hcy
    clear h1 h5 h2 h3 h4 hcx hcy
    refine wp_region_headany (fun w' => ∃ e : ExtOf W, w' = e.wd) 7 [0, 2] 6 (by kernel_rfl) (by kernel_rfl) (fun d _ _ _ _ h => by cases d <;> exact h) ⟨⟨W.drew, (Below.refl _ _).drew⟩, rfl⟩ ?_
    simp only [List.map_cons, List.map_nil, List.getD_cons_zero, List.getD_cons_succ]
    refine wpHead_loade rfl 29 _ rfl w.heap.size 0 rfl (wordC x).toList _ HCX.out tu29 rfl ts29 ?_
    refine wpHead_loade rfl 29 _ rfl (w.heap.size + 1) 0 rfl (wordC y).toList _ HCY.out tu29 rfl ts29 ?_
    refine wpHead_nil ?_
    have T : Two W none none W.drew := ⟨(Below.refl _ _).drew, by simp, by simp, by simp⟩
    have hB := HB.out
    have hR := HR.out
    have h2 := HS.out
    generalize W.drew = V0 at *
    refine wpAnyT_ready (rs := [1, 4, 5]) (by kernel_rfl) (by decide) ?_
    refine AllT.cons rfl ?_ ?_
    · skip
      refine wpList_plain rfl (fun K hK => ?_)
      go_simp
      go_at_call 47
      refine (halves_p hx _).mono ?_
      rintro e V1 ⟨rfl, hb⟩
      refine hK _ _ ?_
      clear hK K
      have T := T.call hb
      refine wpList_end ⟨fun _ _ => IsExt.of T.e, ?_⟩
      clear hb
      refine wpAnyT_ready (rs := [3, 4, 5]) (by kernel_rfl) (by decide) ?_
      refine AllT.cons rfl ?_ ?_
      · skip
        refine wpList_plain rfl (fun K hK => ?_)
        go_simp
        go_at_call 47
        refine (halves_p hy _).mono ?_
        rintro e V2 ⟨rfl, hb⟩
        refine hK _ _ ?_
        clear hK K
        have T := T.call hb
        refine wpList_end ⟨fun _ _ => IsExt.of T.e, ?_⟩
        clear hb
        refine wpAnyT_ready (rs := [4, 5]) (by kernel_rfl) (by decide) ?_
        refine AllT.cons rfl ?_ ?_
        · skip
          refine al88 rfl rfl ?_
          have T := T.alloc_p
          refine wpList_end ⟨fun _ _ => IsExt.of T.e, ?_⟩
          generalize V2.alloc (.cells (halfC fun _ => 0) 88) = V3 at *
          generalize V2.heap.size = b6 at *
          refine wpAnyT_ready (rs := [5]) (by kernel_rfl) (by decide) ?_
          refine AllT.cons rfl ?_ ?_
          · skip
            refine al88 rfl rfl ?_
            have T := T.alloc_q
            refine wpList_end ⟨fun _ _ => IsExt.of T.e, ?_⟩
            generalize V3.alloc (.cells (halfC fun _ => 0) 88) = V4 at *
            generalize V3.heap.size = b7 at *
            refine wpAnyT_ready (rs := [6]) (by kernel_rfl) (by decide) ?_
            refine AllT.cons rfl ?_ ?_
            · skip
              refine wpList_store_mid rfl 88 _ _ rfl b6 0 (halfC (hv x)) rfl rfl (there_block ((T.hp _ rfl).1) 0 8 (by simp [halfC])) ts88 (halfC_one _) ?_
              have T := T.store (x := x)
              refine wpList_end ⟨fun _ _ => IsExt.of T.e, ?_⟩
              generalize V4.setCells b6 0 (halfC (hv x)).toList = V5 at *
              refine wpAnyT_ready (rs := [7]) (by kernel_rfl) (by decide) ?_
              refine AllT.cons rfl ?_ ?_
              · skip
                refine wpList_store_mid rfl 88 _ _ rfl b7 0 (halfC (hv y)) rfl rfl (there_block (T.hq) 0 8 (by simp [halfC])) ts88 (halfC_one _) ?_
                have T := T.store (y := y) hB hR h2
                refine wpList_end ⟨fun h _ => absurd rfl h, ?_⟩
                generalize V5.setCells b7 0 (halfC (hv y)).toList = V6 at *
                refine wpAnyT_done (by kernel_rfl) ?_
                go_wp2_with fail
                go_meet
                exact ⟨_, _, rfl, rfl, T⟩
              exact AllT.nil
            exact AllT.nil
          exact AllT.nil
        refine AllT.cons rfl ?_ ?_
        · skip
          refine al88 rfl rfl ?_
          have T := T.alloc_q
          refine wpList_end ⟨fun _ _ => IsExt.of T.e, ?_⟩
          generalize V2.alloc (.cells (halfC fun _ => 0) 88) = V3 at *
          generalize V2.heap.size = b7 at *
          refine wpAnyT_ready (rs := [4]) (by kernel_rfl) (by decide) ?_
          refine AllT.cons rfl ?_ ?_
          · skip
            refine al88 rfl rfl ?_
            have T := T.alloc_p
            refine wpList_end ⟨fun _ _ => IsExt.of T.e, ?_⟩
            generalize V3.alloc (.cells (halfC fun _ => 0) 88) = V4 at *
            generalize V3.heap.size = b6 at *
            refine wpAnyT_ready (rs := [6]) (by kernel_rfl) (by decide) ?_
            refine AllT.cons rfl ?_ ?_
            · skip
              refine wpList_store_mid rfl 88 _ _ rfl b6 0 (halfC (hv x)) rfl rfl (there_block ((T.hp _ rfl).1) 0 8 (by simp [halfC])) ts88 (halfC_one _) ?_
              have T := T.store (x := x)
              refine wpList_end ⟨fun _ _ => IsExt.of T.e, ?_⟩
              generalize V4.setCells b6 0 (halfC (hv x)).toList = V5 at *
              refine wpAnyT_ready (rs := [7]) (by kernel_rfl) (by decide) ?_
              refine AllT.cons rfl ?_ ?_
              · skip
                refine wpList_store_mid rfl 88 _ _ rfl b7 0 (halfC (hv y)) rfl rfl (there_block (T.hq) 0 8 (by simp [halfC])) ts88 (halfC_one _) ?_
                have T := T.store (y := y) hB hR h2
                refine wpList_end ⟨fun h _ => absurd rfl h, ?_⟩
                generalize V5.setCells b7 0 (halfC (hv y)).toList = V6 at *
                refine wpAnyT_done (by kernel_rfl) ?_
                go_wp2_with fail
                go_meet
                exact ⟨_, _, rfl, rfl, T⟩
              exact AllT.nil
            exact AllT.nil
          exact AllT.nil
        exact AllT.nil
      refine AllT.cons rfl ?_ ?_
      · skip
        refine al88 rfl rfl ?_
        have T := T.alloc_p
        refine wpList_end ⟨fun _ _ => IsExt.of T.e, ?_⟩
        generalize V1.alloc (.cells (halfC fun _ => 0) 88) = V2 at *
        generalize V1.heap.size = b6 at *
        refine wpAnyT_ready (rs := [3, 5]) (by kernel_rfl) (by decide) ?_
        refine AllT.cons rfl ?_ ?_
        · skip
          refine wpList_plain rfl (fun K hK => ?_)
          go_simp
          go_at_call 47
          refine (halves_p hy _).mono ?_
          rintro e V3 ⟨rfl, hb⟩
          refine hK _ _ ?_
          clear hK K
          have T := T.call hb
          refine wpList_end ⟨fun _ _ => IsExt.of T.e, ?_⟩
          clear hb
          refine wpAnyT_ready (rs := [5]) (by kernel_rfl) (by decide) ?_
          refine AllT.cons rfl ?_ ?_
          · skip
            refine al88 rfl rfl ?_
            have T := T.alloc_q
            refine wpList_end ⟨fun _ _ => IsExt.of T.e, ?_⟩
            generalize V3.alloc (.cells (halfC fun _ => 0) 88) = V4 at *
            generalize V3.heap.size = b7 at *
            refine wpAnyT_ready (rs := [6]) (by kernel_rfl) (by decide) ?_
            refine AllT.cons rfl ?_ ?_
            · skip
              refine wpList_store_mid rfl 88 _ _ rfl b6 0 (halfC (hv x)) rfl rfl (there_block ((T.hp _ rfl).1) 0 8 (by simp [halfC])) ts88 (halfC_one _) ?_
              have T := T.store (x := x)
              refine wpList_end ⟨fun _ _ => IsExt.of T.e, ?_⟩
              generalize V4.setCells b6 0 (halfC (hv x)).toList = V5 at *
              refine wpAnyT_ready (rs := [7]) (by kernel_rfl) (by decide) ?_
              refine AllT.cons rfl ?_ ?_
              · skip
                refine wpList_store_mid rfl 88 _ _ rfl b7 0 (halfC (hv y)) rfl rfl (there_block (T.hq) 0 8 (by simp [halfC])) ts88 (halfC_one _) ?_
                have T := T.store (y := y) hB hR h2
                refine wpList_end ⟨fun h _ => absurd rfl h, ?_⟩
                generalize V5.setCells b7 0 (halfC (hv y)).toList = V6 at *
                refine wpAnyT_done (by kernel_rfl) ?_
                go_wp2_with fail
                go_meet
                exact ⟨_, _, rfl, rfl, T⟩
              exact AllT.nil
            exact AllT.nil
          exact AllT.nil
        refine AllT.cons rfl ?_ ?_
        · skip
          refine al88 rfl rfl ?_
          have T := T.alloc_q
          refine wpList_end ⟨fun _ _ => IsExt.of T.e, ?_⟩
          generalize V2.alloc (.cells (halfC fun _ => 0) 88) = V3 at *
          generalize V2.heap.size = b7 at *
          refine wpAnyT_ready (rs := [3]) (by kernel_rfl) (by decide) ?_
          refine AllT.cons rfl ?_ ?_
          · skip
            refine wpList_plain rfl (fun K hK => ?_)
            go_simp
            go_at_call 47
            refine (halves_p hy _).mono ?_
            rintro e V4 ⟨rfl, hb⟩
            refine hK _ _ ?_
            clear hK K
            have T := T.call hb
            refine wpList_end ⟨fun _ _ => IsExt.of T.e, ?_⟩
            clear hb
            refine wpAnyT_ready (rs := [6]) (by kernel_rfl) (by decide) ?_
            refine AllT.cons rfl ?_ ?_
            · skip
              refine wpList_store_mid rfl 88 _ _ rfl b6 0 (halfC (hv x)) rfl rfl (there_block ((T.hp _ rfl).1) 0 8 (by simp [halfC])) ts88 (halfC_one _) ?_
              have T := T.store (x := x)
              refine wpList_end ⟨fun _ _ => IsExt.of T.e, ?_⟩
              generalize V4.setCells b6 0 (halfC (hv x)).toList = V5 at *
              refine wpAnyT_ready (rs := [7]) (by kernel_rfl) (by decide) ?_
              refine AllT.cons rfl ?_ ?_
              · skip
                refine wpList_store_mid rfl 88 _ _ rfl b7 0 (halfC (hv y)) rfl rfl (there_block (T.hq) 0 8 (by simp [halfC])) ts88 (halfC_one _) ?_
                have T := T.store (y := y) hB hR h2
                refine wpList_end ⟨fun h _ => absurd rfl h, ?_⟩
                generalize V5.setCells b7 0 (halfC (hv y)).toList = V6 at *
                refine wpAnyT_done (by kernel_rfl) ?_
                go_wp2_with fail
                go_meet
                exact ⟨_, _, rfl, rfl, T⟩
              exact AllT.nil
            exact AllT.nil
          exact AllT.nil
        exact AllT.nil
      refine AllT.cons rfl ?_ ?_
      · skip
        refine al88 rfl rfl ?_
        have T := T.alloc_q
        refine wpList_end ⟨fun _ _ => IsExt.of T.e, ?_⟩
        generalize V1.alloc (.cells (halfC fun _ => 0) 88) = V2 at *
        generalize V1.heap.size = b7 at *
        refine wpAnyT_ready (rs := [3, 4]) (by kernel_rfl) (by decide) ?_
        refine AllT.cons rfl ?_ ?_
        · skip
          refine wpList_plain rfl (fun K hK => ?_)
          go_simp
          go_at_call 47
          refine (halves_p hy _).mono ?_
          rintro e V3 ⟨rfl, hb⟩
          refine hK _ _ ?_
          clear hK K
          have T := T.call hb
          refine wpList_end ⟨fun _ _ => IsExt.of T.e, ?_⟩
          clear hb
          refine wpAnyT_ready (rs := [4]) (by kernel_rfl) (by decide) ?_
          refine AllT.cons rfl ?_ ?_
          · skip
            refine al88 rfl rfl ?_
            have T := T.alloc_p
            refine wpList_end ⟨fun _ _ => IsExt.of T.e, ?_⟩
            generalize V3.alloc (.cells (halfC fun _ => 0) 88) = V4 at *
            generalize V3.heap.size = b6 at *
            refine wpAnyT_ready (rs := [6]) (by kernel_rfl) (by decide) ?_
            refine AllT.cons rfl ?_ ?_
            · skip
              refine wpList_store_mid rfl 88 _ _ rfl b6 0 (halfC (hv x)) rfl rfl (there_block ((T.hp _ rfl).1) 0 8 (by simp [halfC])) ts88 (halfC_one _) ?_
              have T := T.store (x := x)
              refine wpList_end ⟨fun _ _ => IsExt.of T.e, ?_⟩
              generalize V4.setCells b6 0 (halfC (hv x)).toList = V5 at *
              refine wpAnyT_ready (rs := [7]) (by kernel_rfl) (by decide) ?_
              refine AllT.cons rfl ?_ ?_
              · skip
                refine wpList_store_mid rfl 88 _ _ rfl b7 0 (halfC (hv y)) rfl rfl (there_block (T.hq) 0 8 (by simp [halfC])) ts88 (halfC_one _) ?_
                have T := T.store (y := y) hB hR h2
                refine wpList_end ⟨fun h _ => absurd rfl h, ?_⟩
                generalize V5.setCells b7 0 (halfC (hv y)).toList = V6 at *
                refine wpAnyT_done (by kernel_rfl) ?_
                go_wp2_with fail
                go_meet
                exact ⟨_, _, rfl, rfl, T⟩
              exact AllT.nil
            exact AllT.nil
          exact AllT.nil
        refine AllT.cons rfl ?_ ?_
        · skip
          refine al88 rfl rfl ?_
          have T := T.alloc_p
          refine wpList_end ⟨fun _ _ => IsExt.of T.e, ?_⟩
          generalize V2.alloc (.cells (halfC fun _ => 0) 88) = V3 at *
          generalize V2.heap.size = b6 at *
          refine wpAnyT_ready (rs := [3]) (by kernel_rfl) (by decide) ?_
          refine AllT.cons rfl ?_ ?_
          · skip
            refine wpList_plain rfl (fun K hK => ?_)
            go_simp
            go_at_call 47
            refine (halves_p hy _).mono ?_
            rintro e V4 ⟨rfl, hb⟩
            refine hK _ _ ?_
            clear hK K
            have T := T.call hb
            refine wpList_end ⟨fun _ _ => IsExt.of T.e, ?_⟩
            clear hb
            refine wpAnyT_ready (rs := [6]) (by kernel_rfl) (by decide) ?_
            refine AllT.cons rfl ?_ ?_
            · skip
              refine wpList_store_mid rfl 88 _ _ rfl b6 0 (halfC (hv x)) rfl rfl (there_block ((T.hp _ rfl).1) 0 8 (by simp [halfC])) ts88 (halfC_one _) ?_
              have T := T.store (x := x)
              refine wpList_end ⟨fun _ _ => IsExt.of T.e, ?_⟩
              generalize V4.setCells b6 0 (halfC (hv x)).toList = V5 at *
              refine wpAnyT_ready (rs := [7]) (by kernel_rfl) (by decide) ?_
              refine AllT.cons rfl ?_ ?_
              · skip
                refine wpList_store_mid rfl 88 _ _ rfl b7 0 (halfC (hv y)) rfl rfl (there_block (T.hq) 0 8 (by simp [halfC])) ts88 (halfC_one _) ?_
                have T := T.store (y := y) hB hR h2
                refine wpList_end ⟨fun h _ => absurd rfl h, ?_⟩
                generalize V5.setCells b7 0 (halfC (hv y)).toList = V6 at *
                refine wpAnyT_done (by kernel_rfl) ?_
                go_wp2_with fail
                go_meet
                exact ⟨_, _, rfl, rfl, T⟩
              exact AllT.nil
            exact AllT.nil
          exact AllT.nil
        exact AllT.nil
      exact AllT.nil
    refine AllT.cons rfl ?_ ?_
    · skip
      refine al88 rfl rfl ?_
      have T := T.alloc_p
      refine wpList_end ⟨fun _ _ => IsExt.of T.e, ?_⟩
      generalize V0.alloc (.cells (halfC fun _ => 0) 88) = V1 at *
      generalize V0.heap.size = b6 at *
      refine wpAnyT_ready (rs := [1, 5]) (by kernel_rfl) (by decide) ?_
      refine AllT.cons rfl ?_ ?_
      · skip
        refine wpList_plain rfl (fun K hK => ?_)
        go_simp
        go_at_call 47
        refine (halves_p hx _).mono ?_
        rintro e V2 ⟨rfl, hb⟩
        refine hK _ _ ?_
        clear hK K
        have T := T.call hb
        refine wpList_end ⟨fun _ _ => IsExt.of T.e, ?_⟩
        clear hb
        refine wpAnyT_ready (rs := [3, 5]) (by kernel_rfl) (by decide) ?_
        refine AllT.cons rfl ?_ ?_
        · skip
          refine wpList_plain rfl (fun K hK => ?_)
          go_simp
          go_at_call 47
          refine (halves_p hy _).mono ?_
          rintro e V3 ⟨rfl, hb⟩
          refine hK _ _ ?_
          clear hK K
          have T := T.call hb
          refine wpList_end ⟨fun _ _ => IsExt.of T.e, ?_⟩
          clear hb
          refine wpAnyT_ready (rs := [5]) (by kernel_rfl) (by decide) ?_
          refine AllT.cons rfl ?_ ?_
          · skip
            refine al88 rfl rfl ?_
            have T := T.alloc_q
            refine wpList_end ⟨fun _ _ => IsExt.of T.e, ?_⟩
            generalize V3.alloc (.cells (halfC fun _ => 0) 88) = V4 at *
            generalize V3.heap.size = b7 at *
            refine wpAnyT_ready (rs := [6]) (by kernel_rfl) (by decide) ?_
            refine AllT.cons rfl ?_ ?_
            · skip
              refine wpList_store_mid rfl 88 _ _ rfl b6 0 (halfC (hv x)) rfl rfl (there_block ((T.hp _ rfl).1) 0 8 (by simp [halfC])) ts88 (halfC_one _) ?_
              have T := T.store (x := x)
              refine wpList_end ⟨fun _ _ => IsExt.of T.e, ?_⟩
              generalize V4.setCells b6 0 (halfC (hv x)).toList = V5 at *
              refine wpAnyT_ready (rs := [7]) (by kernel_rfl) (by decide) ?_
              refine AllT.cons rfl ?_ ?_
              · skip
                refine wpList_store_mid rfl 88 _ _ rfl b7 0 (halfC (hv y)) rfl rfl (there_block (T.hq) 0 8 (by simp [halfC])) ts88 (halfC_one _) ?_
                have T := T.store (y := y) hB hR h2
                refine wpList_end ⟨fun h _ => absurd rfl h, ?_⟩
                generalize V5.setCells b7 0 (halfC (hv y)).toList = V6 at *
                refine wpAnyT_done (by kernel_rfl) ?_
                go_wp2_with fail
                go_meet
                exact ⟨_, _, rfl, rfl, T⟩
              exact AllT.nil
            exact AllT.nil
          exact AllT.nil
        refine AllT.cons rfl ?_ ?_
        · skip
          refine al88 rfl rfl ?_
          have T := T.alloc_q
          refine wpList_end ⟨fun _ _ => IsExt.of T.e, ?_⟩
          generalize V2.alloc (.cells (halfC fun _ => 0) 88) = V3 at *
          generalize V2.heap.size = b7 at *
          refine wpAnyT_ready (rs := [3]) (by kernel_rfl) (by decide) ?_
          refine AllT.cons rfl ?_ ?_
          · skip
            refine wpList_plain rfl (fun K hK => ?_)
            go_simp
            go_at_call 47
            refine (halves_p hy _).mono ?_
            rintro e V4 ⟨rfl, hb⟩
            refine hK _ _ ?_
            clear hK K
            have T := T.call hb
            refine wpList_end ⟨fun _ _ => IsExt.of T.e, ?_⟩
            clear hb
            refine wpAnyT_ready (rs := [6]) (by kernel_rfl) (by decide) ?_
            refine AllT.cons rfl ?_ ?_
            · skip
              refine wpList_store_mid rfl 88 _ _ rfl b6 0 (halfC (hv x)) rfl rfl (there_block ((T.hp _ rfl).1) 0 8 (by simp [halfC])) ts88 (halfC_one _) ?_
              have T := T.store (x := x)
              refine wpList_end ⟨fun _ _ => IsExt.of T.e, ?_⟩
              generalize V4.setCells b6 0 (halfC (hv x)).toList = V5 at *
              refine wpAnyT_ready (rs := [7]) (by kernel_rfl) (by decide) ?_
              refine AllT.cons rfl ?_ ?_
              · skip
                refine wpList_store_mid rfl 88 _ _ rfl b7 0 (halfC (hv y)) rfl rfl (there_block (T.hq) 0 8 (by simp [halfC])) ts88 (halfC_one _) ?_
                have T := T.store (y := y) hB hR h2
                refine wpList_end ⟨fun h _ => absurd rfl h, ?_⟩
                generalize V5.setCells b7 0 (halfC (hv y)).toList = V6 at *
                refine wpAnyT_done (by kernel_rfl) ?_
                go_wp2_with fail
                go_meet
                exact ⟨_, _, rfl, rfl, T⟩
              exact AllT.nil
            exact AllT.nil
          exact AllT.nil
        exact AllT.nil
      refine AllT.cons rfl ?_ ?_
      · skip
        refine al88 rfl rfl ?_
        have T := T.alloc_q
        refine wpList_end ⟨fun _ _ => IsExt.of T.e, ?_⟩
        generalize V1.alloc (.cells (halfC fun _ => 0) 88) = V2 at *
        generalize V1.heap.size = b7 at *
        refine wpAnyT_ready (rs := [1]) (by kernel_rfl) (by decide) ?_
        refine AllT.cons rfl ?_ ?_
        · skip
          refine wpList_plain rfl (fun K hK => ?_)
          go_simp
          go_at_call 47
          refine (halves_p hx _).mono ?_
          rintro e V3 ⟨rfl, hb⟩
          refine hK _ _ ?_
          clear hK K
          have T := T.call hb
          refine wpList_end ⟨fun _ _ => IsExt.of T.e, ?_⟩
          clear hb
          refine wpAnyT_ready (rs := [3]) (by kernel_rfl) (by decide) ?_
          refine AllT.cons rfl ?_ ?_
          · skip
            refine wpList_plain rfl (fun K hK => ?_)
            go_simp
            go_at_call 47
            refine (halves_p hy _).mono ?_
            rintro e V4 ⟨rfl, hb⟩
            refine hK _ _ ?_
            clear hK K
            have T := T.call hb
            refine wpList_end ⟨fun _ _ => IsExt.of T.e, ?_⟩
            clear hb
            refine wpAnyT_ready (rs := [6]) (by kernel_rfl) (by decide) ?_
            refine AllT.cons rfl ?_ ?_
            · skip
              refine wpList_store_mid rfl 88 _ _ rfl b6 0 (halfC (hv x)) rfl rfl (there_block ((T.hp _ rfl).1) 0 8 (by simp [halfC])) ts88 (halfC_one _) ?_
              have T := T.store (x := x)
              refine wpList_end ⟨fun _ _ => IsExt.of T.e, ?_⟩
              generalize V4.setCells b6 0 (halfC (hv x)).toList = V5 at *
              refine wpAnyT_ready (rs := [7]) (by kernel_rfl) (by decide) ?_
              refine AllT.cons rfl ?_ ?_
              · skip
                refine wpList_store_mid rfl 88 _ _ rfl b7 0 (halfC (hv y)) rfl rfl (there_block (T.hq) 0 8 (by simp [halfC])) ts88 (halfC_one _) ?_
                have T := T.store (y := y) hB hR h2
                refine wpList_end ⟨fun h _ => absurd rfl h, ?_⟩
                generalize V5.setCells b7 0 (halfC (hv y)).toList = V6 at *
                refine wpAnyT_done (by kernel_rfl) ?_
                go_wp2_with fail
                go_meet
                exact ⟨_, _, rfl, rfl, T⟩
              exact AllT.nil
            exact AllT.nil
          exact AllT.nil
        exact AllT.nil
      exact AllT.nil
    refine AllT.cons rfl ?_ ?_
    · skip
      refine al88 rfl rfl ?_
      have T := T.alloc_q
      refine wpList_end ⟨fun _ _ => IsExt.of T.e, ?_⟩
      generalize V0.alloc (.cells (halfC fun _ => 0) 88) = V1 at *
      generalize V0.heap.size = b7 at *
      refine wpAnyT_ready (rs := [1, 4]) (by kernel_rfl) (by decide) ?_
      refine AllT.cons rfl ?_ ?_
      · skip
        refine wpList_plain rfl (fun K hK => ?_)
        go_simp
        go_at_call 47
        refine (halves_p hx _).mono ?_
        rintro e V2 ⟨rfl, hb⟩
        refine hK _ _ ?_
        clear hK K
        have T := T.call hb
        refine wpList_end ⟨fun _ _ => IsExt.of T.e, ?_⟩
        clear hb
        refine wpAnyT_ready (rs := [3, 4]) (by kernel_rfl) (by decide) ?_
        refine AllT.cons rfl ?_ ?_
        · skip
          refine wpList_plain rfl (fun K hK => ?_)
          go_simp
          go_at_call 47
          refine (halves_p hy _).mono ?_
          rintro e V3 ⟨rfl, hb⟩
          refine hK _ _ ?_
          clear hK K
          have T := T.call hb
          refine wpList_end ⟨fun _ _ => IsExt.of T.e, ?_⟩
          clear hb
          refine wpAnyT_ready (rs := [4]) (by kernel_rfl) (by decide) ?_
          refine AllT.cons rfl ?_ ?_
          · skip
            refine al88 rfl rfl ?_
            have T := T.alloc_p
            refine wpList_end ⟨fun _ _ => IsExt.of T.e, ?_⟩
            generalize V3.alloc (.cells (halfC fun _ => 0) 88) = V4 at *
            generalize V3.heap.size = b6 at *
            refine wpAnyT_ready (rs := [6]) (by kernel_rfl) (by decide) ?_
            refine AllT.cons rfl ?_ ?_
            · skip
              refine wpList_store_mid rfl 88 _ _ rfl b6 0 (halfC (hv x)) rfl rfl (there_block ((T.hp _ rfl).1) 0 8 (by simp [halfC])) ts88 (halfC_one _) ?_
              have T := T.store (x := x)
              refine wpList_end ⟨fun _ _ => IsExt.of T.e, ?_⟩
              generalize V4.setCells b6 0 (halfC (hv x)).toList = V5 at *
              refine wpAnyT_ready (rs := [7]) (by kernel_rfl) (by decide) ?_
              refine AllT.cons rfl ?_ ?_
              · skip
                refine wpList_store_mid rfl 88 _ _ rfl b7 0 (halfC (hv y)) rfl rfl (there_block (T.hq) 0 8 (by simp [halfC])) ts88 (halfC_one _) ?_
                have T := T.store (y := y) hB hR h2
                refine wpList_end ⟨fun h _ => absurd rfl h, ?_⟩
                generalize V5.setCells b7 0 (halfC (hv y)).toList = V6 at *
                refine wpAnyT_done (by kernel_rfl) ?_
                go_wp2_with fail
                go_meet
                exact ⟨_, _, rfl, rfl, T⟩
              exact AllT.nil
            exact AllT.nil
          exact AllT.nil
        refine AllT.cons rfl ?_ ?_
        · skip
          refine al88 rfl rfl ?_
          have T := T.alloc_p
          refine wpList_end ⟨fun _ _ => IsExt.of T.e, ?_⟩
          generalize V2.alloc (.cells (halfC fun _ => 0) 88) = V3 at *
          generalize V2.heap.size = b6 at *
          refine wpAnyT_ready (rs := [3]) (by kernel_rfl) (by decide) ?_
          refine AllT.cons rfl ?_ ?_
          · skip
            refine wpList_plain rfl (fun K hK => ?_)
            go_simp
            go_at_call 47
            refine (halves_p hy _).mono ?_
            rintro e V4 ⟨rfl, hb⟩
            refine hK _ _ ?_
            clear hK K
            have T := T.call hb
            refine wpList_end ⟨fun _ _ => IsExt.of T.e, ?_⟩
            clear hb
            refine wpAnyT_ready (rs := [6]) (by kernel_rfl) (by decide) ?_
            refine AllT.cons rfl ?_ ?_
            · skip
              refine wpList_store_mid rfl 88 _ _ rfl b6 0 (halfC (hv x)) rfl rfl (there_block ((T.hp _ rfl).1) 0 8 (by simp [halfC])) ts88 (halfC_one _) ?_
              have T := T.store (x := x)
              refine wpList_end ⟨fun _ _ => IsExt.of T.e, ?_⟩
              generalize V4.setCells b6 0 (halfC (hv x)).toList = V5 at *
              refine wpAnyT_ready (rs := [7]) (by kernel_rfl) (by decide) ?_
              refine AllT.cons rfl ?_ ?_
              · skip
                refine wpList_store_mid rfl 88 _ _ rfl b7 0 (halfC (hv y)) rfl rfl (there_block (T.hq) 0 8 (by simp [halfC])) ts88 (halfC_one _) ?_
                have T := T.store (y := y) hB hR h2
                refine wpList_end ⟨fun h _ => absurd rfl h, ?_⟩
                generalize V5.setCells b7 0 (halfC (hv y)).toList = V6 at *
                refine wpAnyT_done (by kernel_rfl) ?_
                go_wp2_with fail
                go_meet
                exact ⟨_, _, rfl, rfl, T⟩
              exact AllT.nil
            exact AllT.nil
          exact AllT.nil
        exact AllT.nil
      refine AllT.cons rfl ?_ ?_
      · skip
        refine al88 rfl rfl ?_
        have T := T.alloc_p
        refine wpList_end ⟨fun _ _ => IsExt.of T.e, ?_⟩
        generalize V1.alloc (.cells (halfC fun _ => 0) 88) = V2 at *
        generalize V1.heap.size = b6 at *
        refine wpAnyT_ready (rs := [1]) (by kernel_rfl) (by decide) ?_
        refine AllT.cons rfl ?_ ?_
        · skip
          refine wpList_plain rfl (fun K hK => ?_)
          go_simp
          go_at_call 47
          refine (halves_p hx _).mono ?_
          rintro e V3 ⟨rfl, hb⟩
          refine hK _ _ ?_
          clear hK K
          have T := T.call hb
          refine wpList_end ⟨fun _ _ => IsExt.of T.e, ?_⟩
          clear hb
          refine wpAnyT_ready (rs := [3]) (by kernel_rfl) (by decide) ?_
          refine AllT.cons rfl ?_ ?_
          · skip
            refine wpList_plain rfl (fun K hK => ?_)
            go_simp
            go_at_call 47
            refine (halves_p hy _).mono ?_
            rintro e V4 ⟨rfl, hb⟩
            refine hK _ _ ?_
            clear hK K
            have T := T.call hb
            refine wpList_end ⟨fun _ _ => IsExt.of T.e, ?_⟩
            clear hb
            refine wpAnyT_ready (rs := [6]) (by kernel_rfl) (by decide) ?_
            refine AllT.cons rfl ?_ ?_
            · skip
              refine wpList_store_mid rfl 88 _ _ rfl b6 0 (halfC (hv x)) rfl rfl (there_block ((T.hp _ rfl).1) 0 8 (by simp [halfC])) ts88 (halfC_one _) ?_
              have T := T.store (x := x)
              refine wpList_end ⟨fun _ _ => IsExt.of T.e, ?_⟩
              generalize V4.setCells b6 0 (halfC (hv x)).toList = V5 at *
              refine wpAnyT_ready (rs := [7]) (by kernel_rfl) (by decide) ?_
              refine AllT.cons rfl ?_ ?_
              · skip
                refine wpList_store_mid rfl 88 _ _ rfl b7 0 (halfC (hv y)) rfl rfl (there_block (T.hq) 0 8 (by simp [halfC])) ts88 (halfC_one _) ?_
                have T := T.store (y := y) hB hR h2
                refine wpList_end ⟨fun h _ => absurd rfl h, ?_⟩
                generalize V5.setCells b7 0 (halfC (hv y)).toList = V6 at *
                refine wpAnyT_done (by kernel_rfl) ?_
                go_wp2_with fail
                go_meet
                exact ⟨_, _, rfl, rfl, T⟩
              exact AllT.nil
            exact AllT.nil
          exact AllT.nil
        exact AllT.nil
      exact AllT.nil
    exact AllT.nil
  case rest =>
    obtain ⟨b6, b7, rfl, rfl, hW⟩ := hcut
    have l6 := block_lt hW.a
    have l7 := block_lt hW.b
    have l4 := block_lt hW.r
    have HW0 := Lib.hid hW
    clear hW
    go_wp2_with fail
    go_loopw [9, 10, 11] (fun c i _ wr => ∃ k : Nat, k ≤ 8 ∧ c = .int .u64 (hcar (hv x) (hv y) k) ∧ i = .int .i64 k ∧ RAddW x y w b6 b7 wc.heap.size k wr) (fun _ i _ _ => 8 - (intOf i).toNat)
    case atStart =>
      have h := HW0.out
      exact ⟨0, by omega, rfl, rfl, ⟨h.below.alloc h.below.size _, block_alloc h.r _, block_alloc h.a _, block_alloc h.b _, block_new _ _⟩⟩
    case round =>
      obtain ⟨k, hk, rfl, rfl, HW⟩ := hrel
      have HWH := Lib.hid HW
      have hbit := hcar_bit (hv_ok hx) (hv_ok hy) k hk
      by_cases hlt : k < 8
      · have hu := hv_ok hx k hlt
        have hw := hv_ok hy k hlt
        have hkI : (k : Int) < 8 := by omega
        have hca : ∀ e : ExtOf wr, e.wd.cell? ⟨b6, k, none⟩ = some (.int .u64 (hv x k)) := fun e => by rw [cell_of_row _ _ _ _ _ _ (e.block HW.a)]; exact halfC_get _ k hlt
        have hcb : ∀ e : ExtOf wr, e.wd.cell? ⟨b7, k, none⟩ = some (.int .u64 (hv y k)) := fun e => by rw [cell_of_row _ _ _ _ _ _ (e.block HW.b)]; exact halfC_get _ k hlt
        have hs := HW.s
        have HS := Lib.hid hs
        have e1 : IntKind.u64.wrap (hv x k + hv y k) = hv x k + hv y k := IntWalk.u64_in _ (by omega)
        have e2 : IntKind.u64.wrap (hv x k + hv y k + hcar (hv x) (hv y) k) = hv x k + hv y k + hcar (hv x) (hv y) k := IntWalk.u64_in _ (by omega)
        have hand := u64_and32 (x := hv x k + hv y k + hcar (hv x) (hv y) k) (by omega) (by omega)
        have E1 := Lib.hid e1
        have E2 := Lib.hid e2
        have HA := Lib.hid hand
        clear HW hs e1 e2 hand
        go_wp2_with fail
        have e1 := E1.out
        have e2 := E2.out
        refine wp_region_ext (by kernel_rfl) (by kernel_rfl) ?_
        iterate 10 (quiet_step (fail))
        refine wpQuiet_nil ?_
        rintro _ ⟨e, rfl⟩
        have hss := block_below HS.out e.below
        have hcs : e.wd.cell? ⟨wc.heap.size, k, none⟩ = some (.int .u64 0) := by
          rw [cell_of_row _ _ k _ 88 _ hss, halfC_get _ k hlt, if_neg (Nat.lt_irrefl _)]
        have hfz : e.wd.frozen? ⟨wc.heap.size, k, none⟩ = false := frozen_of_row _ _ k _ 88 hss
        have hand := HA.out
        clear hss hca hcb e1 e2
        go_wp2_with fail
        go_roundw
        case rel => exact ⟨k + 1, by omega, rfl, by go_num, (HWH.out.ext e.below).step l6 l7 l4 hlt⟩
        case measure => simp [intOf]; omega
      · obtain rfl : k = 8 := by omega
        have hJ := join_p (f := hsum (hv x) (hv y)) (fun i hi => by unfold hsum; omega) wc.heap.size wr (by
          have := HW.s
          rw [show (halfC fun i => if i < 8 then hsum (hv x) (hv y) i else 0) = halfC (hsum (hv x) (hv y)) from rfl] at this
          exact this)
        rw [wordC_congr (join_sum hx hy)] at hJ
        have hcar8 := hcar_two hx hy 4 (Nat.le_refl _)
        have HJ := Lib.hid hJ
        have HC := Lib.hid hcar8
        clear hJ HW hcar8
        go_wp2_with fail
        go_at_call 48
        refine HJ.out.mono ?_
        rintro e V ⟨rfl, hV⟩
        have hz := block_below HWH.out.r hV
        have hr : ∀ j, j < 4 → V.cell? ⟨w.heap.size + 1 + 1, j, none⟩ = some (.int .u64 0) := fun j hj => by
          rw [cell_of_row V _ j _ 29 _ hz, wordC_get _ j hj]
        have hfz : ∀ j, V.frozen? ⟨w.heap.size + 1 + 1, j, none⟩ = false := fun j => frozen_of_row V _ j _ 29 hz
        have hth : V.there (w.heap.size + 1 + 1) 0 (wordC (addS x y)).size := there_block hz 0 4 (by simp [wordC])
        have hone : (wordC (addS x y)).all (·.oneCell') = true := by simp [wordC, Value.oneCell']
        have HZ := Lib.hid hz
        have HV := Lib.hid hV
        have HTH := Lib.hid hth
        have HONE := Lib.hid hone
        clear hz hV hr hth hone
        go_wp2_with ((with_reducible refine g_store 29 ?_); refine wpList_store_mid rfl 29 _ _ rfl (w.heap.size + 1 + 1) 0 (wordC (addS x y)) rfl rfl HTH.out ts29 HONE.out ?_)
        have g1 := setCells_whole (new := wordC (addS x y)) HZ.out rfl
        refine bodyPost_ret (results_cell_tmp_row rfl _ _ (w.heap.size + 1 + 1) 29 (wordC (addS x y)) (0, 0) _ (.int .u64 (hcar (hv x) (hv y) 8)) rfl rfl g1 tu29 rfl ts29) rfl ⟨by rw [HC.out], below_grown (below_all HWH.out.below HV.out) (Nat.le_trans HWH.out.below.size HV.out.size) (setCells_grown _ _) (by rintro _ ⟨rfl⟩; omega)⟩
end Go.Proofs.Ytgkjglpnnehdbaa

