/- A number's digits, as the page prints them. -/
import Derived.Test.YtjmckfebnoaheaaE2
import Derived.Test.YtjmckfebnoaheaaG1
import Derived.Test.YtjmckfebnoaheaaK4
set_option linter.unusedVariables false
namespace Go.Proofs.Ytjmckfebnoaheaa
open Go.RowKit Go.KK Go.Lm

def slLen : Value → Nat
  | .slice _ n _ => n
  | _ => 0
def bts (l : List UInt8) : List Value := l.map fun b => .int .u8 (b.toNat : Int)
theorem bts_length (l : List UInt8) : (bts l).length = l.length := by simp [bts]
theorem bts_one (l : List UInt8) : ∀ u ∈ bts l, u.oneCell' = true := fun u hu => by
  obtain ⟨b, _, rfl⟩ := List.mem_map.1 hu; rfl
theorem bts_get (l : List UInt8) (i : Nat) (hi : i < l.length) : (bts l)[i]? = some (.int .u8 (l[i].toNat : Int)) := by simp [bts, hi]
theorem sown_one (w : World) (B : Nat) (c : Value) (hB : B ≤ w.heap.size) : SOwn (w.alloc (.cells #[c] 5)) B 5 1 (.slice (some ⟨w.heap.size, 0, none⟩) 1 1) 1 [c] := by
  have hb : (w.alloc (.cells #[c] 5)).heap[w.heap.size]? = some (.cells #[c] 5 (0, 0)) := block_new w _
  exact ⟨rfl, _, 1, rfl, Nat.le_refl _, by decide, .inr ⟨w.heap.size, 0, #[c], rfl, hB, hb, by simp, by simpa using range_block hb⟩⟩
theorem blks_types {w0 w w' : World} {l : List (Nat × Array Value × TypeId)} (h : Blks w0 l w) (hb : Below w0.heap.size w w')
    (hk : ∀ (b : Nat) (c : Array Value) (t' : TypeId) (fz : Nat × Nat), w.heap[b]? = some (.cells c t' fz) → t' ≠ 5 → w'.heap[b]? = w.heap[b]?) (hl : ∀ y ∈ l, y.2.2 ≠ 5) : Blks w0 l w' :=
  ⟨h.below.trans hb, fun y hy => (hk _ _ _ _ (h.at_ y hy) (hl y hy)).trans (h.at_ y hy), h.ge, h.nd⟩
/-- A store into such a block, with what stays. -/
theorem wpList_blks_storeg {P : Program} {ops : Array Oper} {rest : List Oper} {op : Oper} {a : Act} {Q : Exit → Act → World → Prop} {w0 w : World} {l : List (Nat × Array Value × TypeId)} (H : Blks w0 l w) (i b : Nat) (c : Array Value) (t : TypeId) (hi : l[i]? = some (b, c, t)) (hgd : op.guard = none) (x y : Operand) (ho : op.op = .store t x y) (hx : a.eval x = .pointer (some ⟨b, 0, none⟩))
    (new : Array Value) (hy : a.eval y = .agg new) (hn : new.size = c.size) (hs : (P.info? t).map (·.size) = some new.size) (h1 : new.all (·.oneCell') = true)
    (h : ∀ w', Blks w0 (l.set i (b, new, t)) w' → w.grownBy w' (some b) → wpList P ops Q rest (a.put op.dst undef) w') : wpList P ops Q (op :: rest) a w := by
  refine wpList_store_mid hgd t x y ho b 0 new hx hy (by rw [hn]; exact H.there i hi) hs h1 (h _ (H.row i hi new hn) (setCells_grown _ _))
theorem lowd_step (x : Int) (j : Nat) : [Value.int .u8 (48 + dec x j)] ++ bts (lowd x j) = bts (lowd x (j + 1)) := by
  have h := dec_bd x j
  simp only [bts, lowd, List.map_cons, chB_toNat h.1 h.2]; rfl
set_option maxRecDepth 100000 in
set_option maxHeartbeats 4000000 in
theorem rprint_p {x : Int} (hx0 : 0 ≤ x) (hx1 : x < R256) (w : World) :
    Calls Try.prog 39 #[.agg (W x)] w fun e w' => (∃ j, IsLen x j ∧ e = .returned (.string ⟨(lowd x j).toArray⟩)) ∧ Below w.heap.size w w' := by
  have H0 := ((Blks.nil w).alloc (W x) 24 rfl).alloc Z4 24 (b := w.heap.size + 1) (by simp)
  rw [show Z4 = W 0 from W_zero.symm] at H0
  have HH := Lib.hid H0
  have HX : Hid (0 ≤ x ∧ x < R256) := Lib.hid ⟨hx0, hx1⟩
  clear H0 hx0 hx1
  go_enter Try.func39, Try.ntmps39
  go_wp2_with fail
  go_loopw [4, 5, 6, 7] (fun v _ _ _ wr => ∃ j : Nat, (j = 0 ∨ x / 10 ^ j ≠ 0) ∧ SOwn wr (w.heap.size + 1 + 1) 5 1 v j (bts (lowd x j)) ∧ Blks w [(w.heap.size, W (x / 10 ^ j), 24), (w.heap.size + 1, W 0, 24)] wr) (fun v _ _ _ _ => 80 - slLen v)
  case atStart =>
    refine ⟨0, .inl rfl, SOwn.nil _ _ _ _, ?_⟩
    rw [Int.pow_zero, Int.ediv_one]
    exact HH.out
  case round =>
    obtain ⟨j, hj, hO, HW⟩ := hrel
    clear HH
    have hp10 : (0 : Int) < 10 ^ j := Int.pow_pos (by omega)
    have hy0 : 0 ≤ x / 10 ^ j := Int.ediv_nonneg HX.out.1 (by omega)
    have hy1 : x / 10 ^ j < R256 := by have := Int.ediv_le_self (10 ^ j) HX.out.1; have := HX.out.2; omega
    have hj77 : j ≤ 77 := by
      rcases hj with h | h
      · omega
      · rcases Nat.lt_or_ge j 78 with h2 | h2
        · omega
        · refine absurd (div10_zero_up HX.out.1 (i := 78) ?_ h2) h
          exact Int.ediv_eq_zero_of_lt HX.out.1 (by have := pow78; have := HX.out.2; omega)
    have hD := fun W' => rdiv_p hy0 hy1 (show (0 : Int) < 10 by omega) (by omega) W'
    rw [← div10_succ] at hD
    have hz0 : 0 ≤ x / 10 ^ (j + 1) := Int.ediv_nonneg HX.out.1 (Int.le_of_lt (Int.pow_pos (by omega)))
    have hz1 : x / 10 ^ (j + 1) < R256 := by have := Int.ediv_le_self (10 ^ (j + 1)) HX.out.1; have := HX.out.2; omega
    have hdb := dec_bd x j
    change ∀ w : World, Calls Try.prog 19 #[.agg (W (x / 10 ^ j)), .int .u64 10] w fun e w' => e = .returned (.tuple #[.agg (W (x / 10 ^ (j + 1))), .int .u64 (dec x j), .int .i64 0]) ∧ Below w.heap.size w w' at hD
    have hstep := lowd_step x j
    obtain ⟨hd0, hd1⟩ := hdb
    have HD := Lib.hid hD
    have HJ := Lib.hid hj
    have HO := Lib.hid hO
    have HO0 := Lib.hid hO
    have HWH := Lib.hid HW
    have HL : Hid (j ≤ 77) := Lib.hid hj77
    have HCM := Lib.hid (fun W' => rcmp_p hz0 hz1 (show (0 : Int) ≤ 0 by omega) R256_pos W')
    generalize hd : dec x j = d at *
    have HST := Lib.hid hstep
    have hc1 : IntKind.u8.wrap (48 + d) = 48 + d := by rw [IntKind.wrap_u8]; omega
    clear hD HW hj hp10 hy0 hy1 hd hO hstep hj77
    go_upto_region 4 with (first
      | ((with_reducible refine g_load 24 ?_); refine wpList_blks_load HWH.out 0 _ _ 24 rfl rfl (.tmp 1) rfl rfl tu24 rfl ts24 ?_)
      | (go_at_call 19; refine (HD.out _).mono ?_; rintro _ V ⟨rfl, hV⟩)
      | ((with_reducible refine g_store 24 ?_); refine wpList_blks_storeg ((HWH.out.ext hV).alloc Z4 24 rfl) 2 _ _ 24 rfl rfl _ _ rfl rfl (W (x / 10 ^ (j + 1))) rfl rfl ts24 (W_one _) ?_; intro w1 HW1 hg1))
    have HO1 : Hid (SOwn w1 (w.heap.size + 1 + 1) 5 1 u4 j (bts (lowd x j))) := Lib.hid (((HO.out.below hV).below ((Below.refl _ _).alloc (Nat.le_refl _) _)).grown hg1 (((HWH.out.ext hV).alloc Z4 24 rfl).get 2 rfl) (by decide))
    have hgz := (HWH.out.ext hV).below.size
    generalize V.heap.size = g at *
    have HW1H := Lib.hid HW1
    have HSZ : Hid (w.heap.size + 1 + 1 ≤ w1.heap.size) := Lib.hid (by have := HW1.lt 1 rfl; omega)
    clear HO HW1 hV hg1 hgz HWH
    go_upto_region 5 with (at_builtin; refine wpList_append_sown rfl _ _ 48 48 rfl (w.heap.size + 1 + 1) 5 (.int .u8 0) 1 1 tu48 info5 rfl (by decide) _ 1 [.int .u8 (48 + d)] rfl (sown_one w1 _ _ HSZ.out) u4 j (bts (lowd x j)) rfl ((HO1.out.below ((Below.refl _ _).alloc (Nat.le_refl _) _)).src tu48 (bts_one _)) (by have := HL.out; unfold maxLen; omega) (by have := HL.out; omega) (by have := HSZ.out; simp; omega) (fun t => t == 5) rfl ?_; intro v w2 ho2 hf2 hk2)
    have hQ := blks_types (HW1H.out.ext ((Below.refl _ _).alloc (Nat.le_refl _) _)) (hf2.below (B0 := w.heap.size) (by omega) (by have := HSZ.out; simp; omega)) hk2 (by simp)
    rw [HST.out, show 1 + j = j + 1 by omega] at ho2
    have HQ := Lib.hid hQ
    have HV := Lib.hid ho2
    clear hQ ho2 hf2 hk2 HO1 HW1H hc1 hd0 hd1
    go_upto_region 6 with (first
      | ((with_reducible refine g_load 24 ?_); refine wpList_blks_load HQ.out 2 _ _ 24 rfl rfl (.tmp 5) rfl rfl tu24 rfl ts24 ?_)
      | ((with_reducible refine g_store 24 ?_); refine wpList_blks_storeg HQ.out 0 _ _ 24 rfl rfl _ _ rfl rfl (W (x / 10 ^ (j + 1))) rfl rfl ts24 (W_one _) ?_; intro w3 HW3 hg3))
    have HV3 := Lib.hid (HV.out.grown hg3 (HQ.out.get 0 rfl) (by decide))
    have HQ3 := Lib.hid HW3
    clear HV HW3 hg3 HQ
    by_cases hz : x / 10 ^ (j + 1) = 0
    · have hcm : cmpI (x / 10 ^ (j + 1)) 0 = 0 := by rw [hz]; rfl
      rw [hcm] at HCM
      have HZ := Lib.hid hz
      clear hz hcm
      go_upto_region 7 with (first
        | ((with_reducible refine g_load 24 ?_); refine wpList_blks_load HQ3.out 0 _ _ 24 rfl rfl (.tmp 1) rfl rfl tu24 rfl ts24 ?_)
        | ((with_reducible refine g_load 24 ?_); refine wpList_blks_load HQ3.out 1 _ _ 24 rfl rfl (.tmp 3) rfl rfl tu24 rfl ts24 ?_)
        | (go_at_call 16; refine (HCM.out _).mono ?_; rintro _ V4 ⟨rfl, hV4⟩))
      have hO4 := HV3.out.below hV4
      obtain ⟨hl, A, cap, rfl, hn, hm, h5⟩ := hO4
      obtain ⟨gg, off, cur, rfl, hB, hg, hc, hr⟩ := h5.resolve_left (by omega)
      have hconv := run_convert_bytes_back (P := Try.prog) V4 48 9 5 ⟨gg, off, none⟩ cap (lowd x (j + 1)) tu48 tu5 tu9 (fun i hi => by
        rw [Addr.add_mid]; exact hr i _ (bts_get _ i hi))
      rw [lowd_length] at hconv
      have HE := Lib.hid (HQ3.out.ext hV4).below
      clear hr hc hg hB hm hn hl hV4
      go_wp2_with fail
      go_ret
      exact ⟨⟨j + 1, ⟨by omega, HZ.out, by simpa using HJ.out⟩, rfl⟩, HE.out⟩
    · have hz0 := Int.ediv_nonneg HX.out.1 (show (0 : Int) ≤ 10 ^ (j + 1) from Int.le_of_lt (Int.pow_pos (by omega)))
      have hcm : cmpI (x / 10 ^ (j + 1)) 0 = 1 := cmpI_gt (by omega)
      rw [hcm] at HCM
      have HZ := Lib.hid hz
      clear hz hcm hz0
      go_wp2_with (first
        | ((with_reducible refine g_load 24 ?_); refine wpList_blks_load HQ3.out 0 _ _ 24 rfl rfl (.tmp 1) rfl rfl tu24 rfl ts24 ?_)
        | ((with_reducible refine g_load 24 ?_); refine wpList_blks_load HQ3.out 1 _ _ 24 rfl rfl (.tmp 3) rfl rfl tu24 rfl ts24 ?_)
        | (go_at_call 16; refine (HCM.out _).mono ?_; rintro _ V4 ⟨rfl, hV4⟩))
      have hlen : slLen u4 = j := by obtain ⟨_, A, cap, h, _⟩ := HO0.out; rw [h]; rfl
      have hlen2 : slLen v = j + 1 := by obtain ⟨_, A, cap, h, _⟩ := HV3.out; rw [h]; rfl
      go_roundw
      case rel => exact ⟨j + 1, .inr HZ.out, HV3.out.below hV4, (HQ3.out.ext hV4).keep _ (by simp)⟩
      case measure => have := HL.out; rw [hlen, hlen2]; omega
end Go.Proofs.Ytjmckfebnoaheaa
