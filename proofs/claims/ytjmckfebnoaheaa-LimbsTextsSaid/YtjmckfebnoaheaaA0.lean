/- Plain laws on digits of whole numbers: sums, differences, products, quotients. No program, no premise. -/
set_option linter.unusedVariables false
namespace Go.Lm

/-- The digit k of n, at base b. -/
def dg (b n : Int) (k : Nat) : Int := n / b ^ k % b
theorem pw_pos {b : Int} (hb : 0 < b) (k : Nat) : 0 < b ^ k := Int.pow_pos hb
theorem pw_succ (b : Int) (k : Nat) : b ^ (k + 1) = b ^ k * b := Int.pow_succ b k
theorem div_succ {b : Int} (hb : 0 < b) (n : Int) (k : Nat) : n / b ^ (k + 1) = n / b ^ k / b := by
  rw [pw_succ, Int.ediv_ediv_of_nonneg (Int.le_of_lt (pw_pos hb k))]
theorem dg_lo {b : Int} (hb : 0 < b) (n : Int) (k : Nat) : 0 ≤ dg b n k := Int.emod_nonneg _ (by omega)
theorem dg_hi {b : Int} (hb : 0 < b) (n : Int) (k : Nat) : dg b n k < b := Int.emod_lt_of_pos _ hb
theorem mod_succ {b : Int} (hb : 0 < b) (n : Int) (k : Nat) : n % b ^ (k + 1) = n % b ^ k + b ^ k * dg b n k := by
  unfold dg
  rw [Int.emod_def n (b ^ (k + 1)), Int.emod_def n (b ^ k), Int.emod_def (n / b ^ k) b, div_succ hb, pw_succ]
  grind
/-- What is carried into place k of a sum. -/
def ca (b x y : Int) (k : Nat) : Int := (x % b ^ k + y % b ^ k) / b ^ k
theorem ca_zero (b x y : Int) : ca b x y 0 = 0 := by simp [ca, Int.emod_one]
theorem div_add {b : Int} (hb : 0 < b) (x y : Int) (k : Nat) : (x + y) / b ^ k = x / b ^ k + y / b ^ k + ca b x y k := by
  unfold ca
  have hp := pw_pos hb k
  have e : x + y = (x % b ^ k + y % b ^ k) + (x / b ^ k + y / b ^ k) * b ^ k := by
    rw [Int.emod_def x, Int.emod_def y]; grind
  rw [e, Int.add_mul_ediv_right _ _ (by omega)]
  omega
theorem dg_add {b : Int} (hb : 0 < b) (x y : Int) (k : Nat) : dg b (x + y) k = (dg b x k + dg b y k + ca b x y k) % b := by
  unfold dg
  rw [div_add hb]
  rw [Int.add_emod, Int.add_emod (x / b ^ k), Int.add_emod (x / b ^ k % b + y / b ^ k % b)]
theorem ca_succ {b : Int} (hb : 0 < b) (x y : Int) (k : Nat) : ca b x y (k + 1) = (dg b x k + dg b y k + ca b x y k) / b := by
  have hp := pw_pos hb k
  have e : ca b x y (k + 1) = (x % b ^ (k + 1) + y % b ^ (k + 1)) / b ^ k / b := by
    unfold ca
    rw [pw_succ, ← Int.ediv_ediv_of_nonneg (Int.le_of_lt hp)]
  rw [e, mod_succ hb x, mod_succ hb y]
  rw [show x % b ^ k + b ^ k * dg b x k + (y % b ^ k + b ^ k * dg b y k) = (x % b ^ k + y % b ^ k) + (dg b x k + dg b y k) * b ^ k by grind]
  rw [Int.add_mul_ediv_right _ _ (by omega)]
  congr 1
  unfold ca
  omega
theorem dg_mod {b : Int} (hb : 0 < b) (n : Int) {k j : Nat} (h : k < j) : dg b (n % b ^ j) k = dg b n k := by
  unfold dg
  obtain ⟨d, rfl⟩ : ∃ d, j = k + (d + 1) := ⟨j - k - 1, by omega⟩
  have hp := pw_pos hb k
  have e : n % b ^ (k + (d + 1)) = n + (-(n / b ^ (k + (d + 1))) * b ^ d * b) * b ^ k := by
    rw [Int.emod_def, Int.pow_add, Int.pow_succ]; grind
  rw [e, Int.add_mul_ediv_right _ _ (by omega), Int.add_mul_emod_self_right]
theorem mod_sub {b : Int} (n q : Int) (k : Nat) : (n + q * b ^ k) % b ^ k = n % b ^ k := Int.add_mul_emod_self_right ..
/-- A digit does not see what is added above it. -/
theorem dg_low {b : Int} (hb : 0 < b) (n q : Int) {k j : Nat} (h : k < j) : dg b (n + q * b ^ j) k = dg b n k := by
  rw [← dg_mod hb _ h, mod_sub, dg_mod hb _ h]
theorem dg_zero {b : Int} (k : Nat) : dg b 0 k = 0 := by simp [dg]
/-- A number is its digits. -/
theorem of_digits {b : Int} (hb : 0 < b) {x y : Int} : ∀ (n : Nat), (∀ k, k < n → dg b x k = dg b y k) → x % b ^ n = y % b ^ n
  | 0, _ => by simp [Int.emod_one]
  | n + 1, h => by rw [mod_succ hb, mod_succ hb, of_digits hb n (fun k hk => h k (by omega)), h n (by omega)]
theorem in_range {b x : Int} {n : Nat} (h0 : 0 ≤ x) (h1 : x < b ^ n) : x % b ^ n = x := Int.emod_eq_of_lt h0 h1

/-! ### Products -/
/-- Behind row i's first j places of a product by hand. -/
def pz (b x y : Int) (i j : Nat) : Int := (x % b ^ i) * y + dg b x i * b ^ i * (y % b ^ j)
def po (b x y : Int) (i : Nat) : Int := (x % b ^ i) * y
def pc (b x y : Int) (i j : Nat) : Int := pz b x y i j / b ^ (i + j) - po b x y i / b ^ (i + j)
theorem pz_zero (b x y : Int) (i : Nat) : pz b x y i 0 = po b x y i := by simp [pz, po, Int.emod_one]
theorem pz_succ {b : Int} (hb : 0 < b) (x y : Int) (i j : Nat) : pz b x y i (j + 1) = pz b x y i j + dg b x i * dg b y j * b ^ (i + j) := by
  unfold pz
  rw [mod_succ hb, Int.pow_add]; grind
theorem pz_top {b : Int} (hb : 0 < b) (x y : Int) (i n : Nat) (h0 : 0 ≤ y) (h1 : y < b ^ n) : pz b x y i n = po b x y (i + 1) := by
  unfold pz po
  rw [in_range h0 h1, mod_succ hb]; grind
theorem pc_zero (b x y : Int) (i : Nat) : pc b x y i 0 = 0 := by unfold pc; rw [pz_zero]; omega
theorem pz_div {b : Int} (hb : 0 < b) (x y : Int) (i j : Nat) : pz b x y i (j + 1) / b ^ (i + j) = dg b x i * dg b y j + dg b (po b x y i) (i + j) + pc b x y i j + b * (po b x y i / b ^ (i + j) / b) := by
  rw [pz_succ hb, Int.add_mul_ediv_right _ _ (by have := pw_pos hb (i + j); omega)]
  have := Int.mul_ediv_add_emod (po b x y i / b ^ (i + j)) b
  unfold pc dg at *
  omega
/-- The place that a step lays. -/
theorem dg_pz {b : Int} (hb : 0 < b) (x y : Int) (i j : Nat) : dg b (pz b x y i (j + 1)) (i + j) = (dg b x i * dg b y j + dg b (po b x y i) (i + j) + pc b x y i j) % b := by
  show pz b x y i (j + 1) / b ^ (i + j) % b = _
  rw [pz_div hb, Int.add_mul_emod_self_left]
theorem pc_succ {b : Int} (hb : 0 < b) (x y : Int) (i j : Nat) : pc b x y i (j + 1) = (dg b x i * dg b y j + dg b (po b x y i) (i + j) + pc b x y i j) / b := by
  show pz b x y i (j + 1) / b ^ (i + j + 1) - po b x y i / b ^ (i + j + 1) = _
  rw [div_succ hb, div_succ hb, pz_div hb, Int.add_mul_ediv_left _ _ (by omega)]
  omega
theorem pz_low {b : Int} (hb : 0 < b) (x y : Int) (i j : Nat) {k : Nat} (h : k < i + j) : dg b (pz b x y i (j + 1)) k = dg b (pz b x y i j) k := by
  rw [pz_succ hb, dg_low hb _ _ h]
theorem sq_bound {b u v t c : Int} (hb : 0 < b) (hu0 : 0 ≤ u) (hu : u < b) (hv0 : 0 ≤ v) (hv : v < b) (ht0 : 0 ≤ t) (ht : t < b) (hc0 : 0 ≤ c) (hc : c < b) : 0 ≤ u * v + t + c ∧ u * v + t + c < b * b := by
  have h1 : 0 ≤ u * v := Int.mul_nonneg hu0 hv0
  have h2 : u * v ≤ (b - 1) * (b - 1) := Int.mul_le_mul (by omega) (by omega) hv0 (by omega)
  have h3 : (b - 1) * (b - 1) = b * b - 2 * b + 1 := by grind
  omega
theorem pc_bd {b : Int} (hb : 0 < b) (x y : Int) (i : Nat) : ∀ j, 0 ≤ pc b x y i j ∧ pc b x y i j < b
  | 0 => by rw [pc_zero]; omega
  | j + 1 => by
    rw [pc_succ hb]
    obtain ⟨h1, h2⟩ := pc_bd hb x y i j
    have h3 := sq_bound hb (dg_lo hb x i) (dg_hi hb x i) (dg_lo hb y j) (dg_hi hb y j) (dg_lo hb (po b x y i) (i + j)) (dg_hi hb (po b x y i) (i + j)) h1 h2
    exact ⟨Int.ediv_nonneg h3.1 (by omega), Int.ediv_lt_of_lt_mul hb h3.2⟩
/-- Behind a whole row the place above it is what is carried. -/
theorem pc_top {b : Int} (hb : 0 < b) (x y : Int) (i n : Nat) (h0 : 0 ≤ y) (h1 : y < b ^ n) : dg b (po b x y (i + 1)) (i + n) = pc b x y i n := by
  have e : po b x y i / b ^ (i + n) = 0 := by
    have hi := pw_pos hb i
    have hn := pw_pos hb n
    unfold po
    apply Int.ediv_eq_zero_of_lt (Int.mul_nonneg (Int.emod_nonneg _ (by omega)) h0)
    rw [Int.pow_add]
    have h2 : x % b ^ i < b ^ i := Int.emod_lt_of_pos _ hi
    have h3 : (x % b ^ i) * y ≤ (b ^ i - 1) * (b ^ n - 1) := Int.mul_le_mul (by omega) (by omega) h0 (by omega)
    have h4 : (b ^ i - 1) * (b ^ n - 1) = b ^ i * b ^ n - b ^ i - b ^ n + 1 := by grind
    omega
  have h2 := pc_bd hb x y i n
  have h3 : pc b x y i n = pz b x y i n / b ^ (i + n) := by unfold pc; omega
  rw [← pz_top hb x y i n h0 h1]
  show pz b x y i n / b ^ (i + n) % b = _
  rw [← h3, Int.emod_eq_of_lt h2.1 h2.2]
theorem po_zero (b x y : Int) : po b x y 0 = 0 := by simp [po, Int.emod_one]
theorem po_top {b : Int} {x y : Int} {n : Nat} (h0 : 0 ≤ x) (h1 : x < b ^ n) : po b x y n = x * y := by unfold po; rw [in_range h0 h1]
end Go.Lm
