/- Fractions: sizes without sign, products and quotients in order. No text of the program. The exponential's sums: over any ring with sizes the product of two is near to the sum of both. No text of the program. Numbers that are near by a part of themselves; the program's sum for an exponential is near to the true one. No text of the program. -/
import Derived.Test.YtcfkhhnkboealaaRows
namespace Go.Proofs.Ytcfkhhnkboealaa
set_option linter.unusedVariables false
def ab (x : Rat) : Rat := if x < 0 then -x else x
theorem ab_nn (x : Rat) : 0 ≤ ab x := by unfold ab; grind
theorem ab_le {x e : Rat} : ab x ≤ e ↔ -e ≤ x ∧ x ≤ e := by unfold ab; grind
theorem ab_of (x : Rat) : -(ab x) ≤ x ∧ x ≤ ab x := by unfold ab; grind
theorem ab_pos {x : Rat} (h : 0 ≤ x) : ab x = x := by unfold ab; grind
theorem ab_neg (x : Rat) : ab (-x) = ab x := by unfold ab; grind
theorem ab_add (x y : Rat) : ab (x + y) ≤ ab x + ab y := by unfold ab; grind
theorem ab_sub (x y : Rat) : ab (x - y) ≤ ab x + ab y := by unfold ab; grind
theorem ab_comm (x y : Rat) : ab (x - y) = ab (y - x) := by unfold ab; grind
theorem ab_tri (x y z : Rat) : ab (x - z) ≤ ab (x - y) + ab (y - z) := by unfold ab; grind
theorem mul_nn {x y : Rat} (hx : 0 ≤ x) (hy : 0 ≤ y) : 0 ≤ x * y := Rat.mul_nonneg hx hy
theorem ab_mul (x y : Rat) : ab (x * y) = ab x * ab y := by
  rcases Rat.le_total (a := 0) (b := x) with h | h <;> rcases Rat.le_total (a := 0) (b := y) with k | k
  · rw [ab_pos h, ab_pos k, ab_pos (mul_nn h k)]
  · have := mul_nn h (y := -y) (by grind)
    have e : ab y = -y := by unfold ab; grind
    rw [ab_pos h, e, ← ab_neg, ab_pos (by grind)]; grind
  · have := mul_nn (x := -x) (by grind) k
    have e : ab x = -x := by unfold ab; grind
    rw [ab_pos k, e, ← ab_neg, ab_pos (by grind)]; grind
  · have := mul_nn (x := -x) (y := -y) (by grind) (by grind)
    have e : ab y = -y := by unfold ab; grind
    have e2 : ab x = -x := by unfold ab; grind
    rw [e, e2, ab_pos (by grind)]; grind
theorem mul_mono {a b c d : Rat} (ha : 0 ≤ a) (h : a ≤ b) (hc : 0 ≤ c) (k : c ≤ d) : a * c ≤ b * d := by
  have h1 := Rat.mul_le_mul_of_nonneg_right h hc
  have h2 := Rat.mul_le_mul_of_nonneg_left k (Rat.le_trans ha h)
  exact Rat.le_trans h1 h2
theorem le_div {a b c : Rat} (hc : 0 < c) : a ≤ b / c ↔ a * c ≤ b := by
  have e : b / c * c = b := by have : c ≠ 0 := by grind
                               grind
  constructor
  · intro h; have := Rat.mul_le_mul_of_nonneg_right h (Rat.le_of_lt hc); grind
  · intro h
    rw [← e] at h
    exact Rat.le_of_mul_le_mul_right h hc
theorem div_le {a b c : Rat} (hc : 0 < c) : b / c ≤ a ↔ b ≤ a * c := by
  have e : b / c * c = b := by have : c ≠ 0 := by grind
                               grind
  constructor
  · intro h; have := Rat.mul_le_mul_of_nonneg_right h (Rat.le_of_lt hc); grind
  · intro h
    rw [← e] at h
    exact Rat.le_of_mul_le_mul_right h hc
theorem ab_div (x y : Rat) : ab (x / y) = ab x / ab y := by
  by_cases h : y = 0
  · subst h; 
    have : ab 0 = 0 := by decide +kernel
    rw [this]; grind
  · have h2 : ab y ≠ 0 := by unfold ab; grind
    have := ab_mul (x / y) y
    have e : x / y * y = x := by grind
    rw [e] at this
    rw [this]; grind
theorem cast_le {a b : Nat} : ((a : Rat) ≤ (b : Rat)) ↔ a ≤ b := by exact_mod_cast Iff.rfl
theorem cast_mul (a b : Nat) : ((a * b : Nat) : Rat) = (a : Rat) * (b : Rat) := by grind
theorem cast_pow (a b : Nat) : ((a ^ b : Nat) : Rat) = (a : Rat) ^ b := by grind
theorem cast_le' {a b : Int} : ((a : Rat) ≤ (b : Rat)) ↔ a ≤ b := by exact_mod_cast Iff.rfl
theorem cast_nn (a : Nat) : (0 : Rat) ≤ (a : Rat) := by grind
end Go.Proofs.Ytcfkhhnkboealaa
namespace Go.Proofs.Ytcfkhhnkboealaa
set_option linter.unusedVariables false
theorem Rat.le_of_eq' {a b : Rat} (h : a = b) : a ≤ b := by rw [h]; exact Rat.le_refl
/-- sums of n terms. -/
def sm (f : Nat → Rat) : Nat → Rat
  | 0 => 0
  | n + 1 => sm f n + f n
/-- whole numbers in a ring, and turned over. -/
def nc : Nat → Rat
  | 0 => 0
  | n + 1 => nc n + 1
theorem nc_add (a b : Nat) : (nc (a + b) : Rat) = nc a + nc b := by
  induction b with
  | zero => simp [nc]; grind
  | succ b ih => rw [show a + (b + 1) = a + b + 1 by omega]; simp only [nc]; rw [ih]; grind
theorem nc_eq : ∀ m : Nat, nc m = (m : Rat)
  | 0 => rfl
  | m + 1 => by simp only [nc]; rw [nc_eq m]; grind
namespace Turns
def iv (n : Nat) : Rat := 1 / (n : Rat)
theorem eq (n : Nat) : nc (n + 1) * iv (n + 1) = 1 := by
  rw [nc_eq]
  unfold iv
  have : (((n + 1 : Nat)) : Rat) ≠ 0 := by
    have := cast_nn n
    have e : ((n + 1 : Nat) : Rat) = (n : Rat) + 1 := by grind
    rw [e]; grind
  grind
end Turns
open Turns
/-- a power by its factorial. -/
def ee (x : Rat) : Nat → Rat
  | 0 => 1
  | k + 1 => ee x k * x * iv (k + 1)
/-- the exponential's sum, up to the power n. -/
def TT (x : Rat) (n : Nat) : Rat := sm (ee x) (n + 1)
theorem sm_congr {f g : Nat → Rat} {n : Nat} (h : ∀ i, i < n → f i = g i) : sm f n = sm g n := by
  induction n with
  | zero => rfl
  | succ n ih => unfold sm; rw [ih (fun i hi => h i (by omega)), h n (by omega)]
theorem sm_add (f g : Nat → Rat) (n : Nat) : sm (fun i => f i + g i) n = sm f n + sm g n := by
  induction n with
  | zero => unfold sm; grind
  | succ n ih => unfold sm; rw [ih]; grind
theorem sm_mul (a : Rat) (f : Nat → Rat) (n : Nat) : sm (fun i => a * f i) n = a * sm f n := by
  induction n with
  | zero => unfold sm; grind
  | succ n ih => unfold sm; rw [ih]; grind
theorem sm_head (f : Nat → Rat) (n : Nat) : sm f (n + 1) = f 0 + sm (fun i => f (i + 1)) n := by
  induction n with
  | zero => simp [sm]; grind
  | succ n ih => rw [show sm f (n + 1 + 1) = sm f (n + 1) + f (n + 1) from rfl, ih]; simp only [sm]; grind
theorem ee_step (x : Rat) (k : Nat) : (nc (k + 1) : Rat) * ee x (k + 1) = ee x k * x := by
  have h := Turns.eq k
  show (nc (k + 1) : Rat) * (ee x k * x * iv (k + 1)) = _
  grind
/-- THE BINOMIAL LAW. -/
theorem ee_add (x y : Rat) : ∀ k : Nat, sm (fun i => ee x i * ee y (k - i)) (k + 1) = ee (x + y) k
  | 0 => by simp [sm, ee]; grind
  | k + 1 => by
    have ih := ee_add x y k
    -- (k+1) times both sides
    have key : (nc (k + 1) : Rat) * sm (fun i => ee x i * ee y (k + 1 - i)) (k + 1 + 1) = (x + y) * sm (fun i => ee x i * ee y (k - i)) (k + 1) := by
      -- split (k+1) = i + (k+1-i)
      have e1 : (nc (k + 1) : Rat) * sm (fun i => ee x i * ee y (k + 1 - i)) (k + 1 + 1) = sm (fun i => (nc i : Rat) * ee x i * ee y (k + 1 - i)) (k + 1 + 1) + sm (fun i => ee x i * ((nc (k + 1 - i) : Rat) * ee y (k + 1 - i))) (k + 1 + 1) := by
        rw [← sm_mul, ← sm_add]
        refine sm_congr fun i hi => ?_
        have : k + 1 = i + (k + 1 - i) := by omega
        have e : (nc (k + 1) : Rat) = (nc i : Rat) + (nc (k + 1 - i) : Rat) := by rw [← nc_add, ← this]
        rw [e]; grind
      have e2 : sm (fun i => (nc i : Rat) * ee x i * ee y (k + 1 - i)) (k + 1 + 1) = x * sm (fun i => ee x i * ee y (k - i)) (k + 1) := by
        rw [sm_head, ← sm_mul]
        have e0 : ((nc 0 : Rat) * ee x 0 * ee y (k + 1 - 0)) = 0 := by simp only [nc]; grind
        rw [e0]
        have : sm (fun i => (nc (i + 1) : Rat) * ee x (i + 1) * ee y (k + 1 - (i + 1))) (k + 1) = sm (fun i => x * (ee x i * ee y (k - i))) (k + 1) := by
          refine sm_congr fun i hi => ?_
          have h := ee_step x i
          rw [show k + 1 - (i + 1) = k - i by omega]
          grind
        rw [this]; grind
      have e3 : sm (fun i => ee x i * ((nc (k + 1 - i) : Rat) * ee y (k + 1 - i))) (k + 1 + 1) = y * sm (fun i => ee x i * ee y (k - i)) (k + 1) := by
        rw [show sm (fun i => ee x i * ((nc (k + 1 - i) : Rat) * ee y (k + 1 - i))) (k + 1 + 1) = sm (fun i => ee x i * ((nc (k + 1 - i) : Rat) * ee y (k + 1 - i))) (k + 1) + ee x (k + 1) * ((nc (k + 1 - (k + 1)) : Rat) * ee y (k + 1 - (k + 1))) from rfl, ← sm_mul]
        have e0 : ee x (k + 1) * ((nc (k + 1 - (k + 1)) : Rat) * ee y (k + 1 - (k + 1))) = 0 := by rw [Nat.sub_self]; simp only [nc]; grind
        rw [e0]
        have : sm (fun i => ee x i * ((nc (k + 1 - i) : Rat) * ee y (k + 1 - i))) (k + 1) = sm (fun i => y * (ee x i * ee y (k - i))) (k + 1) := by
          refine sm_congr fun i hi => ?_
          have h := ee_step y (k - i)
          rw [show k + 1 - i = k - i + 1 by omega]
          grind
        rw [this]; grind
      rw [e1, e2, e3]; grind
    rw [ih] at key
    have h1 := ee_step (x + y) k
    have h2 := Turns.eq k
    have h3 : (nc (k + 1) : Rat) * sm (fun i => ee x i * ee y (k + 1 - i)) (k + 1 + 1) = (nc (k + 1) : Rat) * ee (x + y) (k + 1) := by rw [key, h1]; grind
    have h4 : iv (k + 1) * ((nc (k + 1) : Rat) * sm (fun i => ee x i * ee y (k + 1 - i)) (k + 1 + 1)) = iv (k + 1) * ((nc (k + 1) : Rat) * ee (x + y) (k + 1)) := by rw [h3]
    generalize sm (fun i => ee x i * ee y (k + 1 - i)) (k + 1 + 1) = A at *
    generalize ee (x + y) (k + 1) = B at *
    generalize (nc (k + 1) : Rat) = c at *
    grind
/-- the exponential's sum of a sum. -/
theorem TT_add (x y : Rat) (n : Nat) : TT (x + y) n = sm (fun i => ee x i * TT y (n - i)) (n + 1) := by
  induction n with
  | zero => simp [TT, sm, ee]; grind
  | succ n ih =>
    have e1 : TT (x + y) (n + 1) = TT (x + y) n + ee (x + y) (n + 1) := rfl
    rw [e1, ih, ← ee_add]
    rw [show sm (fun i => ee x i * TT y (n + 1 - i)) (n + 1 + 1) = sm (fun i => ee x i * TT y (n + 1 - i)) (n + 1) + ee x (n + 1) * TT y (n + 1 - (n + 1)) from rfl]
    rw [show sm (fun i => ee x i * ee y (n + 1 - i)) (n + 1 + 1) = sm (fun i => ee x i * ee y (n + 1 - i)) (n + 1) + ee x (n + 1) * ee y (n + 1 - (n + 1)) from rfl]
    have e2 : sm (fun i => ee x i * TT y (n + 1 - i)) (n + 1) = sm (fun i => ee x i * TT y (n - i)) (n + 1) + sm (fun i => ee x i * ee y (n + 1 - i)) (n + 1) := by
      rw [← sm_add]
      refine sm_congr fun i hi => ?_
      rw [show n + 1 - i = n - i + 1 by omega]
      have : TT y (n - i + 1) = TT y (n - i) + ee y (n - i + 1) := rfl
      rw [this]; grind
    rw [e2, Nat.sub_self]
    have : TT y 0 = 1 := by simp [TT, sm, ee]; grind
    have e3 : ee y 0 = 1 := rfl
    rw [this, e3]; grind
theorem nQ_pos (n : Nat) : (0 : Rat) < ((n + 1 : Nat) : Rat) := by
  have := cast_nn n
  have e : ((n + 1 : Nat) : Rat) = (n : Rat) + 1 := by grind
  rw [e]; grind
theorem inv_nn (n : Nat) : (0 : Rat) ≤ 1 / ((n + 1 : Nat) : Rat) := (le_div (nQ_pos n)).2 (by grind)
/- sizes. -/
namespace Sizes
def nr : Rat → Rat := ab
theorem nn (a : Rat) : 0 ≤ nr a := ab_nn a
theorem add (a b : Rat) : nr (a + b) ≤ nr a + nr b := ab_add a b
theorem mul (a b : Rat) : nr (a * b) ≤ nr a * nr b := Rat.le_of_eq' (ab_mul a b)
theorem neg (a : Rat) : nr (-a) = nr a := ab_neg a
theorem zero : nr 0 = 0 := by decide +kernel
theorem one : nr 1 = 1 := by decide +kernel
theorem iv (n : Nat) : nr (Turns.iv (n + 1)) ≤ 1 / ((n + 1 : Nat) : Rat) := by
  show ab (1 / ((n + 1 : Nat) : Rat)) ≤ _
  rw [ab_pos (inv_nn n)]
  exact Rat.le_refl
end Sizes
open Sizes
theorem ee_rat (t : Rat) (k : Nat) : ee t (k + 1) = ee t k * t / ((k + 1 : Nat) : Rat) := by
  show ee t k * t * (1 / ((k + 1 : Nat) : Rat)) = _
  grind
theorem ee_nn {t : Rat} (h : 0 ≤ t) : ∀ k, 0 ≤ ee t k
  | 0 => by show (0 : Rat) ≤ 1; decide +kernel
  | k + 1 => by
    have := mul_nn (mul_nn (ee_nn h k) h) (inv_nn k)
    exact this
theorem ee_mono {s t : Rat} (h0 : 0 ≤ s) (h : s ≤ t) : ∀ k, ee s k ≤ ee t k
  | 0 => Rat.le_refl
  | k + 1 => by
    have h1 := ee_mono h0 h k
    have h2 := mul_mono (ee_nn h0 k) h1 h0 h
    exact Rat.mul_le_mul_of_nonneg_right h2 (inv_nn k)
theorem nr_ee (x : Rat) : ∀ k, nr (ee x k) ≤ ee (nr x) k
  | 0 => by show nr (1 : Rat) ≤ 1; rw [Sizes.one]; exact Rat.le_refl
  | k + 1 => by
    have h1 := nr_ee x k
    have h2 := Sizes.mul (ee x k * x) (iv (k + 1))
    have h3 := Sizes.mul (ee x k) x
    have h4 := Sizes.iv k
    have h5 : nr (ee x k) * nr x ≤ ee (nr x) k * nr x := Rat.mul_le_mul_of_nonneg_right h1 (Sizes.nn x)
    have h6 := mul_mono (Sizes.nn (ee x k * x)) (Rat.le_trans h3 h5) (Sizes.nn (iv (k + 1))) h4
    exact Rat.le_trans h2 h6
theorem nr_sm (f : Nat → Rat) (g : Nat → Rat) (n : Nat) (h : ∀ i, i < n → nr (f i) ≤ g i) : nr (sm f n) ≤ sm g n := by
  induction n with
  | zero => show nr (0 : Rat) ≤ 0; rw [Sizes.zero]; exact Rat.le_refl
  | succ n ih =>
    have h1 := ih (fun i hi => h i (by omega))
    have h2 := h n (by omega)
    have h3 := Sizes.add (sm f n) (f n)
    show nr (sm f n + f n) ≤ sm g n + g n
    grind
theorem nr_TT_sub (y : Rat) (m : Nat) : ∀ k, nr (TT y (m + k) - TT y m) ≤ TT (nr y) (m + k) - TT (nr y) m
  | 0 => by
    have e : TT y (m + 0) - TT y m = 0 := by rw [Nat.add_zero]; grind
    have e2 : TT (nr y) (m + 0) - TT (nr y) m = 0 := by rw [Nat.add_zero]; grind
    rw [e, e2, Sizes.zero]; exact Rat.le_refl
  | k + 1 => by
    have h1 := nr_TT_sub y m k
    have h2 := nr_ee y (m + k + 1)
    have e : TT y (m + (k + 1)) - TT y m = (TT y (m + k) - TT y m) + ee y (m + k + 1) := by
      have : TT y (m + (k + 1)) = TT y (m + k) + ee y (m + k + 1) := rfl
      rw [this]; grind
    have e2 : TT (nr y) (m + (k + 1)) = TT (nr y) (m + k) + ee (nr y) (m + k + 1) := rfl
    have h3 := Sizes.add (TT y (m + k) - TT y m) (ee y (m + k + 1))
    rw [e, e2]; grind
theorem TT_zero (y : Rat) : TT y 0 = 1 := by simp [TT, sm, ee]; grind
theorem nr_TT (y : Rat) (n : Nat) : nr (TT y n) ≤ TT (nr y) n := by
  have h := nr_TT_sub y 0 n
  rw [Nat.zero_add, TT_zero, TT_zero] at h
  have h2 := Sizes.add (TT y n - 1) 1
  rw [show TT y n - 1 + 1 = TT y n by grind, Sizes.one] at h2
  grind
/-- how far the sum of a sum is from the product of sums. -/
theorem TT_diff (x y : Rat) (n : Nat) : TT x n * TT y n - TT (x + y) n = sm (fun i => ee x i * (TT y n - TT y (n - i))) (n + 1) := by
  have h1 := TT_add x y n
  have h2 : TT x n * TT y n = sm (fun i => ee x i * TT y n) (n + 1) := by
    have : sm (fun i => ee x i * TT y n) (n + 1) = sm (fun i => TT y n * ee x i) (n + 1) := sm_congr fun i _ => by grind
    rw [this, sm_mul]
    unfold TT; grind
  have h3 : sm (fun i => ee x i * TT y n) (n + 1) = sm (fun i => ee x i * (TT y n - TT y (n - i))) (n + 1) + sm (fun i => ee x i * TT y (n - i)) (n + 1) := by
    rw [← sm_add]; exact sm_congr fun i _ => by grind
  rw [h2, h1, h3]; grind
theorem TT_mono {t : Rat} (h : 0 ≤ t) {m n : Nat} (hm : m ≤ n) : TT t m ≤ TT t n := by
  obtain ⟨k, rfl⟩ := Nat.exists_eq_add_of_le hm
  induction k with
  | zero => exact Rat.le_refl
  | succ k ih =>
    have := ih (by omega)
    have e : TT t (m + (k + 1)) = TT t (m + k) + ee t (m + k + 1) := rfl
    have := ee_nn h (m + k + 1)
    grind
theorem sm_le {f g : Nat → Rat} {n : Nat} (h : ∀ i, i < n → f i ≤ g i) : sm f n ≤ sm g n := by
  induction n with
  | zero => exact Rat.le_refl
  | succ n ih =>
    have h1 := ih (fun i hi => h i (by omega))
    have h2 := h n (by omega)
    show sm f n + f n ≤ sm g n + g n
    grind
theorem sm_more {f : Nat → Rat} {m k : Nat} (h : ∀ i, 0 ≤ f i) : sm f m ≤ sm f (m + k) := by
  induction k with
  | zero => exact Rat.le_refl
  | succ k ih =>
    have := h (m + k)
    have e : sm f (m + (k + 1)) = sm f (m + k) + f (m + k) := rfl
    grind
theorem TT_prod_le {a b : Rat} (ha : 0 ≤ a) (hb : 0 ≤ b) (n : Nat) : TT a n * TT b n ≤ TT (a + b) (n + n) := by
  rw [TT_add]
  have h1 : TT a n * TT b n = sm (fun i => ee a i * TT b n) (n + 1) := by
    have : sm (fun i => ee a i * TT b n) (n + 1) = sm (fun i => TT b n * ee a i) (n + 1) := sm_congr fun i _ => by grind
    rw [this, sm_mul]
    unfold TT; grind
  have h2 : sm (fun i => ee a i * TT b n) (n + 1) ≤ sm (fun i => ee a i * TT b (n + n - i)) (n + 1) :=
    sm_le fun i hi => Rat.mul_le_mul_of_nonneg_left (TT_mono hb (by omega)) (ee_nn ha i)
  have h3 : sm (fun i => ee a i * TT b (n + n - i)) (n + 1) ≤ sm (fun i => ee a i * TT b (n + n - i)) (n + 1 + n) :=
    sm_more fun i => mul_nn (ee_nn ha i) (Rat.le_trans (by rw [← TT_zero b]; exact TT_mono hb (Nat.zero_le _) : (1 : Rat) ≤ _) Rat.le_refl |> fun h => Rat.le_trans (by decide +kernel : (0 : Rat) ≤ 1) h)
  rw [show n + n + 1 = n + 1 + n by omega]
  grind
/-- the rest of the exponential's sum. -/
theorem tail_le {t : Rat} (h0 : 0 ≤ t) {n : Nat} (h : 2 * t ≤ ((n + 2 : Nat) : Rat)) (m : Nat) : TT t (n + m) - TT t n + 2 * ee t (n + m + 1) ≤ 2 * ee t (n + 1) := by
  induction m with
  | zero => rw [Nat.add_zero]; grind
  | succ m ih =>
    have e : TT t (n + (m + 1)) = TT t (n + m) + ee t (n + m + 1) := rfl
    have hk : 2 * ee t (n + (m + 1) + 1) ≤ ee t (n + m + 1) := by
      rw [show n + (m + 1) + 1 = n + m + 1 + 1 by omega, ee_rat]
      have h1 := ee_nn h0 (n + m + 1)
      have h2 : ((n + 2 : Nat) : Rat) ≤ ((n + m + 1 + 1 : Nat) : Rat) := cast_le.2 (by omega)
      have h3 : ee t (n + m + 1) * t / ((n + m + 1 + 1 : Nat) : Rat) ≤ ee t (n + m + 1) / 2 := by
        rw [div_le (nQ_pos _)]
        have := Rat.mul_le_mul_of_nonneg_left (Rat.le_trans h h2) h1
        grind
      grind
    rw [e]; grind
theorem tail_le' {t : Rat} (h0 : 0 ≤ t) {n : Nat} (h : 2 * t ≤ ((n + 2 : Nat) : Rat)) (m : Nat) : TT t (n + m) - TT t n ≤ 2 * ee t (n + 1) := by
  have h1 := tail_le h0 h m
  have h2 := ee_nn h0 (n + m + 1)
  grind
/-- THE PRODUCT OF TWO SUMS is near to the sum of both. -/
theorem TT_near (x y : Rat) {a b : Rat} (ha : nr x ≤ a) (hb : nr y ≤ b) {n : Nat} (h : 2 * (a + b) ≤ ((n + 2 : Nat) : Rat)) :
    nr (TT x n * TT y n - TT (x + y) n) ≤ 2 * ee (a + b) (n + 1) := by
  have a0 := Sizes.nn x
  have b0 := Sizes.nn y
  have h1 : nr (TT x n * TT y n - TT (x + y) n) ≤ sm (fun i => ee (nr x) i * (TT (nr y) n - TT (nr y) (n - i))) (n + 1) := by
    rw [TT_diff]
    refine nr_sm _ _ _ fun i hi => ?_
    have k1 := Sizes.mul (ee x i) (TT y n - TT y (n - i))
    have k2 := nr_TT_sub y (n - i) i
    rw [show n - i + i = n by omega] at k2
    exact Rat.le_trans k1 (mul_mono (Sizes.nn _) (nr_ee x i) (Sizes.nn _) k2)
  rw [← TT_diff] at h1
  have h2 := TT_prod_le a0 b0 n
  have hs0 : 0 ≤ nr x + nr y := by grind
  have hs : nr x + nr y ≤ a + b := by grind
  have h3 := tail_le' hs0 (n := n) (by grind) n
  have h4 := ee_mono hs0 hs (n + 1)
  grind
end Go.Proofs.Ytcfkhhnkboealaa
namespace Go.Proofs.Ytcfkhhnkboealaa
set_option linter.unusedVariables false
open Turns Sizes
theorem div_self {x y : Rat} (h : y ≠ 0) : x / y * y = x := by grind
/-- near by a part of itself. -/
def Rl (x y d : Rat) : Prop := ab (x - y) ≤ d * y ∧ 0 < y
theorem rl_mul {x y x' y' d e : Rat} (h : Rl x y d) (k : Rl x' y' e) (hd : 0 ≤ d) (he : 0 ≤ e) : Rl (x * x') (y * y') (d + e + d * e) := by
  obtain ⟨h1, h2⟩ := h
  obtain ⟨k1, k2⟩ := k
  refine ⟨?_, Rat.mul_pos h2 k2⟩
  have e1 : x * x' - y * y' = (x - y) * (x' - y') + (x - y) * y' + y * (x' - y') := by grind
  have a1 : ab ((x - y) * (x' - y')) ≤ d * y * (e * y') := by rw [ab_mul]; exact mul_mono (ab_nn _) h1 (ab_nn _) k1
  have a2 : ab ((x - y) * y') ≤ d * y * y' := by rw [ab_mul, ab_pos (Rat.le_of_lt k2)]; exact Rat.mul_le_mul_of_nonneg_right h1 (Rat.le_of_lt k2)
  have a3 : ab (y * (x' - y')) ≤ y * (e * y') := by rw [ab_mul, ab_pos (Rat.le_of_lt h2)]; exact Rat.mul_le_mul_of_nonneg_left k1 (Rat.le_of_lt h2)
  have b1 := ab_add ((x - y) * (x' - y') + (x - y) * y') (y * (x' - y'))
  have b2 := ab_add ((x - y) * (x' - y')) ((x - y) * y')
  rw [e1]
  have e2 : (d + e + d * e) * (y * y') = d * y * (e * y') + d * y * y' + y * (e * y') := by grind
  rw [e2]
  grind
theorem rl_trans {x y z d e : Rat} (h : Rl x y d) (k : Rl y z e) (hd : 0 ≤ d) : Rl x z (d + e + d * e) := by
  obtain ⟨h1, h2⟩ := h
  obtain ⟨k1, k2⟩ := k
  refine ⟨?_, k2⟩
  have b := ab_tri x y z
  have c : y ≤ z + e * z := by rw [ab_le] at k1; grind
  have c2 := Rat.mul_le_mul_of_nonneg_left c hd
  have e1 : (d + e + d * e) * z = d * (z + e * z) + e * z := by grind
  rw [e1]; grind
theorem rl_mono {x y d e : Rat} (h : Rl x y d) (hde : d ≤ e) : Rl x y e := by
  refine ⟨?_, h.2⟩
  have := Rat.mul_le_mul_of_nonneg_right hde (Rat.le_of_lt h.2)
  exact Rat.le_trans h.1 this
theorem rl_symm {x y d : Rat} (h : Rl x y d) (hd : d ≤ 1 / 2) : Rl y x (2 * d) := by
  obtain ⟨h1, h2⟩ := h
  have h3 := ab_nn (x - y)
  have hx : y ≤ 2 * x := by
    have := Rat.mul_le_mul_of_nonneg_right hd (Rat.le_of_lt h2)
    rw [ab_le] at h1; grind
  have hd0 : 0 ≤ d := by
    rcases Rat.le_total (a := 0) (b := d) with k | k
    · exact k
    · have := Rat.mul_le_mul_of_nonneg_right k (Rat.le_of_lt h2)
      by_cases e : d = 0
      · rw [e]; exact Rat.le_refl
      · have h5 : 0 < -d := by grind
        have := Rat.mul_pos h5 h2
        grind
  refine ⟨?_, by grind⟩
  rw [ab_comm]
  have := Rat.mul_le_mul_of_nonneg_left hx hd0
  grind
theorem rl_refl {x : Rat} (h : 0 < x) : Rl x x 0 := by
  refine ⟨?_, h⟩
  rw [show x - x = 0 by grind, Rat.zero_mul]; decide +kernel
/-- squared so many times. -/
def sqr : Nat → Rat → Rat
  | 0, x => x
  | k + 1, x => sqr k x * sqr k x
theorem sqr_pos {x : Rat} (h : 0 < x) : ∀ k, 0 < sqr k x
  | 0 => h
  | k + 1 => Rat.mul_pos (sqr_pos h k) (sqr_pos h k)
theorem sqr_mul (x y : Rat) : ∀ k, sqr k (x * y) = sqr k x * sqr k y
  | 0 => rfl
  | k + 1 => by simp only [sqr]; rw [sqr_mul x y k]; grind
theorem pow3_pos (k : Nat) : (1 : Rat) ≤ ((3 ^ k : Nat) : Rat) := by
  have := cast_le.2 (show 1 ≤ 3 ^ k from Nat.pow_pos (by decide))
  exact this
theorem pow3_succ (k : Nat) : ((3 ^ (k + 1) : Nat) : Rat) = 3 * ((3 ^ k : Nat) : Rat) := by
  rw [Nat.pow_succ, cast_mul]
  have e : ((3 : Nat) : Rat) = 3 := rfl
  rw [e]; grind
/-- near ones squared k times. -/
theorem rl_sqr {x y d : Rat} (h : Rl x y d) (hd : 0 ≤ d) : ∀ k, ((3 ^ k : Nat) : Rat) * d ≤ 1 → Rl (sqr k x) (sqr k y) (((3 ^ k : Nat) : Rat) * d)
  | 0, _ => by
    have e : ((3 ^ 0 : Nat) : Rat) = 1 := by decide +kernel
    rw [e, Rat.one_mul]; exact h
  | k + 1, hk => by
    rw [pow3_succ] at hk ⊢
    have h0 : 0 ≤ ((3 ^ k : Nat) : Rat) * d := mul_nn (cast_nn _) hd
    have ih := rl_sqr h hd k (by grind)
    have m := rl_mul ih ih h0 h0
    refine rl_mono m ?_
    have h3 : ((3 ^ k : Nat) : Rat) * d ≤ 1 := by grind
    have := Rat.mul_le_mul_of_nonneg_right h3 h0
    grind
/-- one step of squaring with rounding. -/
theorem rl_step {s s' y d u : Rat} (h : Rl s y d) (hu : ab (s' - s * s) ≤ u * ab (s * s)) (hu0 : 0 ≤ u) (hd : 10 * u ≤ d) (hd1 : d ≤ 1 / 100) : Rl s' (y * y) (3 * d) := by
  have hd0 : 0 ≤ d := by grind
  have m := rl_mul h h hd0 hd0
  have hs : 0 < s := by
    have := Rat.mul_le_mul_of_nonneg_right hd1 (Rat.le_of_lt h.2)
    have h1 := h.1
    rw [ab_le] at h1; have := h.2; grind
  have hss : 0 < s * s := Rat.mul_pos hs hs
  rw [ab_pos (Rat.le_of_lt hss)] at hu
  have r1 : Rl s' (s * s) u := ⟨hu, hss⟩
  have r2 := rl_trans r1 m hu0
  refine rl_mono r2 ?_
  have a := Rat.mul_le_mul_of_nonneg_right hd1 hd0
  have b := Rat.mul_le_mul_of_nonneg_left (show d + d + d * d ≤ 1 by grind) hu0
  grind
def TermInv (u y : Rat) (k : Nat) (t : Rat) : Prop := ab (t - ee y k) ≤ 5 * (k : Rat) * u * ab (ee y k)
def SumInv (u y : Rat) (k : Nat) (s : Rat) : Prop := ab (s - TT y k) ≤ 2 * (k : Rat) * u
theorem natQ_succ (k : Nat) : ((k + 1 : Nat) : Rat) = (k : Rat) + 1 := by grind
theorem near_mul {t e y t1 d u : Rat} (h : ab (t - e) ≤ d * ab e) (h1 : ab (t1 - t * y) ≤ u * ab (t * y)) (hd : 0 ≤ d) (hu : 0 ≤ u) : ab (t1 - e * y) ≤ (d + u + u * d) * ab (e * y) := by
  have a1 := ab_tri t1 (t * y) (e * y)
  have a2 : t * y - e * y = (t - e) * y := by grind
  have a3 : ab (t * y - e * y) ≤ d * ab (e * y) := by
    rw [a2, ab_mul, ab_mul]
    have := Rat.mul_le_mul_of_nonneg_right h (ab_nn y)
    grind
  have a4 : ab (t * y) ≤ ab (e * y) + d * ab (e * y) := by
    have := ab_add (t * y - e * y) (e * y)
    rw [show t * y - e * y + e * y = t * y by grind] at this
    grind
  have a5 := Rat.mul_le_mul_of_nonneg_left a4 hu
  grind
theorem term_step {u y t t1 t2 : Rat} {k : Nat} (hu0 : 0 ≤ u) (hu : u ≤ 1 / 1000000) (hk : k < 60) (h : TermInv u y k t) (h1 : ab (t1 - t * y) ≤ u * ab (t * y)) (h2 : ab (t2 - t1 / ((k + 1 : Nat) : Rat)) ≤ 3 * u * ab (t1 / ((k + 1 : Nat) : Rat))) : TermInv u y (k + 1) t2 := by
  unfold TermInv at *
  have k0 := cast_nn k
  have k60 : (k : Rat) ≤ 60 := cast_le.2 (show k ≤ 60 by omega)
  have ku : 0 ≤ (k : Rat) * u := mul_nn k0 hu0
  have ku2 : (k : Rat) * u ≤ 60 * u := Rat.mul_le_mul_of_nonneg_right k60 hu0
  have kuu : u * ((k : Rat) * u) ≤ 1 / 1000000 * (60 * u) := mul_mono hu0 hu ku ku2
  have m1 := near_mul h h1 (by grind) hu0
  have iv0 := inv_nn k
  have e1 : t1 / ((k + 1 : Nat) : Rat) = t1 * (1 / ((k + 1 : Nat) : Rat)) := by grind
  rw [e1] at h2
  have m2 := near_mul m1 h2 (by have := mul_nn hu0 ku; grind) (by grind)
  have e2 : ee y (k + 1) = ee y k * y * (1 / ((k + 1 : Nat) : Rat)) := by rw [ee_rat]; grind
  rw [← e2] at m2
  have a0 := ab_nn (ee y (k + 1))
  refine Rat.le_trans m2 ?_
  refine Rat.mul_le_mul_of_nonneg_right ?_ a0
  rw [natQ_succ]
  have e3 : 5 * ((k : Rat) + 1) * u = 5 * ((k : Rat) * u) + 5 * u := by grind
  have q1 : 5 * (k : Rat) * u = 5 * ((k : Rat) * u) := by grind
  rw [e3, q1]
  generalize (k : Rat) * u = kk at *
  have q2 : u * u ≤ 1 / 1000000 * u := Rat.mul_le_mul_of_nonneg_right hu hu0
  have q4 : 0 ≤ u * kk := mul_nn hu0 ku
  have q3 : u * (u * kk) ≤ 1 * (u * kk) := Rat.mul_le_mul_of_nonneg_right (by grind) q4
  have q5 : u * kk ≤ 60 / 1000000 * u := by
    have := Rat.mul_le_mul_of_nonneg_left (show kk ≤ 60 / 1000000 by grind) hu0
    grind
  grind
theorem TT_succ (x : Rat) (n : Nat) : TT x (n + 1) = TT x n + ee x (n + 1) := rfl
theorem ee_zero (x : Rat) : ee x 0 = 1 := rfl
theorem ee_le1 {t : Rat} (h0 : 0 ≤ t) (h : t ≤ 1) : ∀ k, ee t k ≤ 1
  | 0 => Rat.le_refl
  | k + 1 => by
    have ih := ee_le1 h0 h k
    rw [ee_rat, div_le (nQ_pos k), Rat.one_mul, natQ_succ]
    have := mul_mono (ee_nn h0 k) ih h0 h
    have := cast_nn k
    grind
theorem nr_rat (x : Rat) : nr x = ab x := rfl
theorem ee_size (y : Rat) (k : Nat) : ab (ee y k) ≤ ee (ab y) k := nr_ee y k
/-- (k+1) times a term is at most |y|. -/
theorem ee_times {y : Rat} (h : ab y ≤ 1) (k : Nat) : ((k + 1 : Nat) : Rat) * ab (ee y (k + 1)) ≤ ab y := by
  have e : ee y (k + 1) * ((k + 1 : Nat) : Rat) = ee y k * y := by
    rw [ee_rat]; have := nQ_pos k; exact div_self (by grind)
  have h1 := congrArg ab e
  rw [ab_mul, ab_mul, ab_pos (Rat.le_of_lt (nQ_pos k))] at h1
  have h2 := Rat.le_trans (ee_size y k) (ee_le1 (ab_nn y) h k)
  have h3 := Rat.mul_le_mul_of_nonneg_right h2 (ab_nn y)
  grind
/-- sums of small numbers. -/
theorem TT_small {y : Rat} (h : ab y ≤ 1) (k : Nat) : ab (TT y k - 1) ≤ 2 * ab y := by
  have h1 := nr_TT_sub y 0 k
  rw [Nat.zero_add, TT_zero, TT_zero] at h1
  have h2 := tail_le' (ab_nn y) (n := 0) (by have e : ((0 + 2 : Nat) : Rat) = 2 := rfl
                                             rw [e]; grind) k
  rw [Nat.zero_add, TT_zero] at h2
  have e2 : ee (ab y) (0 + 1) = ab y := by
    rw [ee_rat, ee_zero]; have e : ((0 + 1 : Nat) : Rat) = 1 := rfl
    rw [e]; grind
  rw [e2] at h2
  exact Rat.le_trans h1 h2
theorem sum_step {u y s t s' : Rat} {k : Nat} (hu0 : 0 ≤ u) (hu : u ≤ 1 / 1000000) (hk : k < 60) (hy : ab y ≤ 1 / 60) (h : SumInv u y k s) (ht : TermInv u y (k + 1) t) (h1 : ab (s' - (s + t)) ≤ u * ab (s + t)) : SumInv u y (k + 1) s' := by
  unfold SumInv TermInv at *
  have hy1 : ab y ≤ 1 := by grind
  have e1 := ee_times hy1 k
  have e0 := ab_nn (ee y (k + 1))
  have k1 := nQ_pos k
  have tk : 5 * ((k + 1 : Nat) : Rat) * u * ab (ee y (k + 1)) ≤ 5 / 60 * u := by
    have := Rat.mul_le_mul_of_nonneg_right (Rat.le_trans e1 hy) hu0
    grind
  have ht2 := Rat.le_trans ht tk
  have b1 := TT_small hy1 (k + 1)
  have k0 := cast_nn k
  have k60 : (k : Rat) ≤ 60 := cast_le.2 (show k ≤ 60 by omega)
  have ku2 : (k : Rat) * u ≤ 60 * u := Rat.mul_le_mul_of_nonneg_right k60 hu0
  have eT := TT_succ y k
  have d1 : ab (s + t - TT y (k + 1)) ≤ 2 * (k : Rat) * u + 5 / 60 * u := by
    have e : s + t - TT y (k + 1) = (s - TT y k) + (t - ee y (k + 1)) := by rw [eT]; grind
    rw [e]
    have := ab_add (s - TT y k) (t - ee y (k + 1))
    grind
  have d2 : ab (s + t) ≤ 11 / 10 := by
    have := ab_add (s + t - TT y (k + 1)) (TT y (k + 1) - 1)
    have h3 := ab_add (s + t - TT y (k + 1) + (TT y (k + 1) - 1)) 1
    rw [show s + t - TT y (k + 1) + (TT y (k + 1) - 1) + 1 = s + t by grind, show ab 1 = 1 by decide +kernel] at h3
    grind
  have d3 := ab_tri s' (s + t) (TT y (k + 1))
  have d4 := Rat.mul_le_mul_of_nonneg_left d2 hu0
  rw [natQ_succ]
  grind
theorem sum_range {u y s : Rat} {k : Nat} (hu : u ≤ 1 / 1000000) (hu0 : 0 ≤ u) (hk : k ≤ 60) (hy : ab y ≤ 1 / 60) (h : SumInv u y k s) : 9 / 10 ≤ s ∧ s ≤ 11 / 10 := by
  unfold SumInv at h
  have b1 := TT_small (show ab y ≤ 1 by grind) k
  have k60 : (k : Rat) ≤ 60 := cast_le.2 hk
  have ku2 : (k : Rat) * u ≤ 60 * u := Rat.mul_le_mul_of_nonneg_right k60 hu0
  rw [ab_le] at h b1
  grind
/-- the sum of a number that is a little off. -/
theorem TT_off {y y0 u : Rat} (hu0 : 0 ≤ u) (h0 : ab y0 ≤ 1 / 64) (h : ab (y - y0) ≤ u * ab y0) (hu : u ≤ 1 / 1000000) (hee : 2 * ee (1 / 60 + 1 / 60) 61 ≤ u) : ab (TT y 60 - TT y0 60) ≤ 2 * u := by
  have hd : ab (y - y0) ≤ u / 64 := by
    have := Rat.mul_le_mul_of_nonneg_left h0 hu0; grind
  have hn := TT_near y0 (y - y0) (a := 1 / 60) (b := 1 / 60) (n := 60) (by show ab y0 ≤ _; grind) (by show ab (y - y0) ≤ _; grind) (by decide +kernel)
  rw [show y0 + (y - y0) = y by grind] at hn
  have hn : ab (TT y0 60 * TT (y - y0) 60 - TT y 60) ≤ u := Rat.le_trans hn hee
  have b1 := TT_small (show ab (y - y0) ≤ 1 by grind) 60
  have b2 := TT_small (show ab y0 ≤ 1 by grind) 60
  have b3 : ab (TT y0 60) ≤ 11 / 10 := by rw [ab_le] at b2 ⊢; constructor <;> grind
  have m : ab (TT y0 60 * (TT (y - y0) 60 - 1)) ≤ 11 / 10 * (2 * (u / 64)) := by
    rw [ab_mul]; exact mul_mono (ab_nn _) b3 (ab_nn _) (by grind)
  have e : TT y 60 - TT y0 60 = TT y0 60 * (TT (y - y0) 60 - 1) - (TT y0 60 * TT (y - y0) 60 - TT y 60) := by grind
  rw [e]
  have := ab_sub (TT y0 60 * (TT (y - y0) 60 - 1)) (TT y0 60 * TT (y - y0) 60 - TT y 60)
  grind
/-- the program's sum is near to the true one. -/
theorem sum_end {y y0 s u : Rat} (hu0 : 0 ≤ u) (h0 : ab y0 ≤ 1 / 64) (h : ab (y - y0) ≤ u * ab y0) (hu : u ≤ 1 / 1000000) (hee : 2 * ee (1 / 60 + 1 / 60) 61 ≤ u) (hs : SumInv u y 60 s) : Rl s (TT y0 60) (150 * u) := by
  have h1 := TT_off hu0 h0 h hu hee
  unfold SumInv at hs
  have e : ((60 : Nat) : Rat) = 60 := rfl
  rw [e] at hs
  have b2 := TT_small (show ab y0 ≤ 1 by grind) 60
  have h2 := ab_tri s (TT y 60) (TT y0 60)
  have hT : 9 / 10 ≤ TT y0 60 := by rw [ab_le] at b2; grind
  refine ⟨?_, by grind⟩
  have := Rat.mul_le_mul_of_nonneg_left hT hu0
  grind
end Go.Proofs.Ytcfkhhnkboealaa
