/- What a float's bits are worth, as a whole number of 2^-1074: the order of floats is the order of these. No condition. -/
import Derived.Test.YtndknkdfbjfjcaaDoorFl
namespace Go.Proofs.YtndknkdfbjfjcaaDoor
set_option linter.unusedVariables false

/-- the worth of a rung, in units of 2^-1074 (of infinity's: the next power of two). -/
def mval (r : Nat) : Nat := if r < 4503599627370496 then r else (4503599627370496 + r % 4503599627370496) * 2 ^ (r / 4503599627370496 - 1)
/-- the rung of bits -/
def rung (x : Nat) : Nat := x % 9223372036854775808
/-- the worth of bits, with its sign -/
def sval (x : Nat) : Int := if sgn x then -(mval (rung x) : Int) else (mval (rung x) : Int)

theorem mval_lt {r s : Nat} (h : r < s) : mval r < mval s := by
  have two : ∀ k, 0 < 2 ^ k := fun k => Nat.two_pow_pos k
  unfold mval
  by_cases hr : r < 4503599627370496
  · rw [if_pos hr]
    by_cases hs : s < 4503599627370496
    · rw [if_pos hs]; exact h
    · rw [if_neg hs]
      have := two (s / 4503599627370496 - 1)
      have h2 : (4503599627370496 + s % 4503599627370496) * 1 ≤ (4503599627370496 + s % 4503599627370496) * 2 ^ (s / 4503599627370496 - 1) := Nat.mul_le_mul_left _ this
      omega
  · have hs : ¬ s < 4503599627370496 := by omega
    rw [if_neg hr, if_neg hs]
    have d1 := Nat.div_add_mod r 4503599627370496
    have d2 := Nat.div_add_mod s 4503599627370496
    have m1 := Nat.mod_lt r (show 0 < 4503599627370496 by decide)
    have m2 := Nat.mod_lt s (show 0 < 4503599627370496 by decide)
    generalize r / 4503599627370496 = e at *
    generalize s / 4503599627370496 = k at *
    generalize r % 4503599627370496 = a at *
    generalize s % 4503599627370496 = b at *
    by_cases hek : e = k
    · subst hek
      exact Nat.mul_lt_mul_of_pos_right (by omega) (two _)
    · have hlt : e < k := by omega
      have h1 : (4503599627370496 + a) * 2 ^ (e - 1) < 9007199254740992 * 2 ^ (e - 1) := Nat.mul_lt_mul_of_pos_right (by omega) (two _)
      have h2 : 9007199254740992 * 2 ^ (e - 1) = 4503599627370496 * 2 ^ e := by
        have : e = (e - 1) + 1 := by omega
        rw [this, Nat.pow_succ, Nat.add_sub_cancel]
        omega
      have h3 : 4503599627370496 * 2 ^ e ≤ 4503599627370496 * 2 ^ (k - 1) := Nat.mul_le_mul_left _ (Nat.pow_le_pow_right (by decide) (by omega))
      have h4 : 4503599627370496 * 2 ^ (k - 1) ≤ (4503599627370496 + b) * 2 ^ (k - 1) := Nat.mul_le_mul_right _ (by omega)
      omega
theorem mval_lt_iff {r s : Nat} : mval r < mval s ↔ r < s := by
  constructor
  · intro h
    by_cases h2 : r < s
    · exact h2
    · by_cases h3 : r = s
      · subst h3; omega
      · have := mval_lt (show s < r by omega); omega
  · exact mval_lt
theorem mval_inj {r s : Nat} (h : mval r = mval s) : r = s := by
  by_cases h1 : r < s
  · have := mval_lt h1; omega
  · by_cases h2 : s < r
    · have := mval_lt h2; omega
    · omega
theorem mval_le_iff {r s : Nat} : mval r ≤ mval s ↔ r ≤ s := by
  have := @mval_lt_iff s r
  omega
theorem mval_zero : mval 0 = 0 := by decide +kernel
theorem mval_pos {r : Nat} (h : 0 < r) : 0 < mval r := by have := mval_lt h; rw [mval_zero] at this; exact this

/-- a number's parts: the magnitude times 2 to the place above the least is the worth. -/
theorem read_number {x : Nat} (h : rung x < 9218868437227405312) : ∃ m k, Ieee.double.read x = .number (sgn x) m (-1074 + (k : Nat)) ∧ mval (rung x) = m * 2 ^ k ∧ m < 9007199254740992 ∧ k ≤ 2045 := by
  rw [read_eq]
  dsimp only
  have hr : x % 9223372036854775808 = rung x := rfl
  rw [hr]
  by_cases h1 : rung x < 4503599627370496
  · rw [if_pos h1]
    refine ⟨rung x, 0, ?_, ?_, by omega, by omega⟩
    · rfl
    · simp [mval, h1]
  · rw [if_neg h1, if_pos h]
    refine ⟨_, rung x / 4503599627370496 - 1, rfl, ?_, by omega, by omega⟩
    simp [mval, h1]
theorem read_inf {x : Nat} (h : rung x = 9218868437227405312) : Ieee.double.read x = .infinity (sgn x) := by
  rw [read_eq]
  dsimp only
  have hr : x % 9223372036854775808 = rung x := rfl
  rw [hr, h]
  rfl
theorem signed_eq (s : Bool) (m k : Nat) : Ieee.signed s m k = (if s then -((m * 2 ^ k : Nat) : Int) else ((m * 2 ^ k : Nat) : Int)) := by
  unfold Ieee.signed
  rw [Nat.shiftLeft_eq]

theorem compare_scale (a b : Int) (k : Nat) : compare (a * (2 ^ k : Nat)) (b * (2 ^ k : Nat)) = compare a b := by
  have hp : (0 : Int) < ((2 ^ k : Nat) : Int) := by exact_mod_cast Nat.two_pow_pos k
  simp only [compare, compareOfLessAndEq]
  have e1 : a * ((2 ^ k : Nat) : Int) < b * ((2 ^ k : Nat) : Int) ↔ a < b := Int.mul_lt_mul_right hp
  have e2 : a * ((2 ^ k : Nat) : Int) = b * ((2 ^ k : Nat) : Int) ↔ a = b := Int.mul_eq_mul_right_iff (by omega)
  simp only [e1, e2]

theorem signed_scale (s : Bool) (m a b : Nat) : Ieee.signed s m (a + b) = Ieee.signed s m a * ((2 ^ b : Nat) : Int) := by
  rw [signed_eq, signed_eq]
  rw [Nat.pow_add, ← Nat.mul_assoc]
  cases s
  · simp
  · simp [Int.neg_mul]

/-- THE ORDER of two finite floats -/
theorem order_fin {x y : Nat} (hx : rung x < 9218868437227405312) (hy : rung y < 9218868437227405312) : Ieee.double.order x y = some (compare (sval x) (sval y)) := by
  obtain ⟨m, k, hr, hm, _⟩ := read_number hx
  obtain ⟨n, j, hs, hn, _⟩ := read_number hy
  unfold Ieee.Format.order
  rw [hr, hs]
  simp only [Ieee.Datum.order]
  congr 1
  have ex : sval x = Ieee.signed (sgn x) m k := by rw [signed_eq]; unfold sval; rw [hm]
  have ey : sval y = Ieee.signed (sgn y) n j := by rw [signed_eq]; unfold sval; rw [hn]
  rw [ex, ey]
  by_cases h : k ≤ j
  · have e0 : min (-1074 + (k : Int)) (-1074 + (j : Int)) = -1074 + k := by omega
    rw [e0]
    have e1 : (-1074 + (k : Int) - (-1074 + (k : Int))).toNat = 0 := by omega
    have e2 : (-1074 + (j : Int) - (-1074 + (k : Int))).toNat = j - k := by omega
    rw [e1, e2, ← compare_scale _ _ k, ← signed_scale, ← signed_scale, Nat.zero_add, Nat.sub_add_cancel h]
  · have e0 : min (-1074 + (k : Int)) (-1074 + (j : Int)) = -1074 + j := by omega
    rw [e0]
    have e1 : (-1074 + (k : Int) - (-1074 + (j : Int))).toNat = k - j := by omega
    have e2 : (-1074 + (j : Int) - (-1074 + (j : Int))).toNat = 0 := by omega
    rw [e1, e2, ← compare_scale _ _ j, ← signed_scale, ← signed_scale, Nat.zero_add, Nat.sub_add_cancel (by omega)]

theorem notN_iff (x : Nat) : isN x = false ↔ rung x ≤ 9218868437227405312 := isN_false_iff x

theorem compare_lt' {a b : Int} (h : a < b) : compare a b = .lt := by simp [compare, compareOfLessAndEq, h]
theorem compare_gt' {a b : Int} (h : b < a) : compare a b = .gt := by
  have h1 : ¬ a < b := by omega
  have h2 : ¬ a = b := by omega
  simp [compare, compareOfLessAndEq, h1, h2]
theorem compare_eq' {a b : Int} (h : a = b) : compare a b = .eq := by simp [compare, compareOfLessAndEq, h]

/-- THE ORDER of any two numbers, infinite ones among them -/
theorem order_num {x y : Nat} (hx : isN x = false) (hy : isN y = false) : Ieee.double.order x y = some (compare (sval x) (sval y)) := by
  rw [notN_iff] at hx hy
  by_cases h1 : rung x < 9218868437227405312
  · by_cases h2 : rung y < 9218868437227405312
    · exact order_fin h1 h2
    · have h2' : rung y = 9218868437227405312 := by omega
      obtain ⟨m, k, hr, hm, _⟩ := read_number h1
      have hlt : mval (rung x) < mval (rung y) := mval_lt (by omega)
      unfold Ieee.Format.order
      rw [hr, read_inf h2']
      simp only [Ieee.Datum.order, sval]
      cases sgn y <;> cases sgn x <;> simp only [Bool.false_eq_true, if_true, if_false] <;> first | rw [compare_lt' (by omega)] | rw [compare_gt' (by omega)]
  · have h1' : rung x = 9218868437227405312 := by omega
    by_cases h2 : rung y < 9218868437227405312
    · obtain ⟨m, k, hr, hm, _⟩ := read_number h2
      have hlt : mval (rung y) < mval (rung x) := mval_lt (by omega)
      unfold Ieee.Format.order
      rw [hr, read_inf h1']
      simp only [Ieee.Datum.order, sval]
      cases sgn y <;> cases sgn x <;> simp only [Bool.false_eq_true, if_true, if_false] <;> first | rw [compare_lt' (by omega)] | rw [compare_gt' (by omega)]
    · have h2' : rung y = 9218868437227405312 := by omega
      have hpos : 0 < mval (rung x) := mval_pos (by omega)
      unfold Ieee.Format.order
      rw [read_inf h1', read_inf h2']
      simp only [Ieee.Datum.order, sval, h1', h2'] at *
      cases sgn y <;> cases sgn x <;> simp only [Bool.false_eq_true, if_true, if_false] <;> first | rw [compare_lt' (by omega)]; rfl | rw [compare_gt' (by omega)]; rfl | rw [compare_eq' (by omega)]; rfl
theorem order_nanL {x y : Nat} (hx : isN x = true) : Ieee.double.order x y = none := order_none _ _ (.inl hx)
theorem order_nanR {x y : Nat} (hy : isN y = true) : Ieee.double.order x y = none := order_none _ _ (.inr hy)

theorem cmp_lt (a b : Int) : (some (compare a b) == some Ordering.lt) = decide (a < b) := by
  simp only [compare, compareOfLessAndEq]
  by_cases h : a < b
  · simp [h]
  · by_cases h2 : a = b <;> simp [h, h2]
theorem cmp_eq (a b : Int) : (some (compare a b) == some Ordering.eq) = decide (a = b) := by
  simp only [compare, compareOfLessAndEq]
  by_cases h : a < b
  · have : ¬ a = b := by omega
    simp [h, this]
  · by_cases h2 : a = b <;> simp [h, h2]
theorem cmp_gt (a b : Int) : (some (compare a b) == some Ordering.gt) = decide (b < a) := by
  simp only [compare, compareOfLessAndEq]
  by_cases h : a < b
  · have : ¬ b < a := by omega
    simp [h, this]
  · by_cases h2 : a = b
    · simp [h2]
    · have : b < a := by omega
      simp [h, h2, this]

theorem flt_eq (x y : Nat) : flt x y = (!isN x && !isN y && decide (sval x < sval y)) := by
  unfold flt
  cases hx : isN x
  · cases hy : isN y
    · rw [order_num hx hy, cmp_lt]; rfl
    · rw [order_nanR hy]; rfl
  · rw [order_nanL hx]; rfl
theorem feq_eq (x y : Nat) : feq x y = (!isN x && !isN y && decide (sval x = sval y)) := by
  unfold feq
  cases hx : isN x
  · cases hy : isN y
    · rw [order_num hx hy, cmp_eq]; rfl
    · rw [order_nanR hy]; rfl
  · rw [order_nanL hx]; rfl
theorem fle_eq (x y : Nat) : fle x y = (!isN x && !isN y && decide (sval x ≤ sval y)) := by
  have h : fle x y = (flt x y || feq x y) := rfl
  rw [h, flt_eq, feq_eq]
  cases isN x <;> cases isN y <;> simp
  rw [Bool.eq_iff_iff]; simp; omega
theorem fgt_eq (x y : Nat) : (Ieee.double.order x y == some .gt) = flt y x := by
  rw [flt_eq]
  cases hx : isN x
  · cases hy : isN y
    · rw [order_num hx hy, cmp_gt]; rfl
    · rw [order_nanR hy]; rfl
  · rw [order_nanL hx]; simp
theorem fge_eq (x y : Nat) : (Ieee.double.order x y == some .gt || Ieee.double.order x y == some .eq) = fle y x := by
  rw [fgt_eq, fle_eq, flt_eq]
  have h : (Ieee.double.order x y == some .eq) = feq x y := rfl
  rw [h, feq_eq]
  cases isN x <;> cases isN y <;> simp
  rw [Bool.eq_iff_iff]; simp; omega
theorem feq_self (x : Nat) : feq x x = !isN x := by rw [feq_eq]; simp

/-! signs -/
theorem sgn_true {x : Nat} (h : sgn x = true) (hl : x < 18446744073709551616) : x = 9223372036854775808 + rung x := by
  unfold sgn at h; unfold rung; simp at h; omega
theorem sgn_false {x : Nat} (h : sgn x = false) (hl : x < 18446744073709551616) : x = rung x := by
  unfold sgn at h; unfold rung; simp at h; omega
theorem xor_sign {x : Nat} (hl : x < 18446744073709551616) : x ^^^ 9223372036854775808 = if sgn x then rung x else rung x + 9223372036854775808 := by
  have h1 : (x ^^^ 9223372036854775808) % 9223372036854775808 = x % 9223372036854775808 := xor_sign_mod x
  have h2 : (x ^^^ 9223372036854775808) < 18446744073709551616 := Nat.xor_lt_two_pow (n := 64) hl (by decide)
  have h3 : (x ^^^ 2 ^ 63) / 2 ^ 63 = x / 2 ^ 63 ^^^ 1 := by
    rw [← Nat.shiftRight_eq_div_pow, Nat.shiftRight_xor_distrib, Nat.shiftRight_eq_div_pow, Nat.shiftRight_eq_div_pow]
  have h4 : (x ^^^ 9223372036854775808) / 9223372036854775808 = x / 9223372036854775808 ^^^ 1 := h3
  have h5 : x / 9223372036854775808 = 0 ∨ x / 9223372036854775808 = 1 := by omega
  unfold sgn rung
  rcases h5 with h5 | h5
  · rw [h5] at h4 ⊢
    have : (0 : Nat) ^^^ 1 = 1 := rfl
    rw [this] at h4
    simp
    omega
  · rw [h5] at h4 ⊢
    have : (1 : Nat) ^^^ 1 = 0 := rfl
    rw [this] at h4
    simp
    omega
theorem rung_xor (x : Nat) : rung (x ^^^ 9223372036854775808) = rung x := xor_sign_mod x
theorem sgn_xor {x : Nat} (hl : x < 18446744073709551616) : sgn (x ^^^ 9223372036854775808) = !sgn x := by
  rw [xor_sign hl]
  cases h : sgn x
  · simp only [Bool.false_eq_true, if_false]; unfold sgn rung; simp
  · simp only [if_true]; unfold sgn rung; simp
theorem sval_xor {x : Nat} (hl : x < 18446744073709551616) : sval (x ^^^ 9223372036854775808) = -sval x := by
  unfold sval
  rw [rung_xor, sgn_xor hl]
  cases sgn x <;> simp
theorem sval_neg {x : Nat} (hl : x < 18446744073709551616) (hn : isN x = false) : sval (fneg x) = -sval x := by
  unfold fneg; rw [hn]; exact sval_xor hl
theorem isN_neg (x : Nat) : isN (fneg x) = isN x := by
  unfold fneg
  cases h : isN x
  · simp only [Bool.false_eq_true, if_false]; rw [isN_xor, h]
  · exact isN_nanB
theorem isN_abs (x : Nat) : isN (fabs x) = isN x := by
  unfold fabs
  cases h : isN x
  · simp only [Bool.false_eq_true, if_false]; rw [isN_false_iff] at *; omega
  · exact isN_nanB
theorem rung_abs {x : Nat} (hn : isN x = false) : rung (fabs x) = rung x := by unfold fabs; rw [hn]; unfold rung; simp
theorem sgn_abs {x : Nat} (hn : isN x = false) : sgn (fabs x) = false := by unfold fabs; rw [hn]; unfold sgn; simp
theorem sval_abs {x : Nat} (hn : isN x = false) : sval (fabs x) = mval (rung x) := by
  unfold sval; rw [sgn_abs hn, rung_abs hn]; simp
theorem sval_cases (x : Nat) : (sgn x = false ∧ sval x = mval (rung x)) ∨ (sgn x = true ∧ sval x = -(mval (rung x) : Int)) := by
  unfold sval; cases sgn x <;> simp
end Go.Proofs.YtndknkdfbjfjcaaDoor
