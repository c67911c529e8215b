/- Rounding: the nearest float of a whole number of 2^-1074, or of a fraction of it. No condition. -/
import Derived.Test.YtndknkdfbjfjcaaDoorIe
namespace Go.Proofs.YtndknkdfbjfjcaaDoor
set_option linter.unusedVariables false

/-- the nearest whole number to n / g, between two the even one -/
def rne (n g : Nat) : Nat := n / g + (if g < 2 * (n % g) || (g == 2 * (n % g) && n / g % 2 == 1) then 1 else 0)
/-- the rung nearest to m / 2^d units -/
def rndQ (m d : Nat) : Nat := if m = 0 then 0 else min ((m.log2 - 52 - d) * 4503599627370496 + rne m (2 ^ (d + (m.log2 - 52 - d)))) 9218868437227405312
def rndN (m : Nat) : Nat := rndQ m 0

theorem log2_mul (m k : Nat) (h : m ≠ 0) : (m * 2 ^ k).log2 = m.log2 + k := by
  have h2 : m * 2 ^ k ≠ 0 := Nat.mul_ne_zero h (Nat.ne_of_gt (Nat.two_pow_pos k))
  have a := Nat.log2_self_le h
  have b := @Nat.lt_log2_self m
  apply (Nat.log2_eq_iff h2).2
  constructor
  · rw [Nat.pow_add]; exact Nat.mul_le_mul_right _ a
  · rw [show m.log2 + k + 1 = (m.log2 + 1) + k by omega, Nat.pow_add]
    exact Nat.mul_lt_mul_of_pos_right b (Nat.two_pow_pos k)

theorem rne_small {n g : Nat} (h : 2 * n < g) : rne n g = 0 := by
  unfold rne
  rw [Nat.div_eq_of_lt (by omega), Nat.mod_eq_of_lt (by omega)]
  have h1 : ¬ g < 2 * n := by omega
  simp [h1]
theorem toNat_ite (b : Bool) : b.toNat = if b = true then 1 else 0 := by cases b <;> rfl
theorem cut_even (s : Bool) (n drop : Nat) (hn : n ≠ 0) : Ieee.Toward.even.cut s n drop = rne n (2 ^ drop) := by
  unfold Ieee.Toward.cut
  by_cases h : drop ≤ n.log2 + 2
  · rw [Nat.min_eq_left h, Nat.one_shiftLeft]
    simp only
    unfold rne
    rw [toNat_ite]
  · rw [Nat.min_eq_right (by omega), Nat.one_shiftLeft]
    have b := @Nat.lt_log2_self n
    have e : 2 ^ (n.log2 + 2) = 2 * 2 ^ (n.log2 + 1) := by rw [Nat.pow_succ 2 (n.log2 + 1)]; omega
    have e2 : 2 ^ (n.log2 + 2) ≤ 2 ^ drop := Nat.pow_le_pow_right (by decide) (by omega)
    rw [rne_small (show 2 * n < 2 ^ drop by omega)]
    simp only
    rw [Nat.div_eq_of_lt (by omega), Nat.mod_eq_of_lt (by omega)]
    have h1 : ¬ 2 ^ (n.log2 + 2) < 2 * n := by omega
    simp [h1]
theorem rne_scale (n g c : Nat) (hc : 0 < c) : rne (n * c) (g * c) = rne n g := by
  unfold rne
  rw [Nat.mul_div_mul_right _ _ hc, Nat.mul_mod_mul_right]
  have e : 2 * (n % g * c) = 2 * (n % g) * c := by rw [Nat.mul_assoc]
  rw [e]
  have h1 : g * c < 2 * (n % g) * c ↔ g < 2 * (n % g) := Nat.mul_lt_mul_right hc
  have h2 : g * c = 2 * (n % g) * c ↔ g = 2 * (n % g) := by
    constructor
    · intro h; exact Nat.eq_of_mul_eq_mul_right hc h
    · intro h; rw [← h]
  have h3 : (g * c == 2 * (n % g) * c) = (g == 2 * (n % g)) := by rw [Bool.eq_iff_iff]; simp only [beq_iff_eq, h2]
  have h4 : decide (g * c < 2 * (n % g) * c) = decide (g < 2 * (n % g)) := by rw [Bool.eq_iff_iff]; simp only [decide_eq_true_eq, h1]
  rw [h3, h4]
theorem rne_mul (q g : Nat) (hg : 0 < g) : rne (q * g) g = q := by
  unfold rne
  rw [Nat.mul_div_cancel _ hg, Nat.mul_mod_left]
  have h1 : ¬ g = 0 := by omega
  simp [h1]
theorem rne_one (q : Nat) : rne q 1 = q := by have := rne_mul q 1 (by omega); rwa [Nat.mul_one] at this

theorem rndQ_scale (m d k : Nat) : rndQ (m * 2 ^ k) (d + k) = rndQ m d := by
  unfold rndQ
  by_cases h : m = 0
  · simp [h]
  · rw [if_neg (Nat.mul_ne_zero h (Nat.ne_of_gt (Nat.two_pow_pos k))), if_neg h, log2_mul m k h]
    rw [show m.log2 + k - 52 - (d + k) = m.log2 - 52 - d by omega, show d + k + (m.log2 - 52 - d) = d + (m.log2 - 52 - d) + k by omega, Nat.pow_add 2 (d + (m.log2 - 52 - d)) k, rne_scale _ _ _ (Nat.two_pow_pos k)]

theorem nearest_frac (neg : Bool) (m d : Nat) : Ieee.double.nearest neg m (-1074 - (d : Int)) = Ieee.double.word neg (rndQ m d) := by
  have e1 : Ieee.double.infRung = 9218868437227405312 := by decide +kernel
  have e2 : Ieee.double.binade = 4503599627370496 := by decide +kernel
  have e3 : Ieee.double.leastPlace = -1074 := by decide +kernel
  have e4 : Ieee.double.fractionBits = 52 := rfl
  unfold Ieee.Format.nearest rndQ
  by_cases h : m = 0
  · simp [h]
  · rw [if_neg h, if_neg h, e1, e2, e3, e4]
    simp only
    have hl : max (-1074 - (d : Int) + (m.log2 : Int) - ((52 : Nat) : Int)) (-1074) = -1074 + ((m.log2 - 52 - d : Nat) : Int) := by omega
    rw [hl]
    have h1 : (-1074 - (d : Int) - (-1074 + ((m.log2 - 52 - d : Nat) : Int))).toNat = 0 := by omega
    have h2 : (-1074 + ((m.log2 - 52 - d : Nat) : Int) - (-1074 - (d : Int))).toNat = d + (m.log2 - 52 - d) := by omega
    have h3 : (-1074 + ((m.log2 - 52 - d : Nat) : Int) - (-1074)).toNat = m.log2 - 52 - d := by omega
    rw [h1, h2, h3, Nat.shiftLeft_zero, cut_even _ _ _ h]
theorem nearest_int (neg : Bool) (m k : Nat) : Ieee.double.nearest neg m (-1074 + (k : Int)) = Ieee.double.word neg (rndN (m * 2 ^ k)) := by
  have e1 : Ieee.double.infRung = 9218868437227405312 := by decide +kernel
  have e2 : Ieee.double.binade = 4503599627370496 := by decide +kernel
  have e3 : Ieee.double.leastPlace = -1074 := by decide +kernel
  have e4 : Ieee.double.fractionBits = 52 := rfl
  unfold Ieee.Format.nearest rndN rndQ
  by_cases h : m = 0
  · simp [h]
  · rw [if_neg h, if_neg (Nat.mul_ne_zero h (Nat.ne_of_gt (Nat.two_pow_pos k))), e1, e2, e3, e4, log2_mul m k h]
    simp only
    have hl : max (-1074 + (k : Int) + (m.log2 : Int) - ((52 : Nat) : Int)) (-1074) = -1074 + ((m.log2 + k - 52 - 0 : Nat) : Int) := by omega
    rw [hl]
    have h3 : (-1074 + ((m.log2 + k - 52 - 0 : Nat) : Int) - (-1074)).toNat = m.log2 + k - 52 - 0 := by omega
    rw [h3]
    congr 3
    rw [Nat.shiftLeft_eq, Nat.zero_add]
    by_cases hk : m.log2 + k - 52 - 0 ≤ k
    · have h1 : (-1074 + (k : Int) - (-1074 + ((m.log2 + k - 52 - 0 : Nat) : Int))).toNat = k - (m.log2 + k - 52 - 0) := by omega
      have h2 : (-1074 + ((m.log2 + k - 52 - 0 : Nat) : Int) - (-1074 + (k : Int))).toNat = 0 := by omega
      rw [h1, h2, cut_even _ _ _ (Nat.mul_ne_zero h (Nat.ne_of_gt (Nat.two_pow_pos _)))]
      rw [show (2 : Nat) ^ 0 = 1 from rfl, rne_one]
      generalize m.log2 + k - 52 - 0 = L at *
      have e : m * 2 ^ k = m * 2 ^ (k - L) * 2 ^ L := by rw [Nat.mul_assoc, ← Nat.pow_add, Nat.sub_add_cancel hk]
      rw [e, rne_mul _ _ (Nat.two_pow_pos L)]
    · have h1 : (-1074 + (k : Int) - (-1074 + ((m.log2 + k - 52 - 0 : Nat) : Int))).toNat = 0 := by omega
      have h2 : (-1074 + ((m.log2 + k - 52 - 0 : Nat) : Int) - (-1074 + (k : Int))).toNat = m.log2 + k - 52 - 0 - k := by omega
      rw [h1, h2, show (2 : Nat) ^ 0 = 1 from rfl, Nat.mul_one, cut_even _ _ _ h]
      generalize m.log2 + k - 52 - 0 = L at *
      have e : 2 ^ L = 2 ^ (L - k) * 2 ^ k := by rw [← Nat.pow_add, Nat.sub_add_cancel (by omega)]
      rw [e, rne_scale _ _ _ (Nat.two_pow_pos k)]

/-- what is a float rounds to itself -/
theorem rnd_mval {r : Nat} (h : r < 9218868437227405312) : rndN (mval r) = r := by
  unfold rndN rndQ
  by_cases h0 : r = 0
  · subst h0; rfl
  · have hp : mval r ≠ 0 := by have := mval_pos (show 0 < r by omega); omega
    rw [if_neg hp]
    unfold mval at hp ⊢
    by_cases h1 : r < 4503599627370496
    · rw [if_pos h1]
      have h2 : r.log2 < 52 := (Nat.log2_lt (by omega)).2 (by omega)
      rw [show r.log2 - 52 - 0 = 0 by omega]
      simp only [Nat.zero_mul, Nat.zero_add]
      rw [show (2 : Nat) ^ 0 = 1 from rfl, rne_one]
      omega
    · rw [if_neg h1]
      generalize hq : r / 4503599627370496 = e at *
      have hm := Nat.mod_lt r (show 0 < 4503599627370496 by decide)
      have hd := Nat.div_add_mod r 4503599627370496
      generalize r % 4503599627370496 = m at *
      have hlog : (4503599627370496 + m).log2 = 52 := (Nat.log2_eq_iff (by omega)).2 ⟨by omega, by omega⟩
      rw [log2_mul _ _ (by omega), hlog, show 52 + (e - 1) - 52 - 0 = e - 1 by omega, Nat.zero_add, rne_mul _ _ (Nat.two_pow_pos _)]
      rw [hq] at hd
      omega
end Go.Proofs.YtndknkdfbjfjcaaDoor
