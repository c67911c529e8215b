/- Rounding is monotone; whole numbers as floats; the nearest whole number. No condition. -/
import Derived.Test.YtndknkdfbjfjcaaDoorPartsA
import Derived.Test.YtndknkdfbjfjcaaDoorLog
namespace Go.Proofs.YtndknkdfbjfjcaaDoor
set_option linter.unusedVariables false
set_option linter.unusedSimpArgs false
set_option maxRecDepth 100000

theorem rne_mono {n m g : Nat} (hg : 0 < g) (h : n ≤ m) : rne n g ≤ rne m g := by
  unfold rne
  have hq : n / g ≤ m / g := Nat.div_le_div_right h
  by_cases e : n / g = m / g
  · rw [e]
    have h1 := Nat.div_add_mod n g
    have h2 := Nat.div_add_mod m g
    rw [e] at h1
    have hr : n % g ≤ m % g := by omega
    generalize m / g = q at *
    generalize n % g = a at *
    generalize m % g = b at *
    by_cases c1 : g < 2 * a
    · have : g < 2 * b := by omega
      simp [c1, this]
    · by_cases c2 : g = 2 * a ∧ q % 2 = 1
      · obtain ⟨c2, c3⟩ := c2
        by_cases c4 : g < 2 * b
        · simp [c1, c4]
          split <;> omega
        · have : g = 2 * b := by omega
          have e2 : a = b := by omega
          rw [e2]; omega
      · have : ¬ (g < 2 * a || (g == 2 * a && q % 2 == 1)) = true := by
          simp only [Bool.or_eq_true, decide_eq_true_eq, Bool.and_eq_true, beq_iff_eq]
          intro h
          rcases h with h | h
          · exact c1 h
          · exact c2 h
        rw [if_neg this]
        omega
  · have : n / g + 1 ≤ m / g := by omega
    split <;> omega
theorem rne_le_of {n g q : Nat} (hg : 0 < g) (h : n ≤ q * g) : rne n g ≤ q := by
  have := rne_mono hg h
  rwa [rne_mul q g hg] at this
theorem le_rne_of {n g q : Nat} (hg : 0 < g) (h : q * g ≤ n) : q ≤ rne n g := by
  have := rne_mono hg h
  rwa [rne_mul q g hg] at this
theorem rndQ_mono {m n d : Nat} (h : m ≤ n) : rndQ m d ≤ rndQ n d := by
  unfold rndQ
  by_cases hm : m = 0
  · rw [if_pos hm]; omega
  · have hn : n ≠ 0 := by omega
    rw [if_neg hm, if_neg hn]
    have key : (m.log2 - 52 - d) * 4503599627370496 + rne m (2 ^ (d + (m.log2 - 52 - d))) ≤ (n.log2 - 52 - d) * 4503599627370496 + rne n (2 ^ (d + (n.log2 - 52 - d))) := by
      have hmono : m.log2 ≤ n.log2 := by
        have a := Nat.log2_self_le hm
        have b := @Nat.lt_log2_self n
        rcases Nat.lt_or_ge n.log2 m.log2 with c | c
        · have : 2 ^ (n.log2 + 1) ≤ 2 ^ m.log2 := Nat.pow_le_pow_right (by decide) (by omega)
          omega
        · exact c
      by_cases e : m.log2 - 52 - d = n.log2 - 52 - d
      · rw [e]
        have := rne_mono (Nat.two_pow_pos (d + (n.log2 - 52 - d))) h
        omega
      · have hlt : m.log2 - 52 - d < n.log2 - 52 - d := by omega
        have h1 : rne m (2 ^ (d + (m.log2 - 52 - d))) ≤ 9007199254740992 := by
          refine rne_le_of (Nat.two_pow_pos _) ?_
          have b := @Nat.lt_log2_self m
          have c : 2 ^ (m.log2 + 1) ≤ 2 ^ (53 + (d + (m.log2 - 52 - d))) := Nat.pow_le_pow_right (by decide) (by omega)
          rw [Nat.pow_add 2 53, show (2 : Nat) ^ 53 = 9007199254740992 by decide] at c
          omega
        have h2 : 4503599627370496 ≤ rne n (2 ^ (d + (n.log2 - 52 - d))) := by
          refine le_rne_of (Nat.two_pow_pos _) ?_
          have b := Nat.log2_self_le hn
          have c : 2 ^ (52 + (d + (n.log2 - 52 - d))) ≤ 2 ^ n.log2 := Nat.pow_le_pow_right (by decide) (by omega)
          rw [Nat.pow_add 2 52, show (2 : Nat) ^ 52 = 4503599627370496 by decide] at c
          omega
        omega
    omega
theorem rndN_mono {m n : Nat} (h : m ≤ n) : rndN m ≤ rndN n := rndQ_mono h
/-- at most a float: rounds to at most it -/
theorem rndN_le_of {m r : Nat} (hr : r < 9218868437227405312) (h : m ≤ mval r) : rndN m ≤ r := by
  have := rndN_mono h
  rwa [rnd_mval hr] at this
theorem le_rndN_of {m r : Nat} (hr : r < 9218868437227405312) (h : mval r ≤ m) : r ≤ rndN m := by
  have := rndN_mono h
  rwa [rnd_mval hr] at this

/-- one, in units -/
def e1 : Nat := 1074
def U : Nat := 2 ^ e1
theorem U_pos : 0 < U := Nat.two_pow_pos _
theorem rndQ_U (m : Nat) : rndQ (m * U) e1 = rndN m := rndQ_cancel m e1
theorem e1_eq : e1 = 1074 := rfl
/-- small numbers times a power of two are floats -/
theorem exact_pow {m k : Nat} (hm : m < 9007199254740992) (hk : k ≤ 2045) : ∃ r, r < 9218868437227405312 ∧ mval r = m * 2 ^ k := by
  induction k with
  | zero =>
    refine ⟨m, by omega, ?_⟩
    unfold mval
    rw [Nat.pow_zero, Nat.mul_one]
    split
    · rfl
    · rw [show m / 4503599627370496 - 1 = 0 by omega, Nat.pow_zero]; omega
  | succ k ih =>
    obtain ⟨r, hr, he⟩ := ih (by omega)
    refine ⟨dbl r, ?_, by rw [mval_dbl, he, Nat.pow_succ]; generalize 2 ^ k = p; ac_rfl⟩
    have h2 : mval r < 9007199254740992 * 2 ^ k := by rw [he]; exact Nat.mul_lt_mul_of_pos_right hm (Nat.two_pow_pos k)
    have h3 : mval (4503599627370496 * (k + 2)) = 9007199254740992 * 2 ^ k := by
      unfold mval
      rw [if_neg (by omega), Nat.mul_mod_right, Nat.mul_div_cancel_left _ (by decide), show k + 2 - 1 = k + 1 by omega, Nat.pow_succ]
      generalize 2 ^ k = p
      omega
    rw [← h3] at h2
    have h4 := mval_lt_iff.1 h2
    unfold dbl
    split <;> omega
theorem rnd_exact {m k : Nat} (hm : m < 9007199254740992) (hk : k ≤ 2045) : rndN (m * 2 ^ k) < 9218868437227405312 ∧ mval (rndN (m * 2 ^ k)) = m * 2 ^ k := by
  obtain ⟨r, hr, he⟩ := exact_pow hm hk
  rw [← he, rnd_mval hr]
  exact ⟨hr, rfl⟩
/-- a whole number below 2^53 as a float -/
theorem rnd_whole {m : Nat} (hm : m < 9007199254740992) : rndN (m * U) < 9218868437227405312 ∧ mval (rndN (m * U)) = m * U := rnd_exact hm (by rw [e1_eq]; decide)
theorem nearest_whole (s : Bool) (m : Nat) : Ieee.double.nearest s m 0 = wd s (rndN (m * U)) := by
  have h0 : (0 : Int) = -1074 + (e1 : Int) := rfl
  rw [h0, nearest_int, word_eq]; rfl
theorem ofInt_eq (n : Int) : ofInt n = wd (decide (n < 0)) (rndN (n.natAbs * U)) := nearest_whole _ _
theorem ofInt_fin {n : Int} (h : n.natAbs < 9007199254740992) : fin (ofInt n) = true := by
  rw [ofInt_eq]; unfold fin; rw [wd_rung (rndN_le _)]; simp; exact (rnd_whole h).1
theorem ofInt_sval {n : Int} (h : n.natAbs < 9007199254740992) : sval (ofInt n) = n * (U : Int) := by
  rw [ofInt_eq, wd_sval (rndN_le _), (rnd_whole h).2]
  by_cases h0 : n < 0
  · rw [decide_eq_true h0]
    simp only [if_true]
    have e : (n.natAbs : Int) = -n := by omega
    rw [Int.natCast_mul, e, Int.neg_mul, Int.neg_neg]
  · rw [decide_eq_false h0]
    simp only [Bool.false_eq_true, if_false]
    have e : (n.natAbs : Int) = n := by omega
    rw [Int.natCast_mul, e]
theorem ofInt_lt (n : Int) : ofInt n < 18446744073709551616 := write_lt64 _
theorem ofInt_notN (n : Int) : isN (ofInt n) = false := write_notN _ rfl

/-- the nearest whole number, in ones -/
def wholeN (r : Nat) : Nat := rne (mval r) U
theorem cut_whole {m k : Nat} (hm : m ≠ 0) : Ieee.Toward.even.cut false (m <<< (-1074 + (k : Int)).toNat) (-(-1074 + (k : Int))).toNat = rne (m * 2 ^ k) U := by
  rw [cut_even _ _ _ (by rw [Nat.shiftLeft_eq]; exact Nat.mul_ne_zero hm (Nat.ne_of_gt (Nat.two_pow_pos _))), Nat.shiftLeft_eq]
  unfold U
  have he := e1_eq
  by_cases h : k ≤ e1
  · rw [show (-1074 + (k : Int)).toNat = 0 by omega, show (-(-1074 + (k : Int))).toNat = e1 - k by omega, Nat.pow_zero, Nat.mul_one]
    have e : 2 ^ e1 = 2 ^ (e1 - k) * 2 ^ k := by rw [← Nat.pow_add, Nat.sub_add_cancel h]
    rw [e, rne_scale _ _ _ (Nat.two_pow_pos k)]
  · rw [show (-1074 + (k : Int)).toNat = k - e1 by omega, show (-(-1074 + (k : Int))).toNat = 0 by omega, Nat.pow_zero, rne_one]
    have e : m * 2 ^ k = m * 2 ^ (k - e1) * 2 ^ e1 := by rw [Nat.mul_assoc, ← Nat.pow_add, Nat.sub_add_cancel (by omega)]
    rw [e, rne_mul _ _ (Nat.two_pow_pos _)]
theorem whole_eq {f : Nat} (hf : fin f = true) : wholeF f = wd (sgn f) (rndN (wholeN (rung f) * U)) := by
  obtain ⟨m, k, hr, hm, _⟩ := read_number (fin_rung hf)
  unfold wholeF
  rw [fin_notN hf, hr]
  simp only [Bool.false_eq_true, if_false, Ieee.Datum.integral]
  show Ieee.double.nearest _ _ _ = _
  rw [nearest_whole, cut_sign]
  unfold wholeN
  rw [hm]
  by_cases h0 : m = 0
  · subst h0
    have : Ieee.Toward.even.cut false (0 <<< (-1074 + (k : Int)).toNat) (-(-1074 + (k : Int))).toNat = rne (0 * 2 ^ k) U := by
      rw [Nat.zero_mul, Nat.zero_shiftLeft]
      unfold Ieee.Toward.cut rne
      simp
    rw [this]
  · rw [cut_whole h0]
end Go.Proofs.YtndknkdfbjfjcaaDoor
