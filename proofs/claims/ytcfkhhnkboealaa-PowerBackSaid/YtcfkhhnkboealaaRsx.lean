/- Floats times powers of two, the floats beside a float, the parts of a float: as fractions. No text of the program. The exponential as the law makes it: products, powers of two, near to plain sums. No text of the program. -/
import Derived.Test.YtcfkhhnkboealaaQv
import Derived.Test.YtcfkhhnkboealaaLos
import Derived.Test.YtcfkhhnkboealaaRda
namespace Go.Proofs.Ytcfkhhnkboealaa
set_option linter.unusedVariables false
set_option linter.unusedSimpArgs false
set_option maxRecDepth 100000
/-- a power of two. -/
def pw (n : Int) : Rat := ((2 ^ n.toNat : Nat) : Rat) / ((2 ^ (-n).toNat : Nat) : Rat)
theorem pow_neQ (d : Nat) : ((2 ^ d : Nat) : Rat) ≠ 0 := by have := pow_posQ d; grind
theorem pow_addQ (a b : Nat) : ((2 ^ (a + b) : Nat) : Rat) = ((2 ^ a : Nat) : Rat) * ((2 ^ b : Nat) : Rat) := by rw [Nat.pow_add, cast_mul]
theorem pw_sub (i j : Nat) : pw ((i : Int) - (j : Int)) = ((2 ^ i : Nat) : Rat) / ((2 ^ j : Nat) : Rat) := by
  unfold pw
  rcases Nat.le_total i j with h | h
  · obtain ⟨k, rfl⟩ := Nat.exists_eq_add_of_le h
    rw [show ((i : Int) - ((i + k : Nat) : Int)).toNat = 0 by omega, show (-((i : Int) - ((i + k : Nat) : Int))).toNat = k by omega, pow_addQ]
    have e : ((2 ^ 0 : Nat) : Rat) = 1 := by decide +kernel
    have h1 := pow_neQ i
    have h2 := pow_neQ k
    rw [e]
    grind
  · obtain ⟨k, rfl⟩ := Nat.exists_eq_add_of_le h
    rw [show (((j + k : Nat) : Int) - (j : Int)).toNat = k by omega, show (-(((j + k : Nat) : Int) - (j : Int))).toNat = 0 by omega, pow_addQ]
    have e : ((2 ^ 0 : Nat) : Rat) = 1 := by decide +kernel
    have h1 := pow_neQ j
    have h2 := pow_neQ k
    rw [e]
    grind
theorem int_sub (n : Int) : ∃ i j : Nat, n = (i : Int) - (j : Int) := ⟨n.toNat, (-n).toNat, by omega⟩
theorem pw_add (a b : Int) : pw (a + b) = pw a * pw b := by
  obtain ⟨i, j, rfl⟩ := int_sub a
  obtain ⟨k, l, rfl⟩ := int_sub b
  rw [show (i : Int) - (j : Int) + ((k : Int) - (l : Int)) = ((i + k : Nat) : Int) - ((j + l : Nat) : Int) by omega, pw_sub, pw_sub, pw_sub, pow_addQ, pow_addQ]
  have h1 := pow_neQ i
  have h2 := pow_neQ j
  have h3 := pow_neQ k
  have h4 := pow_neQ l
  grind
theorem pw_pos (n : Int) : 0 < pw n := by
  obtain ⟨i, j, rfl⟩ := int_sub n
  rw [pw_sub]
  have h1 := pow_posQ i
  have h2 := pow_posQ j
  have : (0 : Rat) ≤ ((2 ^ i : Nat) : Rat) / ((2 ^ j : Nat) : Rat) := (le_div h2).2 (by grind)
  have e := div_self_mul ((2 ^ i : Nat) : Rat) (pow_neQ j)
  rcases Rat.le_iff_lt_or_eq.1 this with h | h
  · exact h
  · rw [← h] at e; grind
theorem pw_zero : pw 0 = 1 := by decide +kernel
theorem pw_one : pw 1 = 2 := by decide +kernel
theorem pw_neg (n : Int) : pw n * pw (-n) = 1 := by rw [← pw_add, show n + -n = 0 by omega, pw_zero]
theorem pw_nat (j : Nat) : pw (j : Int) = ((2 ^ j : Nat) : Rat) := by
  have := pw_sub j 0
  rw [show (j : Int) - ((0 : Nat) : Int) = (j : Int) by omega] at this
  rw [this]
  have e : ((2 ^ 0 : Nat) : Rat) = 1 := by decide +kernel
  rw [e]; grind
theorem pw_negnat (j : Nat) : pw (-(j : Int)) * ((2 ^ j : Nat) : Rat) = 1 := by
  have := pw_neg (-(j : Int))
  rw [show - -(j : Int) = (j : Int) by omega, pw_nat] at this
  exact this
theorem pw_mono {a b : Int} (h : a ≤ b) : pw a ≤ pw b := by
  obtain ⟨k, hk⟩ := Int.eq_ofNat_of_zero_le (a := b - a) (by omega)
  rw [show b = a + (k : Int) by omega, pw_add, pw_nat]
  have h1 := pw_pos a
  have h2 : ((1 : Nat) : Rat) ≤ ((2 ^ k : Nat) : Rat) := cast_le.2 (Nat.two_pow_pos k)
  have := Rat.mul_le_mul_of_nonneg_left h2 (Rat.le_of_lt h1)
  have e : ((1 : Nat) : Rat) = 1 := rfl
  rw [e] at this
  grind
theorem mval_form' {r : Nat} (h : r < 9218868437227405312) : ∃ m k, mval r = m * 2 ^ k ∧ m < 9007199254740992 := by
  obtain ⟨m, k, e, hm, _⟩ := mval_split h
  exact ⟨m, k, e, hm⟩
/-- A FLOAT TIMES A POWER OF TWO: within half of the least float; exact, where it is not among the smallest. -/
theorem V.scale {f : Nat} {a : Rat} (hf : V f a) {n : Int} (h1 : -5000 ≤ n) (h2 : n ≤ 5000) (h : ab (a * pw n) ≤ BG) :
    ∃ c, V (scaleF f (clampN n)) c ∧ ab (c - a * pw n) ≤ et ∧ (0 ≤ n → c = a * pw n) ∧ (9007199254740992 * (2 * et) ≤ ab (a * pw n) → c = a * pw n) ∧ (4503599627370496 < rung (scaleF f (clampN n)) → c = a * pw n) := by
  have hU := UQ_pos
  have hep := et_pos
  have e0 : ab (0 : Rat) = 0 := by decide +kernel
  rw [clamp_id h1 h2]
  by_cases hz : rung f = 0
  · have hv := hf.form
    rw [hz, mval_zero] at hv
    have : ((0 : Nat) : Rat) / (U : Rat) = 0 := by grind
    rw [this] at hv
    have ha : a = 0 := by rw [hv]; cases sgn f <;> simp [sq]
    rw [scale_nought (fin_notN hf.fin) hz]
    subst ha
    refine ⟨0, hf, ?_, fun _ => by rw [Rat.zero_mul], fun _ => by rw [Rat.zero_mul], fun _ => by rw [Rat.zero_mul]⟩
    rw [Rat.zero_mul, show (0 : Rat) - 0 = 0 by decide +kernel, e0]
    exact Rat.le_of_lt hep
  · have hsz := hf.size
    have hab : ab (a * pw n) = (mval (rung f) : Rat) / (U : Rat) * pw n := by rw [ab_mul, hsz, ab_pos (Rat.le_of_lt (pw_pos n))]
    rw [hab] at h
    have hfr := fin_rung hf.fin
    have hsv := scale_val hf.lt hf.fin hz n
    have hform := hf.form
    by_cases hn : 0 ≤ n
    · obtain ⟨j, rfl⟩ := Int.eq_ofNat_of_zero_le hn
      rw [rndE_nat] at hsv
      rw [pw_nat] at h ⊢
      have hfin : rndN (mval (rung f) * 2 ^ j) < 9218868437227405312 := by
        refine rnd_fin (d := 0) ?_
        have e : ((2 ^ 0 : Nat) : Rat) = 1 := by decide +kernel
        rw [e, cast_mul]
        have k := Rat.mul_le_mul_of_nonneg_right h (Rat.le_of_lt hU)
        have k2 : (mval (rung f) : Rat) / (U : Rat) * ((2 ^ j : Nat) : Rat) * (U : Rat) = (mval (rung f) : Rat) * ((2 ^ j : Nat) : Rat) := by have := UQ_ne; grind
        rw [k2] at k
        grind
      obtain ⟨m, k, em, hm⟩ := mval_form' hfr
      have hex : mval (rndN (mval (rung f) * 2 ^ j)) = mval (rung f) * 2 ^ j := by
        have e1 : mval (rung f) * 2 ^ j = m * 2 ^ (k + j) := by rw [em, Nat.mul_assoc, Nat.pow_add]
        rw [e1] at hfin ⊢
        exact rnd_shift_exact hm hfin
      rw [hsv]
      have hc : a * ((2 ^ j : Nat) : Rat) = sq (sgn f) ((mval (rndN (mval (rung f) * 2 ^ j)) : Rat) / (U : Rat)) := by
        rw [hex, hform, cast_mul]
        cases sgn f <;> simp [sq] <;> grind
      refine ⟨_, V.word hfin, ?_, fun _ => hc.symm, fun _ => hc.symm, fun _ => hc.symm⟩
      rw [hc, show ∀ t : Rat, t - t = 0 by intro t; grind, e0]
      exact Rat.le_of_lt hep
    · obtain ⟨j, hj⟩ := Int.eq_ofNat_of_zero_le (a := -n) (by omega)
      obtain rfl : n = -(j : Int) := by omega
      have hpn := pw_negnat j
      have hD := pow_posQ j
      have hpp := pw_pos (-(j : Int))
      rw [rndE_neg] at hsv
      have hfin : rndQ (mval (rung f)) j < 9218868437227405312 := by
        refine rnd_fin ?_
        have k := Rat.mul_le_mul_of_nonneg_right h (Rat.le_of_lt hU)
        have k := Rat.mul_le_mul_of_nonneg_right k (Rat.le_of_lt hD)
        have k2 : (mval (rung f) : Rat) / (U : Rat) * pw (-(j : Int)) * (U : Rat) * ((2 ^ j : Nat) : Rat) = (mval (rung f) : Rat) := by
          have := UQ_ne
          generalize ((2 ^ j : Nat) : Rat) = D at *
          generalize pw (-(j : Int)) = p at *
          grind
        rw [k2] at k
        exact k
      have hexact : 4503599627370496 < rndQ (mval (rung f)) j → sq (sgn f) ((mval (rndQ (mval (rung f)) j) : Rat) / (U : Rat)) = a * pw (-(j : Int)) := by
        intro hb
        have hw : V (wd (sgn f) (rndQ (mval (rung f)) j)) _ := V.word hfin
        have hx := scale_exact (n := -(j : Int)) hf.lt hf.fin hz (by rw [clamp_id h1 h2, hsv]; exact hw.fin) (by rw [clamp_id h1 h2, hsv, wd_rung (Nat.le_of_lt hfin)]; exact hb)
        have h3 := hx.2.1 j rfl
        rw [clamp_id h1 h2, hsv] at h3
        have h4 := hw.val
        have h5 := hf.val
        unfold qv at h4 h5
        rw [← h4, ← h5, ← h3]
        have : ((sval (wd (sgn f) (rndQ (mval (rung f)) j)) * ((2 ^ j : Nat) : Int) : Int) : Rat) = (sval (wd (sgn f) (rndQ (mval (rung f)) j)) : Rat) * ((2 ^ j : Nat) : Rat) := by
          rw [Rat.intCast_mul]; rfl
        rw [this]
        generalize ((2 ^ j : Nat) : Rat) = D at *
        generalize pw (-(j : Int)) = p at *
        have := UQ_ne
        grind
      rw [hsv]
      refine ⟨_, V.word hfin, ?_⟩
      have hX : a * pw (-(j : Int)) = sq (sgn f) ((mval (rung f) : Rat) / (U : Rat) * pw (-(j : Int))) := by
        rw [hform]
        cases sgn f <;> simp [sq] <;> grind
      by_cases hb : 4503599627370496 < rndQ (mval (rung f)) j
      · have := hexact hb
        refine ⟨?_, fun _ => this, fun _ => this, fun _ => this⟩
        rw [this, show ∀ t : Rat, t - t = 0 by intro t; grind, e0]
        exact Rat.le_of_lt hep
      · rcases rnd_near (m := mval (rung f)) (d := j) rfl hfin with ⟨g1, g2⟩ | ⟨_, _, g3⟩
        · have g1 := cast_le.2 g1
          have g2 := cast_le.2 g2
          have hR : mval (rndQ (mval (rung f)) j) ≤ 4503599627370496 := by
            have := mval_le_iff.2 (Nat.le_of_not_lt hb)
            rw [show mval 4503599627370496 = 4503599627370496 by decide +kernel] at this
            exact this
          generalize eR : mval (rndQ (mval (rung f)) j) = R at *
          generalize mval (rung f) = M at *
          have g1 : 2 * (M : Rat) ≤ 2 * ((R : Rat) * ((2 ^ j : Nat) : Rat)) + ((2 ^ j : Nat) : Rat) := by simpa [cast_mul] using g1
          have g2 : 2 * ((R : Rat) * ((2 ^ j : Nat) : Rat)) ≤ 2 * (M : Rat) + ((2 ^ j : Nat) : Rat) := by simpa [cast_mul] using g2
          have hR := cast_le.2 hR
          have e9 : ((4503599627370496 : Nat) : Rat) = 4503599627370496 := rfl
          rw [e9] at hR
          have e8 : (M : Rat) / (U : Rat) * pw (-(j : Int)) * (((2 ^ j : Nat) : Rat) * (U : Rat)) = (M : Rat) := by
            have := UQ_ne
            generalize ((2 ^ j : Nat) : Rat) = D at *
            generalize pw (-(j : Int)) = p at *
            grind
          have e7 : (R : Rat) / (U : Rat) * (((2 ^ j : Nat) : Rat) * (U : Rat)) = (R : Rat) * ((2 ^ j : Nat) : Rat) := by have := UQ_ne; grind
          have e6 : et * (((2 ^ j : Nat) : Rat) * (U : Rat)) = ((2 ^ j : Nat) : Rat) / 2 := by have := et_U; grind
          have hDU : 0 < ((2 ^ j : Nat) : Rat) * (U : Rat) := Rat.mul_pos hD hU
          generalize ((2 ^ j : Nat) : Rat) = D at *
          refine ⟨?_, fun hj => ?_, fun hbig => ?_, fun hr5 => absurd (by rwa [wd_rung (Nat.le_of_lt hfin)] at hr5) hb⟩
          · rw [hX, sq_sub, sq_ab, ab_le]
            constructor
            · refine Rat.le_of_mul_le_mul_right (c := D * (U : Rat)) ?_ hDU
              have : ((R : Rat) / (U : Rat) - (M : Rat) / (U : Rat) * pw (-(j : Int))) * (D * (U : Rat)) = (R : Rat) * D - (M : Rat) := by rw [← e7]; grind
              rw [this]; grind
            · refine Rat.le_of_mul_le_mul_right (c := D * (U : Rat)) ?_ hDU
              have : ((R : Rat) / (U : Rat) - (M : Rat) / (U : Rat) * pw (-(j : Int))) * (D * (U : Rat)) = (R : Rat) * D - (M : Rat) := by rw [← e7]; grind
              rw [this]; grind
          · exact absurd hj hn
          · exfalso
            rw [hab] at hbig
            have k := Rat.mul_le_mul_of_nonneg_right hbig (Rat.le_of_lt hDU)
            rw [e8] at k
            have e5 : 9007199254740992 * (2 * et) * (D * (U : Rat)) = 9007199254740992 * D := by grind
            rw [e5] at k
            have := Rat.mul_le_mul_of_nonneg_right hR (Rat.le_of_lt hD)
            grind
        · omega
/-- the float below, the float above. -/
theorem mval_below {r : Nat} (h0 : 0 < r) : mval (r - 1) * 9007199254740992 ≤ mval r * 9007199254740991 := by
  by_cases h : r < 9007199254740992
  · have e1 := mval_plc (L := 0) (q := r) (by omega) (.inl rfl)
    have e2 := mval_plc (L := 0) (q := r - 1) (by omega) (.inl rfl)
    simp only [Nat.zero_mul, Nat.zero_add, Nat.pow_zero, Nat.mul_one] at e1 e2
    rw [e1, e2]
    omega
  · obtain ⟨L, hL⟩ : ∃ L, L = r / 4503599627370496 - 1 := ⟨_, rfl⟩
    obtain ⟨q, hq⟩ : ∃ q, q = r - L * 4503599627370496 := ⟨_, rfl⟩
    have hr : r = L * 4503599627370496 + q := by omega
    have b1 : 4503599627370496 ≤ q := by omega
    have b2 : q < 9007199254740992 := by omega
    have e1 := mval_plc (L := L) (q := q) (by omega) (.inr b1)
    have hp := Nat.two_pow_pos L
    by_cases hb : q = 4503599627370496
    · have e2 := mval_plc (L := L - 1) (q := 9007199254740991) (by omega) (.inr (by omega))
      rw [show (L - 1) * 4503599627370496 + 9007199254740991 = r - 1 by omega] at e2
      rw [hr, e1, ← hr, e2, hb]
      have e3 : 2 ^ L = 2 * 2 ^ (L - 1) := by rw [show L = L - 1 + 1 by omega, Nat.pow_succ, Nat.add_sub_cancel]; omega
      rw [e3]
      generalize 2 ^ (L - 1) = G at *
      omega
    · have e2 := mval_plc (L := L) (q := q - 1) (by omega) (.inr (by omega))
      rw [show L * 4503599627370496 + (q - 1) = r - 1 by omega] at e2
      rw [hr, e1, ← hr, e2]
      have e4 : (q - 1) * 9007199254740992 ≤ q * 9007199254740991 := by omega
      have := Nat.mul_le_mul_right (2 ^ L) e4
      grind
theorem mval_above (r : Nat) : mval r * 9007199254740993 ≤ mval (r + 1) * 9007199254740992 := by
  by_cases h : r < 9007199254740992
  · have e1 := mval_plc (L := 0) (q := r) (by omega) (.inl rfl)
    have e2 := mval_plc (L := 0) (q := r + 1) (by omega) (.inl rfl)
    simp only [Nat.zero_mul, Nat.zero_add, Nat.pow_zero, Nat.mul_one] at e1 e2
    rw [e1, e2]
    omega
  · obtain ⟨L, hL⟩ : ∃ L, L = r / 4503599627370496 - 1 := ⟨_, rfl⟩
    obtain ⟨q, hq⟩ : ∃ q, q = r - L * 4503599627370496 := ⟨_, rfl⟩
    have hr : r = L * 4503599627370496 + q := by omega
    have b1 : 4503599627370496 ≤ q := by omega
    have b2 : q < 9007199254740992 := by omega
    have e1 := mval_plc (L := L) (q := q) (by omega) (.inr b1)
    have e2 := mval_plc (L := L) (q := q + 1) (by omega) (.inr (by omega))
    rw [show L * 4503599627370496 + (q + 1) = r + 1 by omega] at e2
    rw [hr, e1, ← hr, e2]
    have e4 : q * 9007199254740993 ≤ (q + 1) * 9007199254740992 := by omega
    have := Nat.mul_le_mul_right (2 ^ L) e4
    grind
theorem below_q {r : Nat} (h0 : 0 < r) : (mval (r - 1) : Rat) ≤ (1 - uu) * (mval r : Rat) := by
  have := cast_le.2 (mval_below h0)
  rw [cast_mul, cast_mul] at this
  have e1 : ((9007199254740992 : Nat) : Rat) = 9007199254740992 := rfl
  have e2 : ((9007199254740991 : Nat) : Rat) = 9007199254740991 := rfl
  rw [e1, e2] at this
  unfold uu; grind
theorem above_q (r : Nat) : (1 + uu) * (mval r : Rat) ≤ (mval (r + 1) : Rat) := by
  have := cast_le.2 (mval_above r)
  rw [cast_mul, cast_mul] at this
  have e1 : ((9007199254740992 : Nat) : Rat) = 9007199254740992 := rfl
  have e2 : ((9007199254740993 : Nat) : Rat) = 9007199254740993 := rfl
  rw [e1, e2] at this
  unfold uu; grind
theorem below4_q (r : Nat) : (mval (r - 4) : Rat) ≤ (1 - 39 / 10 * uu) * (mval r : Rat) ∧ (r ≤ 4503599627370496 → mval (r - 4) = r - 4) := by
  constructor
  · by_cases h : 4 ≤ r
    · have h1 := below_q (r := r) (by omega)
      have h2 := below_q (r := r - 1) (by omega)
      have h3 := below_q (r := r - 1 - 1) (by omega)
      have h4 := below_q (r := r - 1 - 1 - 1) (by omega)
      rw [show r - 1 - 1 - 1 - 1 = r - 4 by omega] at h4
      have := cast_nn (mval r)
      unfold uu at *
      grind
    · rw [show r - 4 = 0 by omega, mval_zero]
      have e : ((0 : Nat) : Rat) = 0 := rfl
      rw [e]
      exact mul_nn (by unfold uu; decide +kernel) (cast_nn _)
  · intro h
    have e2 := mval_plc (L := 0) (q := r - 4) (by omega) (.inl rfl)
    simpa using e2
theorem above4_q (r : Nat) : (1 + 4 * uu) * (mval r : Rat) ≤ (mval (r + 4) : Rat) := by
  have h1 := above_q r
  have h2 := above_q (r + 1)
  have h3 := above_q (r + 1 + 1)
  have h4 := above_q (r + 1 + 1 + 1)
  have := cast_nn (mval r)
  unfold uu at *
  grind
theorem mval_small {r : Nat} (h : r ≤ 4503599627370496) : mval r = r := by
  have e2 := mval_plc (L := 0) (q := r) (by omega) (.inl rfl)
  simpa using e2
/-- the parts of a float: a number from 1/2 to below 1, times a power of two. -/
theorem V.parts {f : Nat} {a : Rat} (hf : V f a) (h0 : a ≠ 0) : 1 / 2 ≤ ab a * pw (-partE f) ∧ ab a * pw (-partE f) < 1 ∧ -1100 ≤ partE f ∧ partE f ≤ 1024 := by
  have hr0 := hf.nz h0
  have hfr := fin_rung hf.fin
  obtain ⟨r, n, hp, h1, h2⟩ := parts_exist (s := sgn f) (Nat.pos_of_ne_zero hr0) hfr
  obtain ⟨_, e2⟩ := parts_end hf.lt hf.fin hr0 hp h1 h2
  rw [e2, hf.size]
  have m1 := mval_le_iff.2 h1
  have m2 := mval_lt_iff.2 h2
  rw [mval_one] at m2
  have m3 := mval_half
  have hU := UQ_pos
  have q1 : 1 / 2 ≤ (mval r : Rat) / (U : Rat) := by
    rw [le_div hU]
    have : U ≤ 2 * mval r := by omega
    have := cast_le.2 this
    rw [cast_mul] at this
    have e : ((2 : Nat) : Rat) = 2 := rfl
    rw [e] at this
    grind
  have q2 : (mval r : Rat) / (U : Rat) < 1 := by
    have : (mval r : Rat) < (U : Rat) := by exact_mod_cast m2
    have h3 := div_self_mul (mval r : Rat) UQ_ne
    rcases Rat.le_total (a := 1) (b := (mval r : Rat) / (U : Rat)) with k | k
    · have := Rat.mul_le_mul_of_nonneg_right k (Rat.le_of_lt hU); grind
    · by_cases e : (mval r : Rat) / (U : Rat) = 1
      · rw [e] at h3; grind
      · grind
  rcases hp with ⟨k, rfl, hk, hk2⟩ | ⟨j, rfl, hj⟩
  · have e3 : mval (rung f) = mval r * 2 ^ k := by rw [← hk]; exact mval_up k (by omega)
    have e4 := pw_negnat k
    have e5 : (mval (rung f) : Rat) / (U : Rat) * pw (-(k : Int)) = (mval r : Rat) / (U : Rat) := by
      rw [e3, cast_mul]
      generalize ((2 ^ k : Nat) : Rat) = D at *
      generalize pw (-(k : Int)) = p at *
      have := UQ_ne
      grind
    rw [e5]
    exact ⟨q1, q2, by omega, by omega⟩
  · have e3 : mval r = mval (rung f) * 2 ^ j := by rw [hj]; exact mval_dblN j _
    have e5 : (mval (rung f) : Rat) / (U : Rat) * pw (- -(j : Int)) = (mval r : Rat) / (U : Rat) := by
      rw [e3, cast_mul, show - -(j : Int) = (j : Int) by omega, pw_nat]
      have := UQ_ne
      grind
    rw [e5]
    refine ⟨q1, q2, ?_, by omega⟩
    have hpos := mval_pos (Nat.pos_of_ne_zero hr0)
    have h5 : 2 ^ j < U := by
      have : 1 * 2 ^ j ≤ mval (rung f) * 2 ^ j := Nat.mul_le_mul_right _ hpos
      omega
    have h6 : j < e1 := by
      rw [U_def] at h5
      exact (Nat.pow_lt_pow_iff_right (by decide)).1 h5
    have := e1_eq
    omega
end Go.Proofs.Ytcfkhhnkboealaa
namespace Go.Proofs.Ytcfkhhnkboealaa
set_option linter.unusedVariables false
open Turns Sizes
/-- 2^-n. -/
def tw (n : Nat) : Rat := 1 / ((2 ^ n : Nat) : Rat)
theorem tw_pos (n : Nat) : 0 < tw n := by
  have h : (0 : Rat) < ((2 ^ n : Nat) : Rat) := by
    have h1 : ((1 : Nat) : Rat) ≤ ((2 ^ n : Nat) : Rat) := cast_le.2 (Nat.two_pow_pos n)
    have e : ((1 : Nat) : Rat) = 1 := rfl
    grind
  have h2 : (0 : Rat) ≤ tw n := (le_div h).2 (by grind)
  have h3 : tw n * ((2 ^ n : Nat) : Rat) = 1 := div_self (by grind)
  rcases Rat.le_iff_lt_or_eq.1 h2 with k | k
  · exact k
  · rw [← k] at h3; grind
theorem tw_succ (n : Nat) : tw n = 2 * tw (n + 1) := by
  unfold tw
  rw [Nat.pow_succ, cast_mul]
  have e : ((2 : Nat) : Rat) = 2 := rfl
  have h1 : ((1 : Nat) : Rat) ≤ ((2 ^ n : Nat) : Rat) := cast_le.2 (Nat.two_pow_pos n)
  have e1 : ((1 : Nat) : Rat) = 1 := rfl
  rw [e]
  grind
theorem tw_le {m n : Nat} (h : m ≤ n) : tw n ≤ tw m := by
  obtain ⟨k, rfl⟩ := Nat.exists_eq_add_of_le h
  induction k with
  | zero => exact Rat.le_refl
  | succ k ih =>
    have := ih (by omega)
    have e := tw_succ (m + k)
    have := tw_pos (m + k + 1)
    grind
/-- THE EXPONENTIAL as the law makes it: without rounding. -/
def XX (a : Rat) : Rat := sqr 16 (TT (a * tw 16) 60)
theorem rl_of {x y d : Rat} (hy : 1 / 2 ≤ y) (h : ab (x - y) ≤ d) (hd : 0 ≤ d) : Rl x y (2 * d) := by
  refine ⟨?_, by grind⟩
  have := Rat.mul_le_mul_of_nonneg_left hy hd
  grind
theorem ee_32 : 2 * ee (1 / 64 + 1 / 64 : Rat) 61 ≤ tw 580 := by decide +kernel
theorem three16 : ((3 ^ 16 : Nat) : Rat) * (2 * tw 580) ≤ tw 553 ∧ ((3 ^ 16 : Nat) : Rat) * (2 * tw 580) ≤ 1 := by decide +kernel
theorem arg16 {a : Rat} (h : ab a ≤ 1024) : ab (a * tw 16) ≤ 1 / 64 := by
  rw [ab_mul, show ab (tw 16) = 1 / 65536 by decide +kernel]
  grind
theorem XX_pos {a : Rat} (h : ab a ≤ 1024) : 0 < XX a := by
  apply sqr_pos
  have b := TT_small (show ab (a * tw 16) ≤ 1 by have := arg16 h; grind) 60
  have := arg16 h
  rw [ab_le] at b; grind
theorem XX_add {a b : Rat} (ha : ab a ≤ 1024) (hb : ab b ≤ 1024) : Rl (XX a * XX b) (XX (a + b)) (tw 553) := by
  unfold XX
  rw [← sqr_mul]
  have h1 := arg16 ha
  have h2 := arg16 hb
  have hn := TT_near (a * tw 16) (b * tw 16) (a := 1 / 64) (b := 1 / 64) (n := 60) h1 h2 (by decide +kernel)
  have e : a * tw 16 + b * tw 16 = (a + b) * tw 16 := by grind
  rw [e] at hn
  have h3 : ab ((a + b) * tw 16) ≤ 1 / 32 := by rw [← e]; have := ab_add (a * tw 16) (b * tw 16); grind
  have bs := TT_small (show ab ((a + b) * tw 16) ≤ 1 by grind) 60
  have hT : 1 / 2 ≤ TT ((a + b) * tw 16) 60 := by rw [ab_le] at bs; grind
  have r := rl_of hT (Rat.le_trans hn ee_32) (Rat.le_of_lt (tw_pos _))
  have t0 := tw_pos 580
  exact rl_mono (rl_sqr r (by grind) 16 three16.2) three16.1
theorem XX_zero : XX 0 = 1 := by decide +kernel
theorem ee_34 : 2 * ee (3 / 8 + 3 / 8 : Rat) 61 ≤ tw 300 := by decide +kernel
theorem dbl_near {x : Rat} (h : ab x ≤ 3 / 8) : Rl (TT x 60 * TT x 60) (TT (2 * x) 60) (20 * tw 300) := by
  have hn := TT_near x x (a := 3 / 8) (b := 3 / 8) (n := 60) h h (by decide +kernel)
  rw [show x + x = 2 * x by grind] at hn
  have hn := Rat.le_trans hn ee_34
  have hn : ab (TT x 60 * TT x 60 - TT (2 * x) 60) ≤ tw 300 := hn
  have b := TT_small (show ab x ≤ 1 by grind) 60
  have t0 := tw_pos 300
  have t1 : tw 300 ≤ 1 / 1000 := by decide +kernel
  have hx : 1 / 4 ≤ TT x 60 := by rw [ab_le] at b; grind
  have hxx := mul_mono (show (0 : Rat) ≤ 1 / 4 by decide +kernel) hx (show (0 : Rat) ≤ 1 / 4 by decide +kernel) hx
  have hT : 1 / 20 ≤ TT (2 * x) 60 := by
    rw [ab_le] at hn
    have e : (1 / 4 : Rat) * (1 / 4) = 1 / 16 := by decide +kernel
    rw [e] at hxx; grind
  refine ⟨?_, by grind⟩
  have : tw 300 ≤ 20 * tw 300 * TT (2 * x) 60 := by
    have := Rat.mul_le_mul_of_nonneg_left hT (show 0 ≤ 20 * tw 300 by grind)
    grind
  grind
/-- near to the plain sum, up to 3/4. -/
theorem XX_TT_aux {r : Rat} (h : ab r ≤ 3 / 4) : ∀ k : Nat, k ≤ 16 → Rl (sqr k (TT (r * tw k) 60)) (TT r 60) ((k : Rat) * tw 268)
  | 0, _ => by
    have e : r * tw 0 = r := by rw [show tw 0 = 1 by decide +kernel]; grind
    rw [e]
    have z : ((0 : Nat) : Rat) * tw 268 = 0 := by rw [show ((0 : Nat) : Rat) = 0 from rfl]; grind
    rw [z]
    refine rl_refl ?_
    show 0 < TT r 60
    -- a sum of a number from -3/4 on is above nought
    have hh : ab (r / 2) ≤ 3 / 8 := by rw [ab_div, show ab 2 = 2 by decide +kernel]; grind
    have := (dbl_near hh).2
    rwa [show 2 * (r / 2) = r by grind] at this
  | k + 1, hk => by
    have ih := XX_TT_aux h k (by omega)
    have hx : ab (r * tw (k + 1)) ≤ 3 / 8 := by
      have t1 := tw_le (show 1 ≤ k + 1 by omega)
      have e1 : tw 1 = 1 / 2 := by decide +kernel
      rw [ab_mul, ab_pos (Rat.le_of_lt (tw_pos _))]
      have := mul_mono (ab_nn r) h (Rat.le_of_lt (tw_pos (k + 1))) t1
      rw [e1] at this; grind
    have d := dbl_near hx
    rw [show 2 * (r * tw (k + 1)) = r * tw k by rw [tw_succ k]; grind] at d
    have h3 : ((3 ^ k : Nat) : Rat) * (20 * tw 300) ≤ ((3 ^ 16 : Nat) : Rat) * (20 * tw 300) :=
      Rat.mul_le_mul_of_nonneg_right (cast_le.2 (Nat.pow_le_pow_right (by decide) (by omega))) (by have := tw_pos 300; grind)
    have h4 : ((3 ^ 16 : Nat) : Rat) * (20 * tw 300) ≤ tw 269 := by decide +kernel
    have h5 : tw 269 ≤ 1 := by decide +kernel
    have q := rl_sqr d (by have := tw_pos 300; grind) k (by grind)
    have e2 : sqr (k + 1) (TT (r * tw (k + 1)) 60) = sqr k (TT (r * tw (k + 1)) 60 * TT (r * tw (k + 1)) 60) := by
      rw [sqr_mul]; rfl
    rw [e2]
    have q2 := rl_mono q (show _ ≤ tw 269 by grind)
    have t2 := rl_trans q2 ih (Rat.le_of_lt (tw_pos _))
    refine rl_mono t2 ?_
    rw [natQ_succ]
    have k16 : (k : Rat) ≤ 16 := cast_le.2 (show k ≤ 16 by omega)
    have e3 : tw 268 = 2 * tw 269 := tw_succ 268
    have p := tw_pos 269
    have k0 := cast_nn k
    have p2 : tw 269 ≤ 1 / 1000 := by decide +kernel
    have m := mul_mono (Rat.le_of_lt p) p2 (mul_nn k0 (Rat.le_of_lt p)) (Rat.mul_le_mul_of_nonneg_right k16 (Rat.le_of_lt p))
    rw [e3]; grind
theorem XX_TT {r : Rat} (h : ab r ≤ 3 / 4) : Rl (XX r) (TT r 60) (tw 260) := by
  have h1 := XX_TT_aux h 16 (by omega)
  refine rl_mono h1 ?_
  decide +kernel
/-- the logarithm of 2, in two floats' worth. -/
def L2 : Rat := 5954088942 / 8589934592 + 7382048951581814 / 38685626227668133590597632
theorem tw_pw (n : Nat) : tw n = pw (-(n : Int)) := by
  have h := pw_negnat n
  have h2 := pow_neQ n
  unfold tw
  grind
theorem L2_small : ab L2 ≤ 3 / 4 ∧ ab (-L2) ≤ 3 / 4 := by decide +kernel
theorem TT_L2 : ab (TT L2 60 - 2) ≤ tw 85 ∧ ab (TT (-L2) 60 - 1 / 2) ≤ tw 85 := by decide +kernel
theorem XX_L2 : Rl (XX L2) 2 (tw 83) ∧ Rl (XX (-L2)) (1 / 2) (tw 83) := by
  have a := XX_TT L2_small.1
  have b := XX_TT L2_small.2
  have t := tw_pos 85
  have r1 := rl_of (x := TT L2 60) (y := 2) (by decide +kernel) TT_L2.1 (Rat.le_of_lt t)
  have r2 := rl_of (x := TT (-L2) 60) (y := 1 / 2) (by decide +kernel) TT_L2.2 (Rat.le_of_lt t)
  have t2 := Rat.le_of_lt (tw_pos 260)
  have h : tw 260 + 2 * tw 85 + tw 260 * (2 * tw 85) ≤ tw 83 := by decide +kernel
  exact ⟨rl_mono (rl_trans a r1 t2) h, rl_mono (rl_trans b r2 t2) h⟩
theorem XX_mult {c z : Rat} (hc : ab c ≤ 3 / 4) (hz : Rl (XX c) z (tw 83)) (p : Nat → Rat) (p0 : p 0 = 1) (ps : ∀ n, p (n + 1) = p n * z) : ∀ n : Nat, n ≤ 1200 → Rl (XX ((n : Rat) * c)) (p n) ((n : Rat) * tw 82)
  | 0, _ => by
    have z0 : ((0 : Nat) : Rat) = 0 := rfl
    rw [z0, Rat.zero_mul, Rat.zero_mul, XX_zero, p0]
    exact rl_refl (by decide +kernel)
  | n + 1, hn => by
    have ih := XX_mult hc hz p p0 ps n (by omega)
    have n12 : (n : Rat) ≤ 1200 := cast_le.2 (show n ≤ 1200 by omega)
    have n0 := cast_nn n
    have ha : ab ((n : Rat) * c) ≤ 1024 := by
      rw [ab_mul, ab_pos n0]
      have := mul_mono n0 n12 (ab_nn c) hc
      grind
    have add := rl_symm (XX_add ha (show ab c ≤ 1024 by grind)) (by decide +kernel)
    rw [show (n : Rat) * c + c = ((n + 1 : Nat) : Rat) * c by rw [natQ_succ]; grind] at add
    have t83 := Rat.le_of_lt (tw_pos 83)
    have t82 := tw_pos 82
    have hnt : 0 ≤ (n : Rat) * tw 82 := mul_nn n0 (Rat.le_of_lt t82)
    have m := rl_mul ih hz hnt t83
    rw [← ps] at m
    have t := rl_trans add m (by have := tw_pos 553; grind)
    refine rl_mono t ?_
    have e82 : tw 82 = 2 * tw 83 := tw_succ 82
    have h553 : tw 553 ≤ 1 / 1000 * tw 83 := by decide +kernel
    have hm : (n : Rat) * tw 82 ≤ 1 / 1000000 := by
      have := Rat.mul_le_mul_of_nonneg_right n12 (Rat.le_of_lt t82)
      have h : 1200 * tw 82 ≤ 1 / 1000000 := by decide +kernel
      grind
    have p553 := tw_pos 553
    have q1 := Rat.mul_le_mul_of_nonneg_right hm t83
    have q2 : 2 * tw 553 * ((n : Rat) * tw 82 + tw 83 + (n : Rat) * tw 82 * tw 83) ≤ 2 * tw 553 * 1 := by
      apply Rat.mul_le_mul_of_nonneg_left _ (by grind)
      have h83 : tw 83 ≤ 1 / 1000 := by decide +kernel
      grind
    rw [natQ_succ, show ((n : Rat) + 1) * tw 82 = (n : Rat) * tw 82 + tw 82 by grind]
    clear t m add ih ha n12 n0
    generalize (n : Rat) * tw 82 = nt at *
    generalize tw 553 = a at *
    generalize tw 82 = b at *
    generalize tw 83 = c at *
    generalize nt * c = d at *
    grind
/-- of whole multiples of the logarithm of 2. -/
theorem XX_pow2 {n : Int} (h1 : -1200 ≤ n) (h2 : n ≤ 1200) : Rl (XX ((n : Rat) * L2)) (pw n) (tw 71) := by
  have fin : ∀ k : Nat, k ≤ 1200 → (k : Rat) * tw 82 ≤ tw 71 := by
    intro k hk
    have := Rat.mul_le_mul_of_nonneg_right (cast_le.2 hk) (Rat.le_of_lt (tw_pos 82))
    have h : ((1200 : Nat) : Rat) * tw 82 ≤ tw 71 := by decide +kernel
    exact Rat.le_trans this h
  rcases Int.le_total 0 n with h | h
  · obtain ⟨k, rfl⟩ := Int.eq_ofNat_of_zero_le h
    have r := XX_mult L2_small.1 XX_L2.1 (fun k => pw (k : Int)) pw_zero (fun k => by
      show pw ((k + 1 : Nat) : Int) = pw (k : Int) * 2
      rw [← pw_one, ← pw_add]; congr 1) k (by omega)
    exact rl_mono r (fin k (by omega))
  · obtain ⟨k, hk⟩ := Int.eq_ofNat_of_zero_le (a := -n) (by omega)
    obtain rfl : n = -(k : Int) := by omega
    have r := XX_mult L2_small.2 XX_L2.2 (fun k => pw (-(k : Int))) (by show pw (-((0 : Nat) : Int)) = 1; decide +kernel) (fun k => by
      show pw (-((k + 1 : Nat) : Int)) = pw (-(k : Int)) * (1 / 2)
      rw [show (1 / 2 : Rat) = pw (-1) by decide +kernel, ← pw_add]; congr 1; omega) k (by omega)
    have e : ((-(k : Int) : Int) : Rat) * L2 = (k : Rat) * -L2 := by rw [Rat.intCast_neg, icast]; grind
    rw [e]
    exact rl_mono r (fin k (by omega))
/-- THE EXPONENTIAL by its parts. -/
theorem XX_parts {n : Int} {p : Rat} (h1 : -1200 ≤ n) (h2 : n ≤ 1200) (hp : ab p ≤ 3 / 4) : Rl (XX ((n : Rat) * L2 + p)) (pw n * TT p 60) (tw 70) := by
  have hn : ab ((n : Rat) * L2) ≤ 1024 := by
    rw [ab_mul]
    have a : ab (n : Rat) ≤ 1200 := by
      rw [ab_le]
      have b1 := cast_le'.2 h1
      have b2 := cast_le'.2 h2
      have e1 : ((-1200 : Int) : Rat) = -1200 := rfl
      have e2 : ((1200 : Int) : Rat) = 1200 := rfl
      rw [e1] at b1
      rw [e2] at b2
      exact ⟨b1, b2⟩
    have := mul_mono (ab_nn (n : Rat)) a (ab_nn L2) L2_small.1
    grind
  have add := rl_symm (XX_add hn (show ab p ≤ 1024 by grind)) (by decide +kernel)
  have m := rl_mul (XX_pow2 h1 h2) (XX_TT hp) (Rat.le_of_lt (tw_pos 71)) (Rat.le_of_lt (tw_pos 260))
  have t := rl_trans add m (by have := tw_pos 553; grind)
  refine rl_mono t ?_
  decide +kernel
end Go.Proofs.Ytcfkhhnkboealaa
