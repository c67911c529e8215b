/- Floats times powers of two, the floats beside a float, the parts of a float: as fractions. No text of the program. -/
import Derived.Test.YtcfkhhnkboealaaQv
import Derived.Test.YtcfkhhnkboealaaLos
namespace Go.Proofs.Ytcfkhhnkboealaa
set_option linter.unusedVariables false
set_option linter.unusedSimpArgs false
set_option maxRecDepth 100000
/-- a power of two. -/
def pw (n : Int) : Rat := ((2 ^ n.toNat : Nat) : Rat) / ((2 ^ (-n).toNat : Nat) : Rat)
theorem pow_neQ (d : Nat) : ((2 ^ d : Nat) : Rat) ≠ 0 := by have := pow_posQ d; grind
theorem pow_addQ (a b : Nat) : ((2 ^ (a + b) : Nat) : Rat) = ((2 ^ a : Nat) : Rat) * ((2 ^ b : Nat) : Rat) := by rw [Nat.pow_add, cast_mul]
theorem pw_sub (i j : Nat) : pw ((i : Int) - (j : Int)) = ((2 ^ i : Nat) : Rat) / ((2 ^ j : Nat) : Rat) := by
  unfold pw
  rcases Nat.le_total i j with h | h
  · obtain ⟨k, rfl⟩ := Nat.exists_eq_add_of_le h
    rw [show ((i : Int) - ((i + k : Nat) : Int)).toNat = 0 by omega, show (-((i : Int) - ((i + k : Nat) : Int))).toNat = k by omega, pow_addQ]
    have e : ((2 ^ 0 : Nat) : Rat) = 1 := by decide +kernel
    have h1 := pow_neQ i
    have h2 := pow_neQ k
    rw [e]
    grind
  · obtain ⟨k, rfl⟩ := Nat.exists_eq_add_of_le h
    rw [show (((j + k : Nat) : Int) - (j : Int)).toNat = k by omega, show (-(((j + k : Nat) : Int) - (j : Int))).toNat = 0 by omega, pow_addQ]
    have e : ((2 ^ 0 : Nat) : Rat) = 1 := by decide +kernel
    have h1 := pow_neQ j
    have h2 := pow_neQ k
    rw [e]
    grind
theorem int_sub (n : Int) : ∃ i j : Nat, n = (i : Int) - (j : Int) := ⟨n.toNat, (-n).toNat, by omega⟩
theorem pw_add (a b : Int) : pw (a + b) = pw a * pw b := by
  obtain ⟨i, j, rfl⟩ := int_sub a
  obtain ⟨k, l, rfl⟩ := int_sub b
  rw [show (i : Int) - (j : Int) + ((k : Int) - (l : Int)) = ((i + k : Nat) : Int) - ((j + l : Nat) : Int) by omega, pw_sub, pw_sub, pw_sub, pow_addQ, pow_addQ]
  have h1 := pow_neQ i
  have h2 := pow_neQ j
  have h3 := pow_neQ k
  have h4 := pow_neQ l
  grind
theorem pw_pos (n : Int) : 0 < pw n := by
  obtain ⟨i, j, rfl⟩ := int_sub n
  rw [pw_sub]
  have h1 := pow_posQ i
  have h2 := pow_posQ j
  have : (0 : Rat) ≤ ((2 ^ i : Nat) : Rat) / ((2 ^ j : Nat) : Rat) := (le_div h2).2 (by grind)
  have e := div_self_mul ((2 ^ i : Nat) : Rat) (pow_neQ j)
  rcases Rat.le_iff_lt_or_eq.1 this with h | h
  · exact h
  · rw [← h] at e; grind
theorem pw_zero : pw 0 = 1 := by decide +kernel
theorem pw_one : pw 1 = 2 := by decide +kernel
theorem pw_neg (n : Int) : pw n * pw (-n) = 1 := by rw [← pw_add, show n + -n = 0 by omega, pw_zero]
theorem pw_nat (j : Nat) : pw (j : Int) = ((2 ^ j : Nat) : Rat) := by
  have := pw_sub j 0
  rw [show (j : Int) - ((0 : Nat) : Int) = (j : Int) by omega] at this
  rw [this]
  have e : ((2 ^ 0 : Nat) : Rat) = 1 := by decide +kernel
  rw [e]; grind
theorem pw_negnat (j : Nat) : pw (-(j : Int)) * ((2 ^ j : Nat) : Rat) = 1 := by
  have := pw_neg (-(j : Int))
  rw [show - -(j : Int) = (j : Int) by omega, pw_nat] at this
  exact this
theorem pw_mono {a b : Int} (h : a ≤ b) : pw a ≤ pw b := by
  obtain ⟨k, hk⟩ := Int.eq_ofNat_of_zero_le (a := b - a) (by omega)
  rw [show b = a + (k : Int) by omega, pw_add, pw_nat]
  have h1 := pw_pos a
  have h2 : ((1 : Nat) : Rat) ≤ ((2 ^ k : Nat) : Rat) := cast_le.2 (Nat.two_pow_pos k)
  have := Rat.mul_le_mul_of_nonneg_left h2 (Rat.le_of_lt h1)
  have e : ((1 : Nat) : Rat) = 1 := rfl
  rw [e] at this
  grind
theorem mval_form' {r : Nat} (h : r < 9218868437227405312) : ∃ m k, mval r = m * 2 ^ k ∧ m < 9007199254740992 := by
  obtain ⟨m, k, e, hm, _⟩ := mval_split h
  exact ⟨m, k, e, hm⟩
/-- A FLOAT TIMES A POWER OF TWO: within half of the least float; exact, where it is not among the smallest. -/
theorem V.scale {f : Nat} {a : Rat} (hf : V f a) {n : Int} (h1 : -5000 ≤ n) (h2 : n ≤ 5000) (h : ab (a * pw n) ≤ BG) :
    ∃ c, V (scaleF f (clampN n)) c ∧ ab (c - a * pw n) ≤ et ∧ (0 ≤ n → c = a * pw n) ∧ (9007199254740992 * (2 * et) ≤ ab (a * pw n) → c = a * pw n) ∧ (4503599627370496 < rung (scaleF f (clampN n)) → c = a * pw n) := by
  have hU := UQ_pos
  have hep := et_pos
  have e0 : ab (0 : Rat) = 0 := by decide +kernel
  rw [clamp_id h1 h2]
  by_cases hz : rung f = 0
  · have hv := hf.form
    rw [hz, mval_zero] at hv
    have : ((0 : Nat) : Rat) / (U : Rat) = 0 := by grind
    rw [this] at hv
    have ha : a = 0 := by rw [hv]; cases sgn f <;> simp [sq]
    rw [scale_nought (fin_notN hf.fin) hz]
    subst ha
    refine ⟨0, hf, ?_, fun _ => by rw [Rat.zero_mul], fun _ => by rw [Rat.zero_mul], fun _ => by rw [Rat.zero_mul]⟩
    rw [Rat.zero_mul, show (0 : Rat) - 0 = 0 by decide +kernel, e0]
    exact Rat.le_of_lt hep
  · have hsz := hf.size
    have hab : ab (a * pw n) = (mval (rung f) : Rat) / (U : Rat) * pw n := by rw [ab_mul, hsz, ab_pos (Rat.le_of_lt (pw_pos n))]
    rw [hab] at h
    have hfr := fin_rung hf.fin
    have hsv := scale_val hf.lt hf.fin hz n
    have hform := hf.form
    by_cases hn : 0 ≤ n
    · obtain ⟨j, rfl⟩ := Int.eq_ofNat_of_zero_le hn
      rw [rndE_nat] at hsv
      rw [pw_nat] at h ⊢
      have hfin : rndN (mval (rung f) * 2 ^ j) < 9218868437227405312 := by
        refine rnd_fin (d := 0) ?_
        have e : ((2 ^ 0 : Nat) : Rat) = 1 := by decide +kernel
        rw [e, cast_mul]
        have k := Rat.mul_le_mul_of_nonneg_right h (Rat.le_of_lt hU)
        have k2 : (mval (rung f) : Rat) / (U : Rat) * ((2 ^ j : Nat) : Rat) * (U : Rat) = (mval (rung f) : Rat) * ((2 ^ j : Nat) : Rat) := by have := UQ_ne; grind
        rw [k2] at k
        grind
      obtain ⟨m, k, em, hm⟩ := mval_form' hfr
      have hex : mval (rndN (mval (rung f) * 2 ^ j)) = mval (rung f) * 2 ^ j := by
        have e1 : mval (rung f) * 2 ^ j = m * 2 ^ (k + j) := by rw [em, Nat.mul_assoc, Nat.pow_add]
        rw [e1] at hfin ⊢
        exact rnd_shift_exact hm hfin
      rw [hsv]
      have hc : a * ((2 ^ j : Nat) : Rat) = sq (sgn f) ((mval (rndN (mval (rung f) * 2 ^ j)) : Rat) / (U : Rat)) := by
        rw [hex, hform, cast_mul]
        cases sgn f <;> simp [sq] <;> grind
      refine ⟨_, V.word hfin, ?_, fun _ => hc.symm, fun _ => hc.symm, fun _ => hc.symm⟩
      rw [hc, show ∀ t : Rat, t - t = 0 by intro t; grind, e0]
      exact Rat.le_of_lt hep
    · obtain ⟨j, hj⟩ := Int.eq_ofNat_of_zero_le (a := -n) (by omega)
      obtain rfl : n = -(j : Int) := by omega
      have hpn := pw_negnat j
      have hD := pow_posQ j
      have hpp := pw_pos (-(j : Int))
      rw [rndE_neg] at hsv
      have hfin : rndQ (mval (rung f)) j < 9218868437227405312 := by
        refine rnd_fin ?_
        have k := Rat.mul_le_mul_of_nonneg_right h (Rat.le_of_lt hU)
        have k := Rat.mul_le_mul_of_nonneg_right k (Rat.le_of_lt hD)
        have k2 : (mval (rung f) : Rat) / (U : Rat) * pw (-(j : Int)) * (U : Rat) * ((2 ^ j : Nat) : Rat) = (mval (rung f) : Rat) := by
          have := UQ_ne
          generalize ((2 ^ j : Nat) : Rat) = D at *
          generalize pw (-(j : Int)) = p at *
          grind
        rw [k2] at k
        exact k
      have hexact : 4503599627370496 < rndQ (mval (rung f)) j → sq (sgn f) ((mval (rndQ (mval (rung f)) j) : Rat) / (U : Rat)) = a * pw (-(j : Int)) := by
        intro hb
        have hw : V (wd (sgn f) (rndQ (mval (rung f)) j)) _ := V.word hfin
        have hx := scale_exact (n := -(j : Int)) hf.lt hf.fin hz (by rw [clamp_id h1 h2, hsv]; exact hw.fin) (by rw [clamp_id h1 h2, hsv, wd_rung (Nat.le_of_lt hfin)]; exact hb)
        have h3 := hx.2.1 j rfl
        rw [clamp_id h1 h2, hsv] at h3
        have h4 := hw.val
        have h5 := hf.val
        unfold qv at h4 h5
        rw [← h4, ← h5, ← h3]
        have : ((sval (wd (sgn f) (rndQ (mval (rung f)) j)) * ((2 ^ j : Nat) : Int) : Int) : Rat) = (sval (wd (sgn f) (rndQ (mval (rung f)) j)) : Rat) * ((2 ^ j : Nat) : Rat) := by
          rw [Rat.intCast_mul]; rfl
        rw [this]
        generalize ((2 ^ j : Nat) : Rat) = D at *
        generalize pw (-(j : Int)) = p at *
        have := UQ_ne
        grind
      rw [hsv]
      refine ⟨_, V.word hfin, ?_⟩
      have hX : a * pw (-(j : Int)) = sq (sgn f) ((mval (rung f) : Rat) / (U : Rat) * pw (-(j : Int))) := by
        rw [hform]
        cases sgn f <;> simp [sq] <;> grind
      by_cases hb : 4503599627370496 < rndQ (mval (rung f)) j
      · have := hexact hb
        refine ⟨?_, fun _ => this, fun _ => this, fun _ => this⟩
        rw [this, show ∀ t : Rat, t - t = 0 by intro t; grind, e0]
        exact Rat.le_of_lt hep
      · rcases rnd_near (m := mval (rung f)) (d := j) rfl hfin with ⟨g1, g2⟩ | ⟨_, _, g3⟩
        · have g1 := cast_le.2 g1
          have g2 := cast_le.2 g2
          have hR : mval (rndQ (mval (rung f)) j) ≤ 4503599627370496 := by
            have := mval_le_iff.2 (Nat.le_of_not_lt hb)
            rw [show mval 4503599627370496 = 4503599627370496 by decide +kernel] at this
            exact this
          generalize eR : mval (rndQ (mval (rung f)) j) = R at *
          generalize mval (rung f) = M at *
          have g1 : 2 * (M : Rat) ≤ 2 * ((R : Rat) * ((2 ^ j : Nat) : Rat)) + ((2 ^ j : Nat) : Rat) := by simpa [cast_mul] using g1
          have g2 : 2 * ((R : Rat) * ((2 ^ j : Nat) : Rat)) ≤ 2 * (M : Rat) + ((2 ^ j : Nat) : Rat) := by simpa [cast_mul] using g2
          have hR := cast_le.2 hR
          have e9 : ((4503599627370496 : Nat) : Rat) = 4503599627370496 := rfl
          rw [e9] at hR
          have e8 : (M : Rat) / (U : Rat) * pw (-(j : Int)) * (((2 ^ j : Nat) : Rat) * (U : Rat)) = (M : Rat) := by
            have := UQ_ne
            generalize ((2 ^ j : Nat) : Rat) = D at *
            generalize pw (-(j : Int)) = p at *
            grind
          have e7 : (R : Rat) / (U : Rat) * (((2 ^ j : Nat) : Rat) * (U : Rat)) = (R : Rat) * ((2 ^ j : Nat) : Rat) := by have := UQ_ne; grind
          have e6 : et * (((2 ^ j : Nat) : Rat) * (U : Rat)) = ((2 ^ j : Nat) : Rat) / 2 := by have := et_U; grind
          have hDU : 0 < ((2 ^ j : Nat) : Rat) * (U : Rat) := Rat.mul_pos hD hU
          generalize ((2 ^ j : Nat) : Rat) = D at *
          refine ⟨?_, fun hj => ?_, fun hbig => ?_, fun hr5 => absurd (by rwa [wd_rung (Nat.le_of_lt hfin)] at hr5) hb⟩
          · rw [hX, sq_sub, sq_ab, ab_le]
            constructor
            · refine Rat.le_of_mul_le_mul_right (c := D * (U : Rat)) ?_ hDU
              have : ((R : Rat) / (U : Rat) - (M : Rat) / (U : Rat) * pw (-(j : Int))) * (D * (U : Rat)) = (R : Rat) * D - (M : Rat) := by rw [← e7]; grind
              rw [this]; grind
            · refine Rat.le_of_mul_le_mul_right (c := D * (U : Rat)) ?_ hDU
              have : ((R : Rat) / (U : Rat) - (M : Rat) / (U : Rat) * pw (-(j : Int))) * (D * (U : Rat)) = (R : Rat) * D - (M : Rat) := by rw [← e7]; grind
              rw [this]; grind
          · exact absurd hj hn
          · exfalso
            rw [hab] at hbig
            have k := Rat.mul_le_mul_of_nonneg_right hbig (Rat.le_of_lt hDU)
            rw [e8] at k
            have e5 : 9007199254740992 * (2 * et) * (D * (U : Rat)) = 9007199254740992 * D := by grind
            rw [e5] at k
            have := Rat.mul_le_mul_of_nonneg_right hR (Rat.le_of_lt hD)
            grind
        · omega
/-- the float below, the float above. -/
theorem mval_below {r : Nat} (h0 : 0 < r) : mval (r - 1) * 9007199254740992 ≤ mval r * 9007199254740991 := by
  by_cases h : r < 9007199254740992
  · have e1 := mval_plc (L := 0) (q := r) (by omega) (.inl rfl)
    have e2 := mval_plc (L := 0) (q := r - 1) (by omega) (.inl rfl)
    simp only [Nat.zero_mul, Nat.zero_add, Nat.pow_zero, Nat.mul_one] at e1 e2
    rw [e1, e2]
    omega
  · obtain ⟨L, hL⟩ : ∃ L, L = r / 4503599627370496 - 1 := ⟨_, rfl⟩
    obtain ⟨q, hq⟩ : ∃ q, q = r - L * 4503599627370496 := ⟨_, rfl⟩
    have hr : r = L * 4503599627370496 + q := by omega
    have b1 : 4503599627370496 ≤ q := by omega
    have b2 : q < 9007199254740992 := by omega
    have e1 := mval_plc (L := L) (q := q) (by omega) (.inr b1)
    have hp := Nat.two_pow_pos L
    by_cases hb : q = 4503599627370496
    · have e2 := mval_plc (L := L - 1) (q := 9007199254740991) (by omega) (.inr (by omega))
      rw [show (L - 1) * 4503599627370496 + 9007199254740991 = r - 1 by omega] at e2
      rw [hr, e1, ← hr, e2, hb]
      have e3 : 2 ^ L = 2 * 2 ^ (L - 1) := by rw [show L = L - 1 + 1 by omega, Nat.pow_succ, Nat.add_sub_cancel]; omega
      rw [e3]
      generalize 2 ^ (L - 1) = G at *
      omega
    · have e2 := mval_plc (L := L) (q := q - 1) (by omega) (.inr (by omega))
      rw [show L * 4503599627370496 + (q - 1) = r - 1 by omega] at e2
      rw [hr, e1, ← hr, e2]
      have e4 : (q - 1) * 9007199254740992 ≤ q * 9007199254740991 := by omega
      have := Nat.mul_le_mul_right (2 ^ L) e4
      grind
theorem mval_above (r : Nat) : mval r * 9007199254740993 ≤ mval (r + 1) * 9007199254740992 := by
  by_cases h : r < 9007199254740992
  · have e1 := mval_plc (L := 0) (q := r) (by omega) (.inl rfl)
    have e2 := mval_plc (L := 0) (q := r + 1) (by omega) (.inl rfl)
    simp only [Nat.zero_mul, Nat.zero_add, Nat.pow_zero, Nat.mul_one] at e1 e2
    rw [e1, e2]
    omega
  · obtain ⟨L, hL⟩ : ∃ L, L = r / 4503599627370496 - 1 := ⟨_, rfl⟩
    obtain ⟨q, hq⟩ : ∃ q, q = r - L * 4503599627370496 := ⟨_, rfl⟩
    have hr : r = L * 4503599627370496 + q := by omega
    have b1 : 4503599627370496 ≤ q := by omega
    have b2 : q < 9007199254740992 := by omega
    have e1 := mval_plc (L := L) (q := q) (by omega) (.inr b1)
    have e2 := mval_plc (L := L) (q := q + 1) (by omega) (.inr (by omega))
    rw [show L * 4503599627370496 + (q + 1) = r + 1 by omega] at e2
    rw [hr, e1, ← hr, e2]
    have e4 : q * 9007199254740993 ≤ (q + 1) * 9007199254740992 := by omega
    have := Nat.mul_le_mul_right (2 ^ L) e4
    grind
theorem below_q {r : Nat} (h0 : 0 < r) : (mval (r - 1) : Rat) ≤ (1 - uu) * (mval r : Rat) := by
  have := cast_le.2 (mval_below h0)
  rw [cast_mul, cast_mul] at this
  have e1 : ((9007199254740992 : Nat) : Rat) = 9007199254740992 := rfl
  have e2 : ((9007199254740991 : Nat) : Rat) = 9007199254740991 := rfl
  rw [e1, e2] at this
  unfold uu; grind
theorem above_q (r : Nat) : (1 + uu) * (mval r : Rat) ≤ (mval (r + 1) : Rat) := by
  have := cast_le.2 (mval_above r)
  rw [cast_mul, cast_mul] at this
  have e1 : ((9007199254740992 : Nat) : Rat) = 9007199254740992 := rfl
  have e2 : ((9007199254740993 : Nat) : Rat) = 9007199254740993 := rfl
  rw [e1, e2] at this
  unfold uu; grind
theorem below4_q (r : Nat) : (mval (r - 4) : Rat) ≤ (1 - 39 / 10 * uu) * (mval r : Rat) ∧ (r ≤ 4503599627370496 → mval (r - 4) = r - 4) := by
  constructor
  · by_cases h : 4 ≤ r
    · have h1 := below_q (r := r) (by omega)
      have h2 := below_q (r := r - 1) (by omega)
      have h3 := below_q (r := r - 1 - 1) (by omega)
      have h4 := below_q (r := r - 1 - 1 - 1) (by omega)
      rw [show r - 1 - 1 - 1 - 1 = r - 4 by omega] at h4
      have := cast_nn (mval r)
      unfold uu at *
      grind
    · rw [show r - 4 = 0 by omega, mval_zero]
      have e : ((0 : Nat) : Rat) = 0 := rfl
      rw [e]
      exact mul_nn (by unfold uu; decide +kernel) (cast_nn _)
  · intro h
    have e2 := mval_plc (L := 0) (q := r - 4) (by omega) (.inl rfl)
    simpa using e2
theorem above4_q (r : Nat) : (1 + 4 * uu) * (mval r : Rat) ≤ (mval (r + 4) : Rat) := by
  have h1 := above_q r
  have h2 := above_q (r + 1)
  have h3 := above_q (r + 1 + 1)
  have h4 := above_q (r + 1 + 1 + 1)
  have := cast_nn (mval r)
  unfold uu at *
  grind
theorem mval_small {r : Nat} (h : r ≤ 4503599627370496) : mval r = r := by
  have e2 := mval_plc (L := 0) (q := r) (by omega) (.inl rfl)
  simpa using e2
/-- the parts of a float: a number from 1/2 to below 1, times a power of two. -/
theorem V.parts {f : Nat} {a : Rat} (hf : V f a) (h0 : a ≠ 0) : 1 / 2 ≤ ab a * pw (-partE f) ∧ ab a * pw (-partE f) < 1 ∧ -1100 ≤ partE f ∧ partE f ≤ 1024 := by
  have hr0 := hf.nz h0
  have hfr := fin_rung hf.fin
  obtain ⟨r, n, hp, h1, h2⟩ := parts_exist (s := sgn f) (Nat.pos_of_ne_zero hr0) hfr
  obtain ⟨_, e2⟩ := parts_end hf.lt hf.fin hr0 hp h1 h2
  rw [e2, hf.size]
  have m1 := mval_le_iff.2 h1
  have m2 := mval_lt_iff.2 h2
  rw [mval_one] at m2
  have m3 := mval_half
  have hU := UQ_pos
  have q1 : 1 / 2 ≤ (mval r : Rat) / (U : Rat) := by
    rw [le_div hU]
    have : U ≤ 2 * mval r := by omega
    have := cast_le.2 this
    rw [cast_mul] at this
    have e : ((2 : Nat) : Rat) = 2 := rfl
    rw [e] at this
    grind
  have q2 : (mval r : Rat) / (U : Rat) < 1 := by
    have : (mval r : Rat) < (U : Rat) := by exact_mod_cast m2
    have h3 := div_self_mul (mval r : Rat) UQ_ne
    rcases Rat.le_total (a := 1) (b := (mval r : Rat) / (U : Rat)) with k | k
    · have := Rat.mul_le_mul_of_nonneg_right k (Rat.le_of_lt hU); grind
    · by_cases e : (mval r : Rat) / (U : Rat) = 1
      · rw [e] at h3; grind
      · grind
  rcases hp with ⟨k, rfl, hk, hk2⟩ | ⟨j, rfl, hj⟩
  · have e3 : mval (rung f) = mval r * 2 ^ k := by rw [← hk]; exact mval_up k (by omega)
    have e4 := pw_negnat k
    have e5 : (mval (rung f) : Rat) / (U : Rat) * pw (-(k : Int)) = (mval r : Rat) / (U : Rat) := by
      rw [e3, cast_mul]
      generalize ((2 ^ k : Nat) : Rat) = D at *
      generalize pw (-(k : Int)) = p at *
      have := UQ_ne
      grind
    rw [e5]
    exact ⟨q1, q2, by omega, by omega⟩
  · have e3 : mval r = mval (rung f) * 2 ^ j := by rw [hj]; exact mval_dblN j _
    have e5 : (mval (rung f) : Rat) / (U : Rat) * pw (- -(j : Int)) = (mval r : Rat) / (U : Rat) := by
      rw [e3, cast_mul, show - -(j : Int) = (j : Int) by omega, pw_nat]
      have := UQ_ne
      grind
    rw [e5]
    refine ⟨q1, q2, ?_, by omega⟩
    have hpos := mval_pos (Nat.pos_of_ne_zero hr0)
    have h5 : 2 ^ j < U := by
      have : 1 * 2 ^ j ≤ mval (rung f) * 2 ^ j := Nat.mul_le_mul_right _ hpos
      omega
    have h6 : j < e1 := by
      rw [U_def] at h5
      exact (Nat.pow_lt_pow_iff_right (by decide)).1 h5
    have := e1_eq
    omega
end Go.Proofs.Ytcfkhhnkboealaa
