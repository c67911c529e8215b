/- Halves and doubles of floats, by their rungs; the parts of a float. No condition. -/
import Derived.Test.YtndknkdfbjfjcaaDoorTurn
namespace Go.Proofs.YtndknkdfbjfjcaaDoor
set_option linter.unusedVariables false
set_option maxRecDepth 100000

/-- the rung of twice as much -/
def dbl (r : Nat) : Nat := if r < 4503599627370496 then 2 * r else r + 4503599627370496
def dblN : Nat → Nat → Nat
  | 0, r => r
  | k + 1, r => dbl (dblN k r)
theorem mval_dbl (r : Nat) : mval (dbl r) = 2 * mval r := by
  unfold dbl
  by_cases h : r < 4503599627370496
  · rw [if_pos h]
    unfold mval
    rw [if_pos h]
    by_cases h2 : 2 * r < 4503599627370496
    · rw [if_pos h2]
    · rw [if_neg h2, show 2 * r / 4503599627370496 - 1 = 0 by omega, show (2 : Nat) ^ 0 = 1 from rfl]
      omega
  · rw [if_neg h]
    unfold mval
    rw [if_neg h, if_neg (by omega)]
    have e1 : (r + 4503599627370496) / 4503599627370496 - 1 = (r / 4503599627370496 - 1) + 1 := by omega
    have e2 : (r + 4503599627370496) % 4503599627370496 = r % 4503599627370496 := by omega
    rw [e1, e2, Nat.pow_succ, ← Nat.mul_assoc, Nat.mul_comm]
theorem mval_dblN (k r : Nat) : mval (dblN k r) = mval r * 2 ^ k := by
  induction k with
  | zero => simp [dblN]
  | succ k ih =>
    rw [dblN, mval_dbl, ih, Nat.pow_succ]
    generalize 2 ^ k = p
    ac_rfl
theorem two_sval : ∃ k, k + 51 = 1074 ∧ mval (rung 4611686018427387904) = 4503599627370496 * 2 ^ k := by
  obtain ⟨c, hc⟩ : ∃ c, c = rung 4611686018427387904 := ⟨_, rfl⟩
  have hc2 : c = 4611686018427387904 := by rw [hc]; decide +kernel
  have h := mval_pow (c := c) (by omega) (by omega)
  obtain ⟨k, hk⟩ : ∃ k, k = c / 4503599627370496 - 1 := ⟨_, rfl⟩
  rw [← hk, hc] at h
  exact ⟨k, by omega, h⟩
/-- TWICE A FLOAT -/
theorem fmul_two {f : Nat} (hf : fin f = true) (h : dbl (rung f) < 9218868437227405312) : fmul f 4611686018427387904 = wd (sgn f) (dbl (rung f)) := by
  obtain ⟨c, hc, h2⟩ := two_sval
  have e : rndQ (mval (rung f) * (4503599627370496 * 2 ^ c)) 1074 = rndN (2 * mval (rung f)) := by
    rw [← hc]
    have e1 : mval (rung f) * (4503599627370496 * 2 ^ c) = 2 * mval (rung f) * 2 ^ (c + 51) := by
      rw [Nat.pow_add, show (2 : Nat) ^ 51 = 2251799813685248 by decide, show 4503599627370496 = 2 * 2251799813685248 by decide]
      generalize 2 ^ c = p
      generalize mval (rung f) = q
      generalize 2251799813685248 = z
      ac_rfl
    rw [e1, rndQ_cancel]
  rw [fmul_fin hf (by decide +kernel), h2, e, ← mval_dbl, rnd_mval h, show sgn 4611686018427387904 = false by decide +kernel, Bool.xor_false]
theorem fmul_two' {f : Nat} (hf : fin f = true) (h : dbl (rung f) < 9218868437227405312) : fmul 4611686018427387904 f = wd (sgn f) (dbl (rung f)) := by
  rw [fmul_fin (by decide +kernel) hf, Nat.mul_comm, ← Bool.xor_comm]
  rw [← fmul_fin hf (by decide +kernel)]
  exact fmul_two hf h
/-- HALF A FLOAT, where that is exact -/
theorem fdiv_two {f : Nat} (hf : fin f = true) (h : 9007199254740992 ≤ rung f) : fdiv f 4611686018427387904 = wd (sgn f) (rung f - 4503599627370496) := by
  have hr0 := fin_rung hf
  have hlow : rung f - 4503599627370496 < 9218868437227405312 := by omega
  have hd : mval (rung f) = 2 * mval (rung f - 4503599627370496) := by
    rw [← mval_dbl]; unfold dbl; rw [if_neg (by omega), Nat.sub_add_cancel (by omega)]
  obtain ⟨m, k, hr, hm, hmb, hk⟩ := read_number hr0
  have hm0 : m ≠ 0 := by
    intro h0; rw [h0, Nat.zero_mul] at hm; have := mval_pos (show 0 < rung f by omega); omega
  have h2 : Ieee.double.read 4611686018427387904 = .number false 4503599627370496 (-51) := by decide +kernel
  rw [div_def, hr, h2]
  have hfb : Ieee.double.fractionBits + 2 = 54 := rfl
  rw [hfb]
  have hl52 : Nat.log2 4503599627370496 = 52 := by decide +kernel
  have hlm : m.log2 ≤ 52 := by
    have := (Nat.log2_lt hm0 (k := 53)).2 (by omega); omega
  simp only [Ieee.Datum.quotient, hl52]
  rw [if_neg (by decide)]
  simp only [Option.map_some, canon]
  obtain ⟨e, he⟩ : ∃ e, 54 + 52 - m.log2 = e + 52 := ⟨54 - m.log2, by omega⟩
  have hm2 : m <<< (54 + 52 - m.log2) = m * 2 ^ e * 4503599627370496 := by rw [Nat.shiftLeft_eq, he, Nat.pow_add, ← Nat.mul_assoc]
  have h3 : m * 2 ^ e * 4503599627370496 / 4503599627370496 = m * 2 ^ e := Nat.mul_div_cancel _ (by decide)
  have h4 : m * 2 ^ e * 4503599627370496 % 4503599627370496 = 0 := Nat.mul_mod_left _ _
  rw [hm2, h3, h4]
  simp only [bne_self_eq_false, Bool.toNat_false, Nat.add_zero]
  show Ieee.double.nearest _ _ _ = _
  have hplace : (-1074 + (k : Int) - -51 - ((54 + 52 - m.log2 : Nat) : Int) - 1) = -1074 + (k : Int) - (e : Int) - 2 := by omega
  rw [hplace]
  have hN : mval (rung f - 4503599627370496) * 2 = m * 2 ^ k := by rw [← hm, hd, Nat.mul_comm]
  have key : Ieee.double.nearest (sgn f ^^ false) (2 * (m * 2 ^ e)) (-1074 + (k : Int) - (e : Int) - 2) = Ieee.double.word (sgn f ^^ false) (rndN (mval (rung f - 4503599627370496))) := by
    generalize mval (rung f - 4503599627370496) = N at hN
    by_cases hc : e + 2 ≤ k
    · rw [show (-1074 + (k : Int) - (e : Int) - 2) = -1074 + ((k - (e + 2) : Nat) : Int) by omega, nearest_int]
      congr 2
      have e1 : 2 ^ k = 2 ^ (k - (e + 2)) * (2 ^ e * 4) := by
        rw [show (2 : Nat) ^ e * 4 = 2 ^ (e + 2) by rw [Nat.pow_add], ← Nat.pow_add, Nat.sub_add_cancel hc]
      rw [e1, show 4 = 2 * 2 by decide] at hN
      apply Nat.eq_of_mul_eq_mul_right (show 0 < 2 by decide)
      rw [hN]
      generalize 2 ^ (k - (e + 2)) = p
      generalize 2 ^ e = q
      ac_rfl
    · rw [show (-1074 + (k : Int) - (e : Int) - 2) = -1074 - ((e + 2 - k : Nat) : Int) by omega, nearest_frac]
      congr 1
      have e2 : 2 * (m * 2 ^ e) = N * 2 ^ (e + 2 - k) := by
        have e3 : 2 ^ (e + 2 - k) * 2 ^ k = 2 ^ e * (2 * 2) := by rw [← Nat.pow_add, Nat.sub_add_cancel (by omega), Nat.pow_add]
        have hp : 0 < 2 ^ k := Nat.two_pow_pos k
        apply Nat.eq_of_mul_eq_mul_right hp
        apply Nat.eq_of_mul_eq_mul_right (show 0 < 2 by decide)
        have a1 : N * 2 ^ (e + 2 - k) * 2 ^ k * 2 = N * 2 * (2 ^ (e + 2 - k) * 2 ^ k) := by ac_rfl
        rw [a1, e3, hN]
        generalize 2 ^ k = p
        generalize 2 ^ e = q
        ac_rfl
      rw [e2, rndQ_cancel]
  rw [key, rnd_mval hlow, word_eq, Bool.xor_false]
end Go.Proofs.YtndknkdfbjfjcaaDoor
