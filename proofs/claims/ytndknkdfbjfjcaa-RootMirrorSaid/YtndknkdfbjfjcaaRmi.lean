/- Quotients by what is above nought: signs. Plain. -/
import Derived.Test.YtndknkdfbjfjcaaRmh
import Derived.Test.YtndknkdfbjfjcaaDiv
namespace Go.Proofs.Ytndknkdfbjfjcaa
set_option linter.unusedVariables false
set_option linter.unusedSimpArgs false
set_option maxRecDepth 100000
theorem read_turn {f g m : Nat} {k : Int} (h : rung f = rung g) (hr : Ieee.double.read f = .number (sgn f) m k) : Ieee.double.read g = .number (sgn g) m k := by
  have h' : f % 9223372036854775808 = g % 9223372036854775808 := h
  rw [read_eq] at hr ⊢
  dsimp only at hr ⊢
  rw [← h']
  by_cases h1 : f % 9223372036854775808 < 4503599627370496
  · rw [if_pos h1] at hr ⊢
    injection hr with _ a b
    subst a b; rfl
  · rw [if_neg h1] at hr ⊢
    by_cases h2 : f % 9223372036854775808 < 9218868437227405312
    · rw [if_pos h2] at hr ⊢
      injection hr with _ a b
      subst a b; rfl
    · rw [if_neg h2] at hr
      by_cases h3 : f % 9223372036854775808 = 9218868437227405312
      · rw [if_pos h3] at hr; cases hr
      · rw [if_neg h3] at hr; cases hr
/-- a finite number over one above nought. -/
theorem fdiv_pos {f c : Nat} (hf : fin f = true) (h0 : 0 < c) (hc : c ≤ 9218868437227405312) : ∃ r, r ≤ 9218868437227405312 ∧ ∀ g, rung g = rung f → fdiv g c = wd (sgn g) r := by
  by_cases hi : c = 9218868437227405312
  · refine ⟨0, by decide, fun g hg => ?_⟩
    obtain ⟨m, k, hr, _⟩ := read_number (x := g) (by rw [hg]; exact fin_rung hf)
    rw [hi, div_def, hr, show Ieee.double.read 9218868437227405312 = .infinity false by decide +kernel]
    simp only [Ieee.Datum.quotient, Option.map_some, canon]
    cases sgn g <;> decide +kernel
  · have hcr : rung c = c := p_rung' hc
    have hcs : sgn c = false := by have := wd_sgn (s := false) hc; rwa [wd_f0] at this
    obtain ⟨m1, k1, hr1, hm1, hb1, hk1⟩ := read_number (fin_rung hf)
    obtain ⟨m2, k2, hr2, hm2, hb2, hk2⟩ := read_number (x := c) (by omega)
    have h2 : m2 ≠ 0 := by
      intro h; rw [h, Nat.zero_mul, hcr] at hm2; have := mval_pos h0; omega
    refine ⟨rndQ ((2 * (m1 * 2 ^ (54 + m2.log2 - m1.log2) / m2) + (m1 * 2 ^ (54 + m2.log2 - m1.log2) % m2 != 0).toNat) * 2 ^ (e1 + k1)) (k2 + (54 + m2.log2 - m1.log2) + 1), rndQ_le _ _, fun g hg => ?_⟩
    rw [div_def, read_turn hg.symm hr1, hr2, hcs]
    have hl1 : m1.log2 ≤ 52 := by
      by_cases h : m1 = 0
      · subst h; decide
      · have := (Nat.log2_lt h (k := 53)).2 (by omega); omega
    have hfb : Ieee.double.fractionBits + 2 = 54 := rfl
    rw [hfb]
    simp only [Ieee.Datum.quotient]
    rw [if_neg (by simpa using h2)]
    simp only [Option.map_some, canon]
    rw [Nat.shiftLeft_eq]
    show Ieee.double.nearest _ _ _ = _
    rw [nearest_any _ _ (e1 + k1) (k2 + (54 + m2.log2 - m1.log2) + 1) _ (by rw [e1_eq]; omega), word_eq, Bool.xor_false]
end Go.Proofs.Ytndknkdfbjfjcaa
