/- Signs and orders of sums and products of any floats. -/
import Derived.Test.YtcfkhhnkboealaaStra
namespace Go.Proofs.Ytcfkhhnkboealaa
open Go.RowKit
set_option linter.unusedVariables false
set_option linter.unusedSimpArgs false
set_option maxRecDepth 100000

theorem nan_neg : fneg nanB = nanB := by decide +kernel
theorem wdI (s : Bool) : Ieee.double.write (.infinity s) = wd s 9218868437227405312 := by
  show Ieee.double.word _ _ = _
  rw [word_eq, show Ieee.double.infRung = 9218868437227405312 by decide +kernel]
theorem fmul_nan {f g : Nat} (h : isN f = true ∨ isN g = true) : fmul f g = nanB := by rw [mul_def, product_none _ _ h]; rfl
theorem fmul_infl {f g : Nat} (hf : rung f = 9218868437227405312) (hg : isN g = false) : fmul f g = if rung g = 0 then nanB else wd (sgn f ^^ sgn g) 9218868437227405312 := by
  rw [mul_def, read_inf hf]
  cases h : Proofs.Ytcfkhhnkboealaa.fin g
  · have hi := inf_of hg h
    rw [read_inf hi, if_neg (by omega)]
    exact wdI _
  · obtain ⟨m, k, hs, hn, _⟩ := read_number (fin_rung h)
    rw [hs]
    simp only [Ieee.Datum.product]
    by_cases hm : m = 0
    · rw [if_pos hm]
      rw [hm, Nat.zero_mul] at hn
      have : rung g = 0 := by
        rcases Nat.eq_zero_or_pos (rung g) with h | h
        · exact h
        · have := mval_pos h; omega
      rw [if_pos this]; rfl
    · rw [if_neg hm]
      have : rung g ≠ 0 := by
        intro h; rw [h, mval_zero] at hn
        have := Nat.mul_pos (show 0 < m by omega) (Nat.two_pow_pos k); omega
      rw [if_neg this]
      exact wdI _
theorem product_comm (d e : Ieee.Datum) : d.product e = e.product d := by
  cases d <;> cases e <;> simp [Ieee.Datum.product, Bool.xor_comm, Nat.mul_comm, Int.add_comm]
theorem fmul_comm (f g : Nat) : fmul f g = fmul g f := by rw [mul_def, mul_def, product_comm]
theorem sum_comm (d e : Ieee.Datum) : d.sum e = e.sum d := by
  cases d with
  | nan => cases e <;> rfl
  | infinity s =>
    cases e with
    | nan => rfl
    | infinity t => cases s <;> cases t <;> rfl
    | number => rfl
  | number s m i =>
    cases e with
    | nan => rfl
    | infinity t => rfl
    | number t n j =>
      simp only [Ieee.Datum.sum]
      rw [Int.min_comm, Int.add_comm, Bool.and_comm]
theorem fadd_comm (f g : Nat) : fadd f g = fadd g f := by rw [add_def, add_def, sum_comm]
/-- a product's sign turns with the second's. -/
theorem fmul_negr (f : Nat) {g : Nat} (hg : g < 18446744073709551616) : fmul f (fneg g) = fneg (fmul f g) := by
  cases hn : isN g
  · cases hm : isN f
    · cases h1 : Proofs.Ytcfkhhnkboealaa.fin f
      · have hi := inf_of hm h1
        rw [fmul_infl hi (by rw [isN_neg]; exact hn), fmul_infl hi hn, rung_neg' hn, sgn_neg hg hn]
        split
        · exact nan_neg.symm
        · rw [wd_neg (by omega)]; cases sgn f <;> cases sgn g <;> rfl
      · cases h2 : Proofs.Ytcfkhhnkboealaa.fin g
        · have hi := inf_of hn h2
          rw [fmul_comm, fmul_comm f g, fmul_infl (by rw [rung_neg' hn]; exact hi) hm, fmul_infl hi hm, sgn_neg hg hn]
          split
          · exact nan_neg.symm
          · rw [wd_neg (by omega)]; cases sgn f <;> cases sgn g <;> rfl
        · exact fmul_turn2 hg h2 h1
    · rw [fmul_nan (.inl hm), fmul_nan (.inl hm), nan_neg]
  · rw [fneg_nan hn, fmul_nan (.inr isN_nanB), fmul_nan (.inr hn), nan_neg]
theorem fmul_negl {f : Nat} (g : Nat) (hf : f < 18446744073709551616) : fmul (fneg f) g = fneg (fmul f g) := by
  rw [fmul_comm, fmul_negr g hf, fmul_comm]
theorem fmul_lt (f g : Nat) : fmul f g < 18446744073709551616 := canon_map_lt _
theorem fneg_neg {f : Nat} (hl : f < 18446744073709551616) (hn : nrm f = f) : fneg (fneg f) = f := by
  cases h : isN f
  · have e := fneg_wd hl h
    have hr := (notN_iff f).1 h
    rw [e, wd_neg hr, Bool.not_not, ← num_wd hl]
  · rw [nrm_of h] at hn; rw [← hn]; decide +kernel
theorem fmul_neg2 (f g : Nat) (hf : f < 18446744073709551616) (hg : g < 18446744073709551616) : fmul (fneg f) (fneg g) = fmul f g := by
  rw [fmul_negl _ hf, fmul_negr _ hg, fneg_neg (fmul_lt _ _) (nrm_fmul _ _)]
/-- what the whole number one leaves as it is. -/
theorem fmul_one {f : Nat} (hl : f < 18446744073709551616) (hn : nrm f = f) : fmul f 4607182418800017408 = f := by
  cases h : isN f
  · cases h1 : Proofs.Ytcfkhhnkboealaa.fin f
    · have hi := inf_of h h1
      rw [fmul_infl hi (by decide +kernel), if_neg (by decide +kernel), show sgn 4607182418800017408 = false by decide +kernel, Bool.xor_false]
      have := num_wd hl
      rw [hi] at this; exact this.symm
    · obtain ⟨k, hk, e⟩ : ∃ k, k = 1074 ∧ mval (rung 4607182418800017408) = 2 ^ k := by refine ⟨1074, rfl, ?_⟩; decide +kernel
      rw [fmul_fin h1 (by decide +kernel), e, ← hk, rndQ_cancel, rnd_mval (fin_rung h1), show sgn 4607182418800017408 = false by decide +kernel, Bool.xor_false]
      exact (num_wd hl).symm
  · rw [fmul_nan (.inl h)]; rw [nrm_of h] at hn; exact hn
theorem signed_turn {b y : Nat} (hl : y < 18446744073709551616) (hy : isN y = false) (hb : b < 18446744073709551616) : signed b (fneg y) = fneg (signed b y) := by
  unfold signed
  cases h : isN b
  · have hr := (notN_iff b).1 h
    have m1 : minus (fneg y) = !minus y := by unfold minus; rw [isN_neg, hy, sgn_neg hl hy]; rfl
    have e1 : rung b = wd false (rung b) := rfl
    have e2 : rung b + 9223372036854775808 = wd true (rung b) := by show _ = 9223372036854775808 + rung b; omega
    rw [m1, e2]
    cases minus y
    · show wd true (rung b) = fneg (wd false (rung b))
      rw [wd_neg hr]; rfl
    · show wd false (rung b) = fneg (wd true (rung b))
      rw [wd_neg hr]; rfl
  · rw [if_pos rfl, if_pos rfl, nan_neg]
end Go.Proofs.Ytcfkhhnkboealaa
