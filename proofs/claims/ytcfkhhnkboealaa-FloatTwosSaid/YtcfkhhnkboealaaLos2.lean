/- What a sum loses, of floats. Plain. -/
import Derived.Test.YtcfkhhnkboealaaLost
namespace Go.Proofs.Ytcfkhhnkboealaa
open Go.RowKit
set_option linter.unusedVariables false
set_option linter.unusedSimpArgs false
set_option maxRecDepth 100000
set_option maxHeartbeats 4000000
theorem fadd_exact {f g : Nat} (hf : fin f = true) (hg : fin g = true) (h : rndN (sval f + sval g).natAbs < 9218868437227405312 ∧ mval (rndN (sval f + sval g).natAbs) = (sval f + sval g).natAbs) :
    fin (fadd f g) = true ∧ sval (fadd f g) = sval f + sval g := by
  rw [fadd_fin hf hg]
  refine ⟨by unfold fin; rw [wd_rung (rndN_le _)]; simpa using h.1, ?_⟩
  rw [wd_sval (rndN_le _), h.2]
  by_cases h0 : sval f + sval g = 0
  · rw [h0]; simp
  · rw [if_neg h0]
    by_cases h1 : sval f + sval g < 0
    · rw [decide_eq_true h1, if_pos rfl]; omega
    · rw [decide_eq_false h1, if_neg (by decide)]; omega
theorem fsub_exact {f g : Nat} (hf : fin f = true) (hg : fin g = true) (hl : g < 18446744073709551616) (h : rndN (sval f - sval g).natAbs < 9218868437227405312 ∧ mval (rndN (sval f - sval g).natAbs) = (sval f - sval g).natAbs) :
    fin (fsub f g) = true ∧ sval (fsub f g) = sval f - sval g := by
  rw [fsub_fin hf hg hl]
  refine ⟨by unfold fin; rw [wd_rung (rndN_le _)]; simpa using h.1, ?_⟩
  rw [wd_sval (rndN_le _), h.2]
  by_cases h0 : sval f - sval g = 0
  · rw [h0]; simp
  · rw [if_neg h0]
    by_cases h1 : sval f - sval g < 0
    · rw [decide_eq_true h1, if_pos rfl]; omega
    · rw [decide_eq_false h1, if_neg (by decide)]; omega
theorem sval_nat (f : Nat) : (sval f).natAbs = mval (rung f) := by unfold sval; split <;> omega
theorem sval_sum {f g : Nat} (hf : fin f = true) (hg : fin g = true) : sval (fadd f g) = if sval f + sval g < 0 then -(mval (rndN (sval f + sval g).natAbs) : Int) else (mval (rndN (sval f + sval g).natAbs) : Int) := by
  rw [fadd_fin hf hg, wd_sval (rndN_le _)]
  by_cases h0 : sval f + sval g = 0
  · rw [h0, if_neg (by decide : ¬ (0 : Int) < 0)]
    have : mval (rndN (0 : Int).natAbs) = 0 := by decide +kernel
    rw [this]; simp
  · rw [if_neg h0]
    by_cases h1 : sval f + sval g < 0
    · rw [decide_eq_true h1, if_pos rfl, if_pos h1]
    · rw [decide_eq_false h1, if_neg (by decide), if_neg h1]
/-- half the loss's law: the smaller one second. -/
theorem lost_half {f g : Nat} (hf : fin f = true) (hg : fin g = true) (hlf : f < 18446744073709551616) (hs : fin (fadd f g) = true) (hle : rung g ≤ rung f) :
    (let l := fadd (fsub g (fsub (fadd f g) f)) 0; fin l = true ∧ sval l = sval f + sval g - sval (fadd f g) ∧ l = (if sval f + sval g - sval (fadd f g) = 0 then 0 else wd (decide (sval f + sval g - sval (fadd f g) < 0)) (rndN (sval f + sval g - sval (fadd f g)).natAbs))) ∧
    (sval f + sval g - sval (fadd f g) = 0 ∨ ∃ es q : Nat, 0 < es ∧ rung (fadd f g) = es * 4503599627370496 + q ∧ 4503599627370496 ≤ q ∧ q ≤ 9007199254740992 ∧ 2 * (sval f + sval g - sval (fadd f g)).natAbs ≤ 2 ^ es) := by
  have hr : rung (fadd f g) = rndN (sval f + sval g).natAbs := by rw [fadd_fin hf hg, wd_rung (rndN_le _)]
  have hS := fin_rung hs
  rw [hr] at hS
  obtain ⟨a, b, c⟩ := two_sum (x := sval f) (y := sval g) (fin_rung hf) (fin_rung hg) (sval_nat f) (sval_nat g) hle hS (sval_sum hf hg)
  obtain ⟨t1, t2⟩ := fsub_exact (f := fadd f g) (g := f) hs hf hlf a
  have e : sval g - sval (fsub (fadd f g) f) = sval f + sval g - sval (fadd f g) := by rw [t2]; omega
  obtain ⟨u1, u2⟩ := fsub_exact (f := g) (g := fsub (fadd f g) f) hg t1 (fsub_lt _ _) (by rw [e]; exact b)
  rw [e] at u2
  have z : sval (0 : Nat) = 0 := by decide +kernel
  have e2 : sval (fsub g (fsub (fadd f g) f)) + sval 0 = sval f + sval g - sval (fadd f g) := by rw [u2, z]; omega
  have f0 : fin 0 = true := by decide +kernel
  obtain ⟨v1, v2⟩ := fadd_exact (f := fsub g (fsub (fadd f g) f)) (g := 0) u1 f0 (by rw [e2]; exact b)
  refine ⟨⟨v1, by rw [v2, e2], ?_⟩, by rw [hr]; exact c⟩
  rw [fadd_fin u1 f0, e2]
  by_cases h : sval f + sval g - sval (fadd f g) = 0
  · rw [if_pos h, if_pos h, h]
    have s0 : sgn 0 = false := by decide +kernel
    rw [s0, Bool.and_false]; decide +kernel
  · rw [if_neg h, if_neg h]
theorem fabs_lt {f g : Nat} (hf : fin f = true) (hg : fin g = true) : flt (fabs f) (fabs g) = decide (rung f < rung g) := by
  have a := fin_notN hf
  have b := fin_notN hg
  rw [flt_eq, isN_abs, isN_abs, a, b, sval_abs a, sval_abs b]
  simp only [Bool.not_false, Bool.true_and]
  rw [decide_eq_decide]
  rw [← mval_lt_iff (r := rung f)]
  omega
/-- THE LOSS: what is lost, exactly, and how little. -/
theorem lost_val {f g : Nat} (hlf : f < 18446744073709551616) (hlg : g < 18446744073709551616) (hs : fin (fadd f g) = true) :
    fin (lostF f g) = true ∧ sval (lostF f g) = sval f + sval g - sval (fadd f g) ∧ lostF f g = (if sval f + sval g - sval (fadd f g) = 0 then 0 else wd (decide (sval f + sval g - sval (fadd f g) < 0)) (rndN (sval f + sval g - sval (fadd f g)).natAbs)) ∧
    (sval f + sval g - sval (fadd f g) = 0 ∨ ∃ es q : Nat, 0 < es ∧ rung (fadd f g) = es * 4503599627370496 + q ∧ 4503599627370496 ≤ q ∧ q ≤ 9007199254740992 ∧ 2 * (sval f + sval g - sval (fadd f g)).natAbs ≤ 2 ^ es) := by
  obtain ⟨hf, hg⟩ := fadd_notN_finite hs
  unfold lostF
  rw [hs, Bool.not_true, if_neg (by decide), fabs_lt hf hg]
  by_cases h : rung f < rung g
  · rw [decide_eq_true h, if_pos rfl]
    have hc : fadd f g = fadd g f := by rw [fadd_fin hf hg, fadd_fin hg hf, Int.add_comm, Bool.and_comm]
    have hc2 : sval f + sval g = sval g + sval f := Int.add_comm _ _
    rw [hc, hc2]
    have := lost_half hg hf hlg (by rw [← hc]; exact hs) (Nat.le_of_lt h)
    exact ⟨this.1.1, this.1.2.1, this.1.2.2, this.2⟩
  · rw [decide_eq_false h, if_neg (by decide)]
    have := lost_half hf hg hlf hs (by omega)
    exact ⟨this.1.1, this.1.2.1, this.1.2.2, this.2⟩
end Go.Proofs.Ytcfkhhnkboealaa
