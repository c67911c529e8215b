/- The angle of a place: the program's and the document's come to one. No condition. -/
import Derived.Test.YtndknkdfbjfjcaaPosA
import Derived.Test.YtndknkdfbjfjcaaAng8
namespace Go.Proofs.Ytndknkdfbjfjcaa
open Go.RowKit
set_option linter.unusedVariables false
set_option linter.unusedSimpArgs false
set_option maxRecDepth 100000
set_option maxHeartbeats 400000

theorem q_notN {f : Nat} (h : f ≤ 9218868437227405312) : isN f = false := by
  rw [notN_iff]; unfold rung; omega
theorem q_sval {f : Nat} (h : f ≤ 9218868437227405312) : sval f = (mval f : Int) := by
  have h1 : sgn f = false := by unfold sgn; simp; omega
  have h2 : rung f = f := by unfold rung; omega
  unfold sval; rw [h1, h2]; rfl
theorem q_le {f g : Nat} (h : f ≤ 9218868437227405312) (k : g ≤ 9218868437227405312) : fle f g = decide (f ≤ g) := by
  rw [fle_eq, q_notN h, q_notN k, q_sval h, q_sval k, Bool.eq_iff_iff]
  simp only [Bool.not_false, Bool.true_and, decide_eq_true_eq]
  rw [← mval_le_iff]; omega
theorem q_eq {f g : Nat} (h : f ≤ 9218868437227405312) (k : g ≤ 9218868437227405312) : feq f g = decide (f = g) := by
  rw [feq_eq, q_notN h, q_notN k, q_sval h, q_sval k, Bool.eq_iff_iff]
  simp only [Bool.not_false, Bool.true_and, decide_eq_true_eq]
  constructor
  · intro e
    have a := (mval_le_iff (r := f) (s := g)).1 (by omega)
    have b := (mval_le_iff (r := g) (s := f)).1 (by omega)
    omega
  · rintro rfl; rfl
theorem fdiv_inf {p : Nat} (h : p < 9218868437227405312) : fdiv p 9218868437227405312 = 0 := by
  obtain ⟨m, k, hr, _⟩ := read_number (x := p) (by rw [p_rung h]; exact h)
  rw [div_def, hr, show Ieee.double.read 9218868437227405312 = .infinity false by decide +kernel, p_sgn h]
  simp only [Ieee.Datum.quotient, Option.map_some, canon]
  decide +kernel
theorem closed3 : U * 1048577 ≤ mval 4607182435979886592 * 1048576 := by decide +kernel
/-- a quotient of lengths, the less by the greater -/
theorem quo_le {p q : Nat} (hp : p < 9218868437227405312) (hq : q ≤ 9218868437227405312) (h : p ≤ q) (h0 : q ≠ 0) : fdiv p q ≤ 4607182435979886592 := by
  by_cases hi : q = 9218868437227405312
  · subst hi; rw [fdiv_inf hp]; exact Nat.zero_le _
  have hq' : q < 9218868437227405312 := by omega
  obtain ⟨r, e, hr⟩ := fdiv_le (c := 4607182435979886592) (p_fin hp) (p_fin hq') (by rw [p_rung hq']; exact h0) (by decide) (by
    rw [p_rung hp, p_rung hq']
    have m1 := mval_le_iff.2 h
    have e1 : mval p * U * 1048577 = mval p * (U * 1048577) := by rw [Nat.mul_assoc]
    have e2 : mval 4607182435979886592 * mval q * 1048576 = mval q * (mval 4607182435979886592 * 1048576) := by
      generalize mval 4607182435979886592 = a
      rw [Nat.mul_comm a, Nat.mul_assoc]
    rw [e1, e2]
    exact Nat.mul_le_mul m1 closed3)
  rw [e, p_sgn hp, p_sgn hq', Bool.xor_false, wdF]
  exact hr
def cX : Nat := fadd cC cL2
def cP : Nat := fadd cH2 cX
def cY : Nat := fadd cP 4368955796522032135
def cE : Nat := fadd 4614256656552045848 cY
theorem closed4 : cC < 9218868437227405312 ∧ cL2 < 9218868437227405312 ∧ cX < cH2 ∧ cH2 < 9218868437227405312 ∧ cP < 9218868437227405312 ∧ cY < 4614256656552045848 ∧ cE < 9218868437227405312 ∧ cC ≤ cP ∧ cH4 ≤ cP ∧ cP ≤ cE := by decide +kernel
theorem place_pos {p q : Nat} (hp : p ≤ 9218868437227405312) (hq : q ≤ 9218868437227405312) : placeP p q ≤ cP := by
  obtain ⟨d1, d2, d3, d4, d5, d6, d7, d8, d9, d10⟩ := closed4
  unfold placeP
  rw [q_eq hp (by decide), q_eq hp hq, q_le hp hq, infP_iff (by omega) (q_notN hp)]
  by_cases h0 : p = 0
  · rw [decide_eq_true h0, if_pos rfl]; exact Nat.zero_le _
  rw [decide_eq_false h0, if_neg (by simp)]
  by_cases h1 : p = q ∧ p = 9218868437227405312
  · rw [decide_eq_true h1.1, decide_eq_true h1.2, Bool.true_and, if_pos rfl]; exact d9
  rw [if_neg (by simpa using h1)]
  by_cases h2 : p ≤ q
  · rw [decide_eq_true h2, if_pos rfl]
    exact Nat.le_trans (core_pos (quo_le (by omega) hq h2 (by omega))) d8
  · rw [decide_eq_false h2, if_neg (by simp)]
    have c := core_pos (quo_le (p := q) (q := p) (by omega) hp (by omega) h0)
    obtain ⟨a, b⟩ := rungSub c (Nat.le_refl cL2) d1 d2
    exact subAbs d4 d3 b a
theorem ofAbs_pos {y x : Nat} (hy : isN y = false) (hx : isN x = false) : ofAbs y x ≤ cE := by
  obtain ⟨d1, d2, d3, d4, d5, d6, d7, d8, d9, d10⟩ := closed4
  have a1 := (notN_iff y).1 hy
  have a2 := (notN_iff x).1 hx
  have h := place_pos (p := fabs y) (q := fabs x) (by rw [fabs_of hy]; exact a1) (by rw [fabs_of hx]; exact a2)
  unfold ofAbs backP
  split
  · obtain ⟨a, b⟩ := rungSub h (Nat.le_refl 4368955796522032135) d5 (by decide)
    exact subAbs (by decide) d6 b a
  · exact Nat.le_trans h d10
theorem ofR_eq (y x : Nat) : ofR y x = ofF y x := by
  unfold ofR ofF
  cases hy : isN y
  · cases hx : isN x
    · rw [if_neg (show ¬ ((false || false) = true) by decide), if_neg (show ¬ ((false || false) = true) by decide)]
      have h := ofAbs_pos hy hx
      have d7 := closed4.2.2.2.2.2.2.1
      generalize ofAbs y x = b at h
      have hb : b < 9218868437227405312 := by omega
      unfold signed minus
      rw [fin_notN (p_fin hb), hy, if_neg (show ¬ (false = true) by decide), p_rung hb]
      have hn : fneg b = wd true b := by
        have := wd_neg (s := false) (r := b) (by omega)
        rw [wdF] at this
        exact this
      cases hs : sgn y
      · rfl
      · rw [if_pos rfl, if_pos (by simp), hn]
        unfold wd
        rw [if_pos rfl, Nat.add_comm]
    · rw [if_pos (by simp), if_pos (by simp)]
  · rw [if_pos (by simp), if_pos (by simp)]
end Go.Proofs.Ytndknkdfbjfjcaa
