/- The program's angles: their bounds and signs, wherever the place lies. No text of the program. -/
import Derived.Test.YtcfkhhnkboealaaGf
namespace Go.Proofs.Ytcfkhhnkboealaa
open Go.RowKit
set_option linter.unusedVariables false
set_option linter.unusedSimpArgs false
set_option maxRecDepth 100000
set_option maxHeartbeats 4000000
open Turns Sizes
theorem over_inf {p : Nat} (lp : p < 9218868437227405312) : fdiv p 9218868437227405312 = 0 := by
  obtain ⟨a1, a2, a3, _, _, _⟩ := word_facts lp
  obtain ⟨m1, k1, hr1, hm1, hb1, hk1⟩ := read_number (fin_rung a1)
  rw [div_def, hr1, read_inf (x := 9218868437227405312) (by decide), a2]
  rfl
def placeSet (v : Nat) : Prop := v = 0 ∨ v = cH4 ∨ v = coreF 0 ∨ v = fsub cH2 (fsub (coreF 0) cL2)
theorem set_back {v : Nat} (h : placeSet v) (s : Bool) : isN (backP s v) = false ∧ rung (backP s v) ≤ 4614256656552045848 ∧ (s = false → rung (backP s v) ≤ 4609753056924675352) := by
  rcases h with h | h | h | h <;> subst h <;> cases s <;> decide +kernel
theorem isInf_word : isInf 9218868437227405312 1 = true := by decide +kernel
theorem place_far {p q : Nat} (lp : p ≤ 9218868437227405312) (lq : q ≤ 9218868437227405312) (h : p = 9218868437227405312 ∨ q = 9218868437227405312 ∨ (p = 0 ∧ q = 0)) : placeSet (placeP p q) := by
  have fz : ∀ {r : Nat}, r ≤ 9218868437227405312 → isN r = false := fun h => num_pos h
  unfold placeP
  rcases h with h | h | ⟨h1, h2⟩
  · subst h
    rw [show feq 9218868437227405312 0 = false by decide +kernel, if_neg (by decide), isInf_word, Bool.and_true]
    by_cases hq : q = 9218868437227405312
    · subst hq
      rw [show feq 9218868437227405312 9218868437227405312 = true by decide +kernel, if_pos rfl]
      exact .inr (.inl rfl)
    · have l := word_facts (show q < 9218868437227405312 by omega)
      have e1 : feq 9218868437227405312 q = false := by
        rw [feq_eq, l.2.2.2.1, show isN 9218868437227405312 = false by decide +kernel, l.2.2.2.2.1, sval_infP]
        have := mval_lt_iff.2 (show q < 9218868437227405312 by omega)
        have c : decide ((mval 9218868437227405312 : Int) = (mval q : Int)) = false := decide_eq_false (by omega)
        rw [c]; rfl
      have e2 : fle 9218868437227405312 q = false := by
        rw [fle_eq, l.2.2.2.1, show isN 9218868437227405312 = false by decide +kernel, l.2.2.2.2.1, sval_infP]
        have := mval_lt_iff.2 (show q < 9218868437227405312 by omega)
        have c : decide ((mval 9218868437227405312 : Int) ≤ (mval q : Int)) = false := decide_eq_false (by omega)
        rw [c]; rfl
      rw [e1, if_neg (by decide), e2, if_neg (by decide), over_inf (by omega)]
      exact .inr (.inr (.inr rfl))
  · subst h
    by_cases h0 : feq p 0 = true
    · rw [if_pos h0]; exact .inl rfl
    · rw [if_neg h0]
      by_cases h1 : (feq p 9218868437227405312 && isInf p 1) = true
      · rw [if_pos h1]; exact .inr (.inl rfl)
      · rw [if_neg h1]
        have e2 : fle p 9218868437227405312 = true := by
          rw [fle_eq, fz lp, show isN 9218868437227405312 = false by decide +kernel, sval_infP]
          have := mval_le_iff.2 lp
          rw [sval_pos' (by omega)]
          simp; omega
        rw [e2, if_pos rfl]
        by_cases hp : p = 9218868437227405312
        · exfalso
          subst hp
          exact h1 (by decide +kernel)
        · rw [over_inf (by omega)]
          exact .inr (.inr (.inl rfl))
  · subst h1; subst h2
    rw [show feq 0 0 = true by decide +kernel, if_pos rfl]
    exact .inl rfl
theorem sign_laid {f y : Nat} (hf : isN f = false) (hy : isN y = false) : signed f y = wd (sgn y) (rung f) := by
  unfold signed minus wd
  rw [hf, hy, if_neg (by decide)]
  cases sgn y
  · rfl
  · show (if (!false && true) = true then rung f + 9223372036854775808 else rung f) = if true = true then 9223372036854775808 + rung f else rung f
    rw [if_pos (by decide), if_pos rfl, Nat.add_comm]
theorem rung_le_inf {y : Nat} (hy : isN y = false) : rung y ≤ 9218868437227405312 := (notN_iff y).1 hy
/-- BOUNDS AND SIGNS, everywhere. -/
theorem of_range {y x : Nat} (ly : y < 18446744073709551616) (lx : x < 18446744073709551616) (hy : isN y = false) (hx : isN x = false) : isN (ofF y x) = false ∧ rung (ofF y x) ≤ 4614256656552045848 ∧ sgn (ofF y x) = sgn y ∧ (sgn x = false → rung (ofF y x) ≤ 4609753056924675352) ∧ ofF y x < 18446744073709551616 := by
  have ry := rung_le_inf hy
  have rx := rung_le_inf hx
  have far : (rung y = 9218868437227405312 ∨ rung x = 9218868437227405312 ∨ (rung y = 0 ∧ rung x = 0)) → isN (ofF y x) = false ∧ rung (ofF y x) ≤ 4614256656552045848 ∧ sgn (ofF y x) = sgn y ∧ (sgn x = false → rung (ofF y x) ≤ 4609753056924675352) ∧ ofF y x < 18446744073709551616 := by
    intro h
    obtain ⟨b1, b2, b3⟩ := set_back (place_far ry rx h) (sgn x)
    have e : ofF y x = wd (sgn y) (rung (ofAbs y x)) := by
      unfold ofF
      rw [hy, hx]
      show (if (false || false) = true then nanB else signed (ofAbs y x) y) = _
      rw [if_neg (by decide)]
      refine sign_laid ?_ hy
      unfold ofAbs
      rw [fabs_of hy, fabs_of hx]
      exact b1
    have ea : rung (ofAbs y x) = rung (backP (sgn x) (placeP (rung y) (rung x))) := by unfold ofAbs; rw [fabs_of hy, fabs_of hx]
    rw [← ea] at b2 b3
    have l : rung (ofAbs y x) ≤ 9218868437227405312 := Nat.le_trans b2 (by decide)
    rw [e]
    rw [wd_rung l, wd_sgn l]
    exact ⟨wd_notN l, b2, rfl, b3, wd_lt l⟩
  by_cases h : rung y = 9218868437227405312 ∨ rung x = 9218868437227405312 ∨ (rung y = 0 ∧ rung x = 0)
  · exact far h
  · have fy : Proofs.Ytcfkhhnkboealaa.fin y = true := by unfold Proofs.Ytcfkhhnkboealaa.fin; simp; omega
    have fx : Proofs.Ytcfkhhnkboealaa.fin x = true := by unfold Proofs.Ytcfkhhnkboealaa.fin; simp; omega
    have vy := V.of ly fy
    have vx := V.of lx fx
    have h0 : 0 < ab (qv y) + ab (qv x) := by
      have n1 := ab_nn (qv y)
      have n2 := ab_nn (qv x)
      have pos : ∀ {z : Nat} {Z : Rat}, V z Z → rung z ≠ 0 → 0 < ab Z := by
        intro z Z hz h
        rw [hz.size]
        have m := mval_pos (show 0 < rung z by omega)
        have c := cast_le.2 (show 1 ≤ mval (rung z) by omega)
        have e1 : ((1 : Nat) : Rat) = 1 := rfl
        rw [e1] at c
        have U0 := UQ_pos
        have x := div_self_mul (mval (rung z) : Rat) UQ_ne
        have l0 : 0 ≤ (mval (rung z) : Rat) / (U : Rat) := by rw [le_div U0]; grind
        rcases (show (mval (rung z) : Rat) / (U : Rat) = 0 ∨ 0 < (mval (rung z) : Rat) / (U : Rat) by grind) with q | q
        · rw [q, Rat.zero_mul] at x; grind
        · exact q
      rcases (show rung y ≠ 0 ∨ rung x ≠ 0 by omega) with k | k
      · have := pos vy k; grind
      · have := pos vx k; grind
    obtain ⟨T, t1, t2, t3, t4, t5, t6⟩ := of_ok vy vx h0
    exact ⟨fin_notN t1.fin, t4, t5, fun hs => (t3 hs).2, t1.lt⟩
/-- comparisons with the bounds. -/
theorem in_bounds {t H : Nat} (ht : isN t = false) (lH : H < 9218868437227405312) (h : rung t ≤ H) : flt t (fneg H) = false ∧ flt H t = false := by
  obtain ⟨a1, a2, a3, a4, a5, _⟩ := word_facts lH
  have hm := mval_le_iff.2 h
  have st : sval t = if sgn t then -(mval (rung t) : Int) else (mval (rung t) : Int) := rfl
  have sn' : sval (fneg H) = -(mval H : Int) := by rw [sval_neg (by omega) a4, a5]
  rw [flt_eq, flt_eq, ht, a4, a5, sn', st]
  constructor
  · have : decide ((if sgn t then -(mval (rung t) : Int) else (mval (rung t) : Int)) < -(mval H : Int)) = false := decide_eq_false (by split <;> omega)
    rw [this, Bool.and_false]
  · have : decide ((mval H : Int) < (if sgn t then -(mval (rung t) : Int) else (mval (rung t) : Int))) = false := decide_eq_false (by split <;> omega)
    rw [this, Bool.and_false]
end Go.Proofs.Ytcfkhhnkboealaa
