/- Parts of an exponential are as near as told. -/
import Derived.Test.YtojldamhdnmdpaaNum7
import Derived.Test.YtojldamhdnmdpaaRest
namespace Go.Proofs.Ytojldamhdnmdpaa
open Go.RowKit
set_option linter.unusedVariables false
set_option linter.unusedSimpArgs false
set_option maxRecDepth 100000
set_option maxHeartbeats 4000000
def closeF (a b m : Nat) : Bool := fle (fabs (fsub a b)) m
theorem close_c {x y z f g h : Nat} (hx : Rep x f) (hy : Rep y g) (hz : Rep z h) (w : World) : Calls Try.prog 15 #[.float .f64 x, .float .f64 y, .float .f64 z] w (RetB (closeF f g h) w) := by
  go_enter Try.func15, Try.ntmps15
  go_wp2_with (first | (go_at_call 11; (with_reducible refine (abs_c (hx.sub hy) _).mono ?_); rintro e w' ⟨r, n, rfl, hr, rfl⟩))
  go_ret
  exact RetB.mk _ (hr.le' hz)
theorem exp_ok (f : Nat) : Ok (expF f) := by
  unfold expF
  split
  · exact ⟨by decide +kernel, by decide +kernel⟩
  · split
    · exact ⟨by decide +kernel, by decide +kernel⟩
    · split
      · exact ⟨by decide +kernel, by decide +kernel⟩
      · refine scale_ok ?_ _
        show Ok (fadd _ _)
        exact Ok.add _ _
theorem exp_pos {E : Nat} (h : Ok E) (h1 : fle 103582791429521408 E = true) (h2 : isInf E 1 = false) : 0 < E ∧ E < 9218868437227405312 := by
  rw [fle_eq, show isN 103582791429521408 = false by decide +kernel] at h1
  cases hn : isN E
  · rw [hn, sval_pos (by decide)] at h1
    simp at h1
    have h0 := mval_pos (show 0 < 103582791429521408 by decide)
    have hs : sgn E = false := by
      rcases sval_cases E with ⟨a, e⟩ | ⟨a, e⟩
      · exact a
      · rw [e] at h1; omega
    have he := sgn_false hs h.lt
    have hr := (notN_iff E).1 hn
    rw [infP_iff h.lt hn] at h2
    simp at h2
    rcases sval_cases E with ⟨a, e⟩ | ⟨a, e⟩
    · rw [e] at h1
      have : 0 < rung E := by
        rcases Nat.eq_zero_or_pos (rung E) with z | z
        · rw [z, mval_zero] at h1; omega
        · exact z
      omega
    · rw [hs] at a; cases a
  · rw [hn] at h1; simp at h1
theorem close_self {P Q : Nat} (hP : Proofs.Ytojldamhdnmdpaa.fin P = true) (hQ : Q ≤ 9218868437227405312) : closeF P P Q = true := by
  unfold closeF
  rw [fsub_self_fin hP, show fabs 0 = 0 by decide +kernel, fle_eq, show isN 0 = false by decide +kernel, num_pos hQ, sval_zero, sval_pos (by omega)]
  simp
theorem mul_le_self {E C : Nat} (h : E < 9218868437227405312) (hC : rung C ≤ 4607182418800017408) : rung (fmul E C) ≤ E := by
  have := (rungMul (y := C) (x := E) (F := E) (by rw [p_rung h]; exact Nat.le_refl _) hC h (by decide)).2
  rwa [fmul_one (by omega) (nrm_of_not (num_pos (by omega)))] at this
theorem tiny_le {E : Nat} (h : E < 9218868437227405312) : fmul E 4372995238176751616 ≤ 9218868437227405312 := by
  rw [p_mul h (by decide)]; exact rndQ_le _ _
theorem turn0 : turnC 0 = 4607182418800017408 ∧ turnS 0 = 0 ∧ turnC 9223372036854775808 = 4607182418800017408 ∧ turnS 9223372036854775808 = 9223372036854775808 := by decide +kernel
theorem mul_zero' {E : Nat} (h : E < 9218868437227405312) : fmul E 0 = 0 := by
  rw [p_mul h (by decide), mval_zero, Nat.mul_zero]; decide +kernel
theorem near_ok {E f g : Nat} (hE : E = expF f) (hg : Ok g) (h1 : fit g = true) (h2 : fle 103582791429521408 E = true) (h3 : isInf E 1 = false) :
    closeF (cexpX f g) (fmul E (turnC g)) (fmul E 4372995238176751616) = true ∧ closeF (cexpY f g) (fmul E (turnS g)) (fmul E 4372995238176751616) = true := by
  have hO : Ok E := by rw [hE]; exact exp_ok f
  obtain ⟨e0, e1⟩ := exp_pos hO h2 h3
  have hQ := tiny_le e1
  obtain ⟨t1, t2⟩ := turn_one hg.lt h1
  have m1 := mul_le_self e1 t1
  have m2 := mul_le_self e1 t2
  have f1 : Proofs.Ytojldamhdnmdpaa.fin (fmul E (turnC g)) = true := by unfold Proofs.Ytojldamhdnmdpaa.fin; simp; omega
  have f2 : Proofs.Ytojldamhdnmdpaa.fin (fmul E (turnS g)) = true := by unfold Proofs.Ytojldamhdnmdpaa.fin; simp; omega
  rw [cexpX.eq_1, cexpY.eq_1, ← hE]
  cases hq : feq g 0
  · simp only [Bool.false_eq_true, if_false]
    exact ⟨close_self f1 hQ, close_self f2 hQ⟩
  · simp only [if_true]
    have hn : isN g = false := by
      cases hn : isN g
      · rfl
      · rw [(flt_nan0 hn 0).2.2.1] at hq; cases hq
    rw [feq_zero hn] at hq
    have hr : rung g = 0 := by simpa using hq
    have hg2 : g = 0 ∨ g = 9223372036854775808 := by
      have := hg.lt; unfold rung at hr; omega
    obtain ⟨z1, z2, z3, z4⟩ := turn0
    have hone : fmul E 4607182418800017408 = E := fmul_one (by omega) (nrm_of_not (num_pos (by omega)))
    rcases hg2 with rfl | rfl
    · rw [z1, z2, hone, mul_zero' e1]
      exact ⟨close_self (p_fin e1) hQ, close_self (by decide +kernel) hQ⟩
    · rw [z3, z4, hone, show (9223372036854775808 : Nat) = fneg 0 by decide +kernel, fmul_negr _ (by decide), mul_zero' e1]
      exact ⟨close_self (p_fin e1) hQ, close_self (by decide +kernel) hQ⟩
end Go.Proofs.Ytojldamhdnmdpaa
