/- Small laws of floats by value, powers: for several texts. No text of the program. -/
import Derived.Test.YtcfkhhnkboealaaRsx
import Derived.Test.YtcfkhhnkboealaaAngb
import Derived.Test.YtcfkhhnkboealaaExl
namespace Go.Proofs.Ytcfkhhnkboealaa
open Go.RowKit
set_option linter.unusedVariables false
set_option linter.unusedSimpArgs false
set_option maxRecDepth 100000
set_option maxHeartbeats 4000000
theorem word_facts {r : Nat} (h : r < 9218868437227405312) : fin r = true ∧ sgn r = false ∧ rung r = r ∧ isN r = false ∧ sval r = (mval r : Int) ∧ Rep r r := by
  have h1 : rung r = r := rung_pos (by omega)
  have hf : fin r = true := by unfold Proofs.Ytcfkhhnkboealaa.fin; rw [h1]; simpa using h
  exact ⟨hf, sgn_rung (by omega), h1, fin_notN hf, sval_pos' (by omega), Rep.self (by omega) (nrm_of_not (fin_notN hf))⟩
/-- powers, the sums of the logarithm, and their slopes. -/
def pn (x : Rat) : Nat → Rat
  | 0 => 1
  | n + 1 => pn x n * x
theorem pn_nn {x : Rat} (h : 0 ≤ x) : ∀ n, 0 ≤ pn x n
  | 0 => by show (0 : Rat) ≤ 1; decide +kernel
  | n + 1 => Rat.mul_nonneg (pn_nn h n) h
theorem pn_mono {x y : Rat} (h : 0 ≤ x) (k : x ≤ y) : ∀ n, pn x n ≤ pn y n
  | 0 => Rat.le_refl
  | n + 1 => mul_mono (pn_nn h n) (pn_mono h k n) h k
theorem cast_succ (n : Nat) : ((n + 1 : Nat) : Rat) = (n : Rat) + 1 := by grind
theorem pn_diff {x y : Rat} (h : 0 ≤ x) (k : x ≤ y) : ∀ n : Nat, pn y (n + 1) - pn x (n + 1) ≤ ((n + 1 : Nat) : Rat) * ((y - x) * pn y n) ∧ ((n + 1 : Nat) : Rat) * ((y - x) * pn x n) ≤ pn y (n + 1) - pn x (n + 1)
  | 0 => by
    have e : ((0 + 1 : Nat) : Rat) = 1 := rfl
    simp only [pn]
    rw [e]
    constructor <;> grind
  | n + 1 => by
    obtain ⟨a, b⟩ := pn_diff h k n
    have p := pn_nn (Rat.le_trans h k) (n + 1)
    have q := pn_nn h (n + 1)
    have m := pn_mono h k (n + 1)
    have hy : 0 ≤ y := Rat.le_trans h k
    have a' := Rat.mul_le_mul_of_nonneg_right a hy
    have b' := Rat.mul_le_mul_of_nonneg_right b h
    have hd : 0 ≤ y - x := by grind
    have m1 := Rat.mul_le_mul_of_nonneg_left m hd
    have e1 : pn y (n + 1 + 1) = pn y (n + 1) * y := rfl
    have e2 : pn x (n + 1 + 1) = pn x (n + 1) * x := rfl
    have e3 : pn y (n + 1) = pn y n * y := rfl
    have e4 : pn x (n + 1) = pn x n * x := rfl
    have e5 := cast_succ (n + 1)
    generalize ((n + 1 : Nat) : Rat) = N at *
    rw [e5, e1, e2]
    generalize hA : pn y (n + 1) = A at *
    generalize hB : pn x (n + 1) = B at *
    generalize pn y n = C at *
    generalize pn x n = D at *
    clear hA hB e1 e2 e5
    subst e3 e4
    constructor <;> grind
def GS (x : Rat) : Nat → Rat
  | 0 => 0
  | k + 1 => GS x k + pn x (2 * k)
theorem GS_sum (x : Rat) : ∀ k, GS x k * (1 - x * x) = 1 - pn x (2 * k)
  | 0 => by simp only [GS, pn]; grind
  | k + 1 => by
    have h := GS_sum x k
    have e : pn x (2 * (k + 1)) = pn x (2 * k) * x * x := rfl
    show (GS x k + pn x (2 * k)) * (1 - x * x) = _
    rw [e]
    grind
theorem GS_nn {x : Rat} (h : 0 ≤ x) : ∀ k, 0 ≤ GS x k
  | 0 => Rat.le_refl
  | k + 1 => by
    have := GS_nn h k
    have := pn_nn h (2 * k)
    show 0 ≤ GS x k + pn x (2 * k)
    grind
theorem pn_neg (x : Rat) : ∀ k, pn (-x) (2 * k) = pn x (2 * k) ∧ pn (-x) (2 * k + 1) = -pn x (2 * k + 1)
  | 0 => by constructor <;> simp only [pn] <;> grind
  | k + 1 => by
    obtain ⟨a, b⟩ := pn_neg x k
    have e1 : ∀ y, pn y (2 * (k + 1)) = pn y (2 * k) * y * y := fun y => rfl
    have e2 : ∀ y, pn y (2 * (k + 1) + 1) = pn y (2 * k) * y * y * y := fun y => rfl
    rw [e1, e1, e2, e2, a]
    constructor <;> grind
theorem et_two : 2 * et = pw (-(e1 : Int)) := by
  have a := et_U
  have b := pw_negnat e1
  rw [← U_def] at b
  have hne := UQ_ne
  have : (2 * et - pw (-(e1 : Int))) * (U : Rat) = 0 := by grind
  grind
theorem et_1000 : et ≤ pw (-1000) := by
  have := et_two
  have h3 : pw (-(e1 : Int)) ≤ pw (-1000) := pw_mono (by rw [e1_eq]; decide)
  have := et_pos
  grind
theorem et_uu : et ≤ 1 / 1000000 * uu := Rat.le_trans et_1000 (by decide +kernel)
/-- THE NEAREST WHOLE NUMBER of a float. -/
theorem V.whole {f : Nat} {a : Rat} (hf : V f a) (h : ab a ≤ 1125899906842624) : ∃ n : Int, V (wholeF f) (n : Rat) ∧ wInt (wholeF f) = n ∧ ab (a - (n : Rat)) ≤ 1 / 2 := by
  have hU := UQ_pos
  have hne := UQ_ne
  obtain ⟨m, hm⟩ : ∃ m, wholeN (rung f) = m := ⟨_, rfl⟩
  have hm2 : rne (mval (rung f)) U = m := hm
  obtain ⟨e1', e2'⟩ := rne_err (mval (rung f)) U U_pos
  rw [hm2] at e1' e2'
  have c1 := cast_le.2 e1'
  have c2 := cast_le.2 e2'
  rw [cast_mul, cast_mul] at c1
  have q1 : ((2 * m + 1 : Nat) : Rat) = 2 * (m : Rat) + 1 := by grind
  have q2 : ((2 * mval (rung f) + U : Nat) : Rat) = 2 * (mval (rung f) : Rat) + (U : Rat) := by grind
  have q3 : ((2 * (m * U) : Nat) : Rat) = 2 * ((m : Rat) * (U : Rat)) := by grind
  have q4 : ((2 : Nat) : Rat) = 2 := rfl
  rw [q1, q4] at c1
  rw [q2, q3] at c2
  have hs := hf.size
  have hx := div_self_mul (mval (rung f) : Rat) hne
  rw [← hs] at hx
  rw [← hx] at c1 c2
  have n1 : ab (ab a - (m : Rat)) ≤ 1 / 2 := by
    rw [ab_le]
    constructor
    · refine Rat.le_of_mul_le_mul_right (c := (U : Rat)) ?_ hU
      grind
    · refine Rat.le_of_mul_le_mul_right (c := (U : Rat)) ?_ hU
      grind
  have hmb : m < 9007199254740992 := by
    have k : (m : Rat) ≤ ((2251799813685248 : Nat) : Rat) := by
      have e : ((2251799813685248 : Nat) : Rat) = 2251799813685248 := rfl
      rw [ab_le] at n1; rw [e]; grind
    have := cast_le.1 k
    omega
  obtain ⟨r1, r2⟩ := rnd_whole hmb
  have hw := whole_eq hf.fin
  rw [hm] at hw
  have hv := V.word (s := sgn f) r1
  rw [← hw, r2, cast_mul] at hv
  have e3 : (m : Rat) * (U : Rat) / (U : Rat) = (m : Rat) := by grind
  rw [e3] at hv
  have hwi : wInt (wholeF f) = if sgn f then -(m : Int) else (m : Int) := by
    unfold wInt trN
    rw [hw, wd_sgn (Nat.le_of_lt r1), wd_rung (Nat.le_of_lt r1), r2, Nat.mul_div_cancel _ U_pos]
  refine ⟨if sgn f then -(m : Int) else (m : Int), ?_, hwi, ?_⟩
  · have : (((if sgn f then -(m : Int) else (m : Int)) : Int) : Rat) = sq (sgn f) (m : Rat) := by
      cases sgn f <;> simp [sq, icast]
    rw [this]; exact hv
  · have e4 : (((if sgn f then -(m : Int) else (m : Int)) : Int) : Rat) = sq (sgn f) (m : Rat) := by
      cases sgn f <;> simp [sq, icast]
    have e5 : a = sq (sgn f) (ab a) := by rw [hs]; exact hf.form
    rw [e4]
    have e6 : a - sq (sgn f) (m : Rat) = sq (sgn f) (ab a - (m : Rat)) := by
      rw [← sq_sub, ← e5]
    rw [e6, sq_ab]; exact n1
/-- a product by a whole number that is a float. -/
theorem V.mul_whole {N g M K : Nat} {n : Int} {b : Rat} (hN : V N (n : Rat)) (hg : V g b) (hM : mval (rung g) = M * 2 ^ K) (hs : n.natAbs * M < 9007199254740992) (hb : ab ((n : Rat) * b) ≤ BG) : V (fmul N g) ((n : Rat) * b) := by
  have hU := UQ_pos
  have hne := UQ_ne
  obtain ⟨c, hc, e⟩ := hN.mul hg hb
  have hNm : mval (rung N) = n.natAbs * U := by
    have h1 := hN.size
    have h2 := div_self_mul (mval (rung N) : Rat) hne
    rw [← h1, ← natAbsQ, ← cast_mul] at h2
    have h3 := cast_le.1 (Rat.le_of_eq' h2)
    have h4 := cast_le.1 (Rat.le_of_eq' h2.symm)
    omega
  have hp : mval (rung N) * mval (rung g) = n.natAbs * M * 2 ^ K * U := by rw [hNm, hM]; grind
  have hf := fmul_fin hN.fin hg.fin
  rw [show (1074 : Nat) = e1 from rfl, hp, rndQ_U] at hf
  have hfin : rndN (n.natAbs * M * 2 ^ K) < 9218868437227405312 := by
    have h1 := fin_rung hc.fin
    rw [hf, wd_rung (rndN_le _)] at h1
    exact h1
  have hex := rnd_shift_exact hs hfin
  have hv := V.word (s := sgn N ^^ sgn g) hfin
  rw [← hf, hex] at hv
  have hval : sq (sgn N ^^ sgn g) (((n.natAbs * M * 2 ^ K : Nat) : Rat) / (U : Rat)) = (n : Rat) * b := by
    rw [hN.form, hg.form, hNm, hM]
    simp only [cast_mul]
    cases sgn N <;> cases sgn g <;> simp [sq] <;> grind
  rw [hval] at hv
  exact hv
theorem Rl.mono {x y d e : Rat} (h : Rl x y d) (hd : d ≤ e) : Rl x y e := ⟨Rat.le_trans h.1 (Rat.mul_le_mul_of_nonneg_right hd (Rat.le_of_lt h.2)), h.2⟩
theorem vnum {w k : Nat} (h : w < 9218868437227405312) (e : mval w = k * U) : V w (k : Rat) := by
  have hv := V.pos h
  have e2 : (mval w : Rat) / (U : Rat) = (k : Rat) := by
    rw [e, cast_mul]
    have h1 := div_self_mul ((k : Rat) * (U : Rat)) UQ_ne
    have hU := UQ_ne
    generalize (k : Rat) * (U : Rat) / (U : Rat) = Y at *
    have : (Y - (k : Rat)) * (U : Rat) = 0 := by grind
    grind
  rw [e2] at hv
  exact hv
theorem V.unit1 : V 4607182418800017408 1 := by
  have h := vnum (w := 4607182418800017408) (k := 1) (by decide) (by decide +kernel)
  have e : ((1 : Nat) : Rat) = 1 := by decide +kernel
  rwa [e] at h
theorem V.half : V 4602678819172646912 (1 / 2) := by
  have h := V.pos (r := 4602678819172646912) (by decide)
  have e : mval 4602678819172646912 * 2 = U := by decide +kernel
  have e2 : ((mval 4602678819172646912 * 2 : Nat) : Rat) = (U : Rat) := by rw [e]
  rw [cast_mul] at e2
  have h1 := div_self_mul (mval 4602678819172646912 : Rat) UQ_ne
  have hU := UQ_ne
  have e3 : ((2 : Nat) : Rat) = 2 := rfl
  have : (mval 4602678819172646912 : Rat) / (U : Rat) = 1 / 2 := by
    generalize (mval 4602678819172646912 : Rat) / (U : Rat) = Y at *
    have : (Y - 1 / 2) * (U : Rat) = 0 := by grind
    grind
  rwa [this] at h
theorem posV {E : Nat} {e : Rat} (hE : V E e) (hl : E < 9218868437227405312) : 0 ≤ e ∧ e = (mval E : Rat) / (U : Rat) ∧ rung E = E := by
  have e1 := hE.uniq (V.pos hl)
  refine ⟨?_, e1, (word_facts hl).2.2.1⟩
  rw [e1, le_div UQ_pos, Rat.zero_mul]
  exact cast_nn _
theorem sval_vals {f g : Nat} {a b : Rat} (hf : V f a) (hg : V g b) : (a ≤ b → sval f ≤ sval g) ∧ (a < b → sval f < sval g) := by
  have e1 := hf.val
  have e2 := hg.val
  unfold qv at e1 e2
  have hU := UQ_pos
  have d1 := div_self_mul (sval f : Rat) UQ_ne
  have d2 := div_self_mul (sval g : Rat) UQ_ne
  rw [e1] at d1
  rw [e2] at d2
  constructor
  · intro h
    have m := Rat.mul_le_mul_of_nonneg_right h (Rat.le_of_lt hU)
    rw [d1, d2] at m
    exact cast_le'.1 m
  · intro h
    rcases Int.lt_or_le (sval f) (sval g) with q | q
    · exact q
    · exfalso
      have m := cast_le'.2 q
      rw [← d1, ← d2] at m
      have := Rat.le_of_mul_le_mul_right m hU
      grind
theorem fle_vals {f g : Nat} {a b : Rat} (hf : V f a) (hg : V g b) (h : a ≤ b) : fle f g = true := by
  rw [fle_eq, fin_notN hf.fin, fin_notN hg.fin]
  simpa using (sval_vals hf hg).1 h
theorem flt_vals {f g : Nat} {a b : Rat} (hf : V f a) (hg : V g b) (h : a < b) : flt f g = true := by
  rw [flt_eq, fin_notN hf.fin, fin_notN hg.fin]
  simpa using (sval_vals hf hg).2 h
theorem V.ofNat {k : Nat} (h : k < 9007199254740992) : V (ofInt k) (k : Rat) := by
  obtain ⟨h1, h2⟩ := rnd_whole h
  have e : ofInt (k : Int) = rndN (k * U) := by
    rw [ofInt_eq, decide_eq_false (by omega)]
    unfold wd; exact if_neg (by decide)
  rw [e]
  have hv := V.pos h1
  rw [h2, cast_mul] at hv
  have e2 : (k : Rat) * (U : Rat) / (U : Rat) = (k : Rat) := by have := UQ_ne; grind
  rwa [e2] at hv
theorem flt_words {r s : Nat} (h : r < 9218868437227405312) (k : s < 9218868437227405312) : flt r s = decide (r < s) := by
  obtain ⟨_, _, _, a4, a5, _⟩ := word_facts h
  obtain ⟨_, _, _, b4, b5, _⟩ := word_facts k
  rw [flt_eq, a4, b4, a5, b5]
  have : (mval r : Int) < (mval s : Int) ↔ r < s := by rw [Int.ofNat_lt]; exact mval_lt_iff
  simp [this]
end Go.Proofs.Ytcfkhhnkboealaa
