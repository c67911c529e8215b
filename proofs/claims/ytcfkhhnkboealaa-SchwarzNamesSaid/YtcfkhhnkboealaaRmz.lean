/- What a float times a power of two is worth: the nearest float of it. Plain. Roots of floats. No condition. Rounding to the nearest: which rung it is, by the middles; roots of floats by their squares. Plain. Roots of floats by their squares. Plain. -/
import Derived.Test.YtcfkhhnkboealaaStra
import Derived.Test.YtcfkhhnkboealaaPara
import Derived.Test.YtcfkhhnkboealaaMida
import Derived.Test.YtcfkhhnkboealaaWhb
namespace Go.Proofs.Ytcfkhhnkboealaa
set_option linter.unusedVariables false
set_option linter.unusedSimpArgs false
set_option maxRecDepth 100000
/-- the rung nearest to m * 2 ^ t, in units of 2^-1074. -/
def rndE (m : Nat) (t : Int) : Nat := rndQ (m * 2 ^ t.toNat) (-t).toNat
theorem rndE_nat (m k : Nat) : rndE m (k : Int) = rndN (m * 2 ^ k) := by
  unfold rndE; rw [Int.toNat_natCast, show (-(k : Int)).toNat = 0 by omega]; rfl
theorem rndE_neg (m k : Nat) : rndE m (-(k : Int)) = rndQ m k := by
  unfold rndE; rw [show (-(k : Int)).toNat = 0 by omega, show (-(-(k : Int))).toNat = k by omega, Nat.pow_zero, Nat.mul_one]
theorem rndE_le (m : Nat) (t : Int) : rndE m t ≤ 9218868437227405312 := rndQ_le _ _
theorem rndE_shift (m k : Nat) (t : Int) : rndE (m * 2 ^ k) t = rndE m (t + k) := by
  unfold rndE
  by_cases h : 0 ≤ t
  · rw [show (t + k).toNat = k + t.toNat by omega, show (-t).toNat = 0 by omega, show (-(t + k)).toNat = 0 by omega, Nat.mul_assoc, ← Nat.pow_add]
  · by_cases h2 : 0 ≤ t + k
    · obtain ⟨d, hd⟩ : ∃ d : Nat, (-t).toNat = d := ⟨_, rfl⟩
      obtain ⟨e, he⟩ : ∃ e : Nat, (t + k).toNat = e := ⟨_, rfl⟩
      rw [hd, he, show t.toNat = 0 by omega, show (-(t + k)).toNat = 0 by omega, Nat.pow_zero, Nat.mul_one]
      have := rndQ_scale (m * 2 ^ e) 0 d
      rw [Nat.mul_assoc, ← Nat.pow_add, show e + d = k by omega, Nat.zero_add] at this
      exact this
    · rw [show t.toNat = 0 by omega, show (t + k).toNat = 0 by omega, Nat.pow_zero, Nat.mul_one, Nat.mul_one]
      have := rndQ_scale m (-(t + k)).toNat k
      rw [show (-(t + k)).toNat + k = (-t).toNat by omega] at this
      exact this
theorem rndE_zero (t : Int) : rndE 0 t = 0 := by unfold rndE; rw [Nat.zero_mul]; unfold rndQ; rw [if_pos rfl]
/-- by one's own choice of powers. -/
theorem rndE_form {m : Nat} (hm : m ≠ 0) {t : Int} {L p q : Nat} (hL : (L : Int) = max ((m.log2 : Int) + t - 52) 0) (h : (q : Int) - (p : Int) = (L : Int) - t) : rndE m t = min (L * 4503599627370496 + rne (m * 2 ^ p) (2 ^ q)) 9218868437227405312 := by
  have key : ∀ p' q' : Nat, (q' : Int) - (p' : Int) = (L : Int) - t → rne (m * 2 ^ p') (2 ^ q') = rne (m * 2 ^ p) (2 ^ q) := by
    intro p' q' h'
    have a := rne_scale (m * 2 ^ p) (2 ^ q) (2 ^ p') (Nat.two_pow_pos _)
    have b := rne_scale (m * 2 ^ p') (2 ^ q') (2 ^ p) (Nat.two_pow_pos _)
    rw [Nat.mul_assoc, ← Nat.pow_add, ← Nat.pow_add] at a b
    rw [← a, ← b, show p' + p = p + p' by omega, show q' + p = q + p' by omega]
  unfold rndE rndQ
  have h0 : m * 2 ^ t.toNat ≠ 0 := Nat.mul_ne_zero hm (Nat.ne_of_gt (Nat.two_pow_pos _))
  rw [if_neg h0, log2_mul _ _ hm]
  have e : m.log2 + t.toNat - 52 - (-t).toNat = L := by omega
  rw [e, key _ _ (by omega)]
theorem log2_52 {M : Nat} (h1 : 4503599627370496 ≤ M) (h2 : M < 9007199254740992) : M.log2 = 52 := (Nat.log2_eq_iff (by omega)).2 ⟨by omega, by omega⟩
theorem mval_stp {s q : Nat} (h1 : 4503599627370496 ≤ q) (h2 : q < 9007199254740992) : mval (s * 4503599627370496 + q) = q * 2 ^ s := by
  unfold mval
  rw [if_neg (by omega), show (s * 4503599627370496 + q) % 4503599627370496 = q - 4503599627370496 by omega, show (s * 4503599627370496 + q) / 4503599627370496 - 1 = s by omega, show 4503599627370496 + (q - 4503599627370496) = q by omega]
/-- a float brought up to full length. -/
theorem norm_val {f : Nat} (hf : fin f = true) (h0 : rung f ≠ 0) (hl : f < 18446744073709551616) : ∃ G, normF f = wd (sgn f) G ∧ 4503599627370496 ≤ G ∧ G < 9218868437227405312 ∧ ∃ c : Nat, normE f = -(c : Int) ∧ mval G = mval (rung f) * 2 ^ c := by
  have hn := fin_notN hf
  cases hs : flt (fabs f) 4503599627370496
  · refine ⟨rung f, ?_, ?_, fin_rung hf, 0, ?_, by rw [Nat.pow_zero, Nat.mul_one]⟩
    · unfold normF; rw [hs, if_neg (by decide)]; exact num_wd hl
    · rw [flt_eq, isN_abs, hn, show isN 4503599627370496 = false by decide +kernel, sval_abs hn, show sval 4503599627370496 = ((mval 4503599627370496 : Nat) : Int) by decide +kernel] at hs
      simp at hs
      exact mval_le_iff.1 hs
    · unfold normE; rw [hs]; rfl
  · obtain ⟨h1, h2⟩ := normF_tiny hs
    have h3 := rnd_exact (m := rung f) (k := 52) (by omega) (by decide)
    rw [show (2 : Nat) ^ 52 = 4503599627370496 by decide] at h3
    refine ⟨_, h1, ?_, h3.1, 52, ?_, ?_⟩
    · apply mval_le_iff.1
      rw [h3.2, show mval 4503599627370496 = 1 * 4503599627370496 by decide +kernel]
      exact Nat.mul_le_mul_right _ (by omega)
    · unfold normE; rw [hs]; rfl
    · rw [h3.2]; unfold mval; rw [if_pos h2]
theorem mval_two (k : Nat) : mval ((k + 1) * 4503599627370496) = 2 ^ (52 + k) := by
  rw [show (k + 1) * 4503599627370496 = k * 4503599627370496 + 4503599627370496 by omega, mval_stp (by omega) (by omega), Nat.pow_add]
theorem sgn_wd_ite (s : Bool) : nrm (rung 0 + if sgn (wd s 0) = true then 9223372036854775808 else 0) = wd s 0 := by cases s <;> decide +kernel
theorem tiny_mul {s : Bool} {M e : Nat} (h1 : 4503599627370496 ≤ M) (h2 : M < 9007199254740992) (he1 : 1 ≤ e) (he2 : e ≤ 53) : fmul 4368491638549381120 (wd s (e * 4503599627370496 + (M - 4503599627370496))) = wd s (rndQ M (54 - e)) := by
  have hr : e * 4503599627370496 + (M - 4503599627370496) < 9218868437227405312 := by omega
  have hfin : fin (wd s (e * 4503599627370496 + (M - 4503599627370496))) = true := by unfold fin; rw [wd_rung (by omega)]; simpa using hr
  rw [fmul_fin (by decide +kernel) hfin, wd_rung (by omega), wd_sgn (by omega), show sgn 4368491638549381120 = false by decide +kernel, Bool.false_xor]
  obtain ⟨k, rfl⟩ : ∃ k, e = k + 1 := ⟨e - 1, by omega⟩
  obtain ⟨K, hK⟩ : ∃ K : Nat, K = 969 := ⟨_, rfl⟩
  have e2 : mval (rung 4368491638549381120) = 2 ^ (52 + K) := by
    rw [show rung 4368491638549381120 = (K + 1) * 4503599627370496 by rw [hK]; decide +kernel, mval_two]
  rw [show (k + 1) * 4503599627370496 + (M - 4503599627370496) = k * 4503599627370496 + M by omega, mval_stp h1 h2, e2, Nat.mul_comm, Nat.mul_assoc, ← Nat.pow_add]
  have := rndQ_scale M (54 - (k + 1)) (k + (52 + K))
  rw [show 54 - (k + 1) + (k + (52 + K)) = 1074 by omega] at this
  rw [this]
theorem one_mul' {s : Bool} {r : Nat} (hr : r < 9218868437227405312) : fmul 4607182418800017408 (wd s r) = wd s r := by
  have hfin : fin (wd s r) = true := by unfold fin; rw [wd_rung (by omega)]; simpa using hr
  rw [fmul_fin (by decide +kernel) hfin, wd_rung (by omega), wd_sgn (by omega), show sgn 4607182418800017408 = false by decide +kernel, Bool.false_xor]
  obtain ⟨K, hK⟩ : ∃ K : Nat, K = 1022 := ⟨_, rfl⟩
  have e2 : mval (rung 4607182418800017408) = 2 ^ (52 + K) := by
    rw [show rung 4607182418800017408 = (K + 1) * 4503599627370496 by rw [hK]; decide +kernel, mval_two]
  rw [e2, Nat.mul_comm, show 1074 = 52 + K by omega, rndQ_cancel, rnd_mval hr]
/-- WHAT A SCALED FLOAT IS WORTH -/
theorem scale_val {f : Nat} (hl : f < 18446744073709551616) (hf : fin f = true) (h0 : rung f ≠ 0) (n : Int) : scaleF f n = wd (sgn f) (rndE (mval (rung f)) n) := by
  have hn := fin_notN hf
  obtain ⟨G, g1, g2, g3, c, g4, g5⟩ := norm_val hf h0 hl
  have g6 := normF_lt hl
  obtain ⟨E, hE⟩ : ∃ E, G / 4503599627370496 = E := ⟨_, rfl⟩
  obtain ⟨M, hM⟩ : ∃ M, M = 4503599627370496 + G % 4503599627370496 := ⟨_, rfl⟩
  have hM1 : 4503599627370496 ≤ M := by omega
  have hM2 : M < 9007199254740992 := by omega
  have hG : G = (E - 1) * 4503599627370496 + M := by omega
  have hE1 : 1 ≤ E := by omega
  have hE2 : E ≤ 2046 := by omega
  rw [hG, mval_stp hM1 hM2] at g5
  obtain ⟨x, hx⟩ : ∃ x, expOf f n = x := ⟨_, rfl⟩
  have hx2 : x = n - c + E - 1023 := by
    rw [← hx]; unfold expOf
    rw [g4, exp_field g6, g1, wd_rung (by omega), hE]; omega
  have hT : rndE (mval (rung f)) n = rndE M (x + 1022) := by
    have e1 := rndE_shift (mval (rung f)) c (n - c)
    rw [← g5, rndE_shift] at e1
    rw [show n = n - c + c by omega, ← e1]
    congr 1; omega
  rw [hT]
  unfold scaleF
  rw [feq_zero hn, isInf0 hn, hf, hn, hx]
  rw [if_neg (by simp [h0])]
  have hfld : ∀ e : Nat, e < 2047 → normF f / 9223372036854775808 * 9223372036854775808 + e * 4503599627370496 + normF f % 4503599627370496 = wd (sgn f) (e * 4503599627370496 + (M - 4503599627370496)) := by
    intro e he
    rw [fields_wd g6 e he, g1, wd_rung (by omega), wd_sgn (by omega), show M - 4503599627370496 = G % 4503599627370496 by omega]
  by_cases c1 : x < -1075
  · rw [if_pos c1]
    unfold copyF
    rw [g1, wd_sgn (by omega)]
    have hz : rndE M (x + 1022) = 0 := by
      obtain ⟨d, hd⟩ : ∃ d : Nat, x + 1022 = -(d : Int) := ⟨(-(x + 1022)).toNat, by omega⟩
      rw [hd, rndE_neg]
      unfold rndQ
      rw [if_neg (by omega), log2_52 hM1 hM2, show 52 - 52 - d = 0 by omega, Nat.zero_mul, Nat.zero_add, Nat.add_zero]
      have : 2 ^ 54 ≤ 2 ^ d := Nat.pow_le_pow_right (by decide) (by omega)
      rw [show (2 : Nat) ^ 54 = 18014398509481984 by decide] at this
      rw [rne_small (by omega)]; decide
    rw [hz]
    cases sgn f <;> decide +kernel
  · rw [if_neg c1]
    by_cases c2 : 1023 < x
    · rw [if_pos c2]
      have hz : rndE M (x + 1022) = 9218868437227405312 := by
        obtain ⟨d, hd⟩ : ∃ d : Nat, x + 1022 = (d : Int) := ⟨(x + 1022).toNat, by omega⟩
        rw [rndE_form (m := M) (L := d) (p := d) (q := d) (by omega) (by rw [log2_52 hM1 hM2]; omega) (by omega)]
        rw [rne_mul _ _ (Nat.two_pow_pos _)]
        have hd2 : 2046 ≤ d := by omega
        exact Nat.min_eq_right (by clear hfld hT hx2 hx g5 g4 hE; omega)
      have hp := mval_pos (show 0 < G by omega)
      have hfl : flt (normF f) 0 = sgn f := by
        rw [flt_eq, g1, wd_notN (by omega), show isN 0 = false by decide +kernel, wd_sval (by omega), sval_zero]
        generalize mval G = m at hp
        cases sgn f
        · simp
        · simp; omega
      rw [hz, hfl]
      cases sgn f <;> rfl
    · rw [if_neg c2]
      by_cases c3 : x < -1022
      · rw [if_pos c3, hfld _ (by omega), tiny_mul hM1 hM2 (by omega) (by omega)]
        obtain ⟨d, hd⟩ : ∃ d : Nat, x + 1022 = -(d : Int) := ⟨(-(x + 1022)).toNat, by omega⟩
        rw [hd, rndE_neg, show 54 - (x + 1076).toNat = d by omega]
      · rw [if_neg c3, hfld _ (by omega), one_mul' (by omega)]
        obtain ⟨d, hd⟩ : ∃ d : Nat, x + 1022 = (d : Int) := ⟨(x + 1022).toNat, by omega⟩
        rw [hd, rndE_form (m := M) (L := d) (p := d) (q := d) (by omega) (by rw [log2_52 hM1 hM2]; omega) (by omega), rne_mul _ _ (Nat.two_pow_pos _), show (x + 1023).toNat = d + 1 by omega]
        have hd2 : d ≤ 2045 := by omega
        clear hfld hT hx2 hx g5 g4 hE
        rw [Nat.min_eq_left (by omega), show (d + 1) * 4503599627370496 + (M - 4503599627370496) = d * 4503599627370496 + M by omega]
/-- of nought nought. -/
theorem scale_nought {f : Nat} (hn : isN f = false) (h0 : rung f = 0) (n : Int) : scaleF f n = f := by
  unfold scaleF
  rw [feq_zero hn, h0]; rfl
/-- of what is not finite that itself. -/
theorem scale_notfin {f : Nat} (hn : fin f = false) (n : Int) : scaleF f n = f := by
  unfold scaleF
  cases h : isN f
  · rw [isInf0 h, hn]; simp
  · simp
end Go.Proofs.Ytcfkhhnkboealaa
namespace Go.Proofs.Ytcfkhhnkboealaa
open Go.RowKit
set_option linter.unusedVariables false
set_option linter.unusedSimpArgs false
set_option maxRecDepth 100000

def fsqrt (x : Nat) : Nat := canon (Ieee.double.sqrt x)
theorem sqrt_def (x : Nat) : fsqrt x = canon (((Ieee.double.read x).root (Ieee.double.fractionBits + 2)).map Ieee.double.write) := rfl
theorem root_none (k : Nat) (d : Ieee.Datum) (h : d.isNaN = true) : d.root k = none := by
  cases d <;> simp [Ieee.Datum.isNaN] at h <;> rfl
theorem root_notNaN {k : Nat} {d s : Ieee.Datum} (h : d.root k = some s) : s.isNaN = false := by
  cases d with
  | nan => simp [Ieee.Datum.root] at h
  | infinity t => simp [Ieee.Datum.root] at h; rw [← h.2]; rfl
  | number t m i =>
    simp only [Ieee.Datum.root] at h
    split at h
    · simp at h; rw [← h]; rfl
    · split at h
      · cases h
      · simp at h; rw [← h]; rfl
theorem nrm_fsqrt (x : Nat) : nrm (fsqrt x) = fsqrt x := canon_map_notN _ fun _ h => root_notNaN h
theorem fsqrt_nrm (x : Nat) : fsqrt (nrm x) = fsqrt x := by
  simp only [sqrt_def]
  cases hx : isN x
  · rw [nrm_of_not hx]
  · rw [nrm_of hx, root_none _ _ hx, root_none _ _ isN_nanB]
theorem fsqrt_lt (x : Nat) : fsqrt x < 18446744073709551616 := canon_map_lt _
def sqRes (x : Nat) (w : World) : Nat :=
  match FloatKind.f64.format.sqrt x with
  | some r => r
  | none => (Question.nanBits .f64 x x).cut (w.tape w.drawn (.nanBits .f64 x x))
def sqDr (x : Nat) : Nat :=
  match FloatKind.f64.format.sqrt x with
  | some _ => 0
  | none => 1
theorem run_sqrt {P : Program} (x : Nat) (w : World) : (Extern.MathSqrt.sqrt #[.float .f64 x]).run P w = .ok (.float .f64 (sqRes x w)) (w.drewN (sqDr x)) := by
  have e : Extern.MathSqrt.sqrt #[.float .f64 x] = (match FloatKind.f64.format.sqrt x with | some r => pure (.float .f64 r) | none => do pure (.float .f64 (← choose (.nanBits .f64 x x)))) := rfl
  rw [e]
  unfold sqRes sqDr
  cases h : FloatKind.f64.format.sqrt x with
  | some r => rfl
  | none => simp [choose, Sem.run, Question.forced, World.drewN]
theorem sqrt_rep {x f : Nat} (hx : Rep x f) (w : World) : Rep (sqRes x w) (fsqrt f) := by
  rw [← hx.eq, fsqrt_nrm]
  have e1 := nrm_fsqrt x
  have e2 := fsqrt_lt x
  unfold sqRes
  unfold fsqrt at *
  have e : FloatKind.f64.format.sqrt x = Ieee.double.sqrt x := rfl
  rw [e]
  cases h : Ieee.double.sqrt x with
  | some r => rw [h] at e1 e2; exact ⟨e2, e1⟩
  | none => exact Rep.nan (nanBits_cut _ _ _).2 (nanBits_cut _ _ _).1
@[go_sem] theorem call_sqrt (x : Nat) (w : World) : (callFunc 151 #[.float .f64 x]).run Try.prog w = .ok (.value (.float .f64 (sqRes x w))) (w.drewN (sqDr x)) := by
  rw [run_callFunc_extern (e := Extern.MathSqrt.sqrt) Try.func151 (by kernel_rfl) (by kernel_rfl) (by kernel_rfl) (by kernel_rfl)]
  simp only [Sem.run_bind, run_sqrt, Result.andThen_ok]
  try rfl
section
variable {x y f g : Nat} (hx : Rep x f) (hy : Rep y g) (w : World)
include hx
theorem sqrt_c : Calls Try.prog 107 #[.float .f64 x] w (RetF (fsqrt f) w) := by
  go_enter Try.func107, Try.ntmps107
  go_wp2
  go_ret
  exact RetF.mk _ (sqrt_rep hx _)
end
end Go.Proofs.Ytcfkhhnkboealaa
namespace Go.Proofs.Ytcfkhhnkboealaa
set_option linter.unusedVariables false
set_option linter.unusedSimpArgs false
set_option maxRecDepth 100000
theorem rne_err (n g : Nat) (hg : 0 < g) : 2 * n ≤ (2 * rne n g + 1) * g ∧ 2 * (rne n g * g) ≤ 2 * n + g := by
  unfold rne
  have hm := Nat.mod_lt n hg
  have hd := Nat.div_add_mod n g
  generalize n % g = r at *
  generalize n / g = q at *
  subst hd
  have e1 : (2 * q + 1) * g = 2 * (g * q) + g := by rw [Nat.add_mul, Nat.one_mul, Nat.mul_assoc, Nat.mul_comm q g]
  have e2 : (2 * (q + 1) + 1) * g = 2 * (g * q) + 3 * g := by rw [Nat.add_mul, Nat.one_mul, Nat.mul_assoc, Nat.add_mul, Nat.mul_comm q g]; omega
  have e3 : 2 * ((q + 1) * g) = 2 * (g * q) + 2 * g := by rw [Nat.add_mul, Nat.mul_comm q g]; omega
  have e4 : 2 * (q * g) = 2 * (g * q) := by rw [Nat.mul_comm q g]
  split
  · rename_i h
    simp at h
    rw [e2, e3]
    omega
  · rename_i h
    simp at h
    simp only [Nat.add_zero]
    rw [e1, e4]
    omega
/-- the worth of a place's next one. -/
theorem mval_next {L q : Nat} (hq : q ≤ 9007199254740992) (h : L = 0 ∨ 4503599627370496 ≤ q) : (q + 1) * 2 ^ L ≤ mval (L * 4503599627370496 + q + 1) := by
  by_cases h1 : q + 1 < 9007199254740992
  · rcases h with h | h
    · subst h
      rw [Nat.pow_zero, Nat.mul_one, Nat.zero_mul, Nat.zero_add]
      by_cases h2 : q + 1 < 4503599627370496
      · unfold mval; rw [if_pos h2]; exact Nat.le_refl _
      · have := mval_stp (s := 0) (q := q + 1) (by omega) h1
        rw [Nat.zero_mul, Nat.zero_add, Nat.pow_zero, Nat.mul_one] at this
        rw [this]; exact Nat.le_refl _
    · have := mval_stp (s := L) (q := q + 1) (by omega) h1
      rw [show L * 4503599627370496 + q + 1 = L * 4503599627370496 + (q + 1) by omega, this]; exact Nat.le_refl _
  · by_cases h2 : q + 1 = 9007199254740992
    · have := mval_stp (s := L + 1) (q := 4503599627370496) (by omega) (by omega)
      rw [show L * 4503599627370496 + q + 1 = (L + 1) * 4503599627370496 + 4503599627370496 by omega, this, h2, Nat.pow_succ]
      have := Nat.two_pow_pos L
      omega
    · have h3 : q = 9007199254740992 := by omega
      subst h3
      have := mval_stp (s := L + 1) (q := 4503599627370497) (by omega) (by omega)
      rw [show L * 4503599627370496 + 9007199254740992 + 1 = (L + 1) * 4503599627370496 + 4503599627370497 by omega, this, Nat.pow_succ]
      have := Nat.two_pow_pos L
      omega
theorem mval_plc {L q : Nat} (hq : q ≤ 9007199254740992) (h : L = 0 ∨ 4503599627370496 ≤ q) : mval (L * 4503599627370496 + q) = q * 2 ^ L := by
  by_cases h1 : q = 9007199254740992
  · subst h1
    have := mval_stp (s := L + 1) (q := 4503599627370496) (by omega) (by omega)
    rw [show L * 4503599627370496 + 9007199254740992 = (L + 1) * 4503599627370496 + 4503599627370496 by omega, this, Nat.pow_succ]
    omega
  · rcases h with h | h
    · subst h
      rw [Nat.pow_zero, Nat.mul_one, Nat.zero_mul, Nat.zero_add]
      by_cases h2 : q < 4503599627370496
      · unfold mval; rw [if_pos h2]
      · have := mval_stp (s := 0) (q := q) (by omega) (by omega)
        rwa [Nat.zero_mul, Nat.zero_add, Nat.pow_zero, Nat.mul_one] at this
    · exact mval_stp h (by omega)
/-- the rounded figure and its place. -/
theorem rndQ_plc {m : Nat} (hm : m ≠ 0) (d : Nat) : ∃ L q : Nat, rndQ m d = min (L * 4503599627370496 + q) 9218868437227405312 ∧ q = rne m (2 ^ (d + L)) ∧ q ≤ 9007199254740992 ∧ (L = 0 ∨ (4503599627370496 ≤ q ∧ 4503599627370496 * 2 ^ (d + L) ≤ m)) := by
  have l1 := Nat.log2_self_le hm
  have l2 := @Nat.lt_log2_self m
  refine ⟨m.log2 - 52 - d, _, by unfold rndQ; rw [if_neg hm], rfl, ?_, ?_⟩
  · apply rne_le_of (Nat.two_pow_pos _)
    rw [show (9007199254740992 : Nat) = 2 ^ 53 by decide, ← Nat.pow_add]
    exact Nat.le_of_lt (Nat.lt_of_lt_of_le l2 (Nat.pow_le_pow_right (by decide) (by omega)))
  · by_cases h : m.log2 - 52 - d = 0
    · exact .inl h
    · right
      have h2 : 4503599627370496 * 2 ^ (d + (m.log2 - 52 - d)) ≤ m := by
        rw [show (4503599627370496 : Nat) = 2 ^ 52 by decide, ← Nat.pow_add]
        exact Nat.le_trans (Nat.pow_le_pow_right (by decide) (by omega)) l1
      exact ⟨le_rne_of (Nat.two_pow_pos _) h2, h2⟩
/-- THE MIDDLES: a rounded number lies between the middles beside it. -/
theorem rnd_below {m d r : Nat} (hr : rndQ m d = r) (hf : r < 9218868437227405312) : 2 * m ≤ (mval r + mval (r + 1)) * 2 ^ d := by
  by_cases hm : m = 0
  · subst hm; exact Nat.zero_le _
  · obtain ⟨L, q, h1, h2, h3, h4⟩ := rndQ_plc hm d
    have hrq : r = L * 4503599627370496 + q := by rw [← hr, h1]; rw [hr] at h1; omega
    have h5 : L = 0 ∨ 4503599627370496 ≤ q := h4.imp id (·.1)
    have a := mval_plc h3 h5
    have b := mval_next h3 h5
    rw [hrq, a]
    have e := (rne_err m (2 ^ (d + L)) (Nat.two_pow_pos _)).1
    rw [← h2] at e
    refine Nat.le_trans e ?_
    rw [Nat.pow_add, Nat.mul_comm (2 ^ d), ← Nat.mul_assoc]
    refine Nat.mul_le_mul_right _ ?_
    refine Nat.le_trans ?_ (Nat.add_le_add_left b _)
    rw [← Nat.add_mul]
    exact Nat.le_of_eq (by congr 1; omega)
theorem rnd_above {m d r : Nat} (hr : rndQ m d = r) (h0 : 0 < r) (hf : r < 9218868437227405312) : (mval (r - 1) + mval r) * 2 ^ d ≤ 2 * m := by
  by_cases hm : m = 0
  · subst hm; unfold rndQ at hr; rw [if_pos rfl] at hr; omega
  · obtain ⟨L, q, h1, h2, h3, h4⟩ := rndQ_plc hm d
    have hrq : r = L * 4503599627370496 + q := by rw [hr] at h1; omega
    have h5 : L = 0 ∨ 4503599627370496 ≤ q := h4.imp id (·.1)
    have a := mval_plc h3 h5
    have e := (rne_err m (2 ^ (d + L)) (Nat.two_pow_pos _)).2
    rw [← h2] at e
    by_cases hq : L = 0 ∨ 4503599627370496 < q
    · have b := mval_plc (L := L) (q := q - 1) (by omega) (by omega)
      rw [hrq, a, show L * 4503599627370496 + q - 1 = L * 4503599627370496 + (q - 1) by omega, b]
      rw [Nat.pow_add] at e
      have hp : 0 < 2 ^ d * 2 ^ L := Nat.mul_pos (Nat.two_pow_pos _) (Nat.two_pow_pos _)
      have e1 : (q - 1) * 2 ^ L + q * 2 ^ L = (2 * q - 1) * 2 ^ L := by rw [← Nat.add_mul]; congr 1; omega
      rw [e1, Nat.mul_assoc, Nat.mul_comm (2 ^ L)]
      generalize 2 ^ d * 2 ^ L = G at *
      have hq1 : 1 ≤ q := by omega
      have e2 : (2 * q - 1) * G = 2 * (q * G) - G := by rw [Nat.sub_mul, Nat.one_mul, Nat.mul_assoc]
      rw [e2]; omega
    · have hL : L ≠ 0 := fun h => hq (.inl h)
      have hq2 : q = 4503599627370496 := by
        rcases h5 with h5 | h5
        · exact absurd h5 hL
        · have : ¬ 4503599627370496 < q := fun h => hq (.inr h)
          omega
      have hmm : 4503599627370496 * 2 ^ (d + L) ≤ m := by
        rcases h4 with h4 | h4
        · exact absurd h4 hL
        · exact h4.2
      have hle : mval (r - 1) ≤ mval r := mval_le_iff.2 (by omega)
      have : (mval (r - 1) + mval r) * 2 ^ d ≤ 2 * (mval r * 2 ^ d) := by
        rw [← Nat.mul_assoc]
        exact Nat.mul_le_mul_right _ (by omega)
      refine Nat.le_trans this ?_
      rw [hrq, a, hq2, Nat.mul_assoc, ← Nat.pow_add, Nat.add_comm L d]
      omega
end Go.Proofs.Ytcfkhhnkboealaa
namespace Go.Proofs.Ytcfkhhnkboealaa
set_option linter.unusedVariables false
set_option linter.unusedSimpArgs false
set_option maxRecDepth 100000
theorem rootFrom_ok (n : Nat) : ∀ (k r : Nat), r * r ≤ n → n < (r + 2 ^ k) * (r + 2 ^ k) → Ieee.Datum.rootFrom n k r * Ieee.Datum.rootFrom n k r ≤ n ∧ n < (Ieee.Datum.rootFrom n k r + 1) * (Ieee.Datum.rootFrom n k r + 1)
  | 0, r, h1, h2 => by simp only [Ieee.Datum.rootFrom]; exact ⟨h1, by simpa using h2⟩
  | k + 1, r, h1, h2 => by
    simp only [Ieee.Datum.rootFrom]
    rw [Nat.one_shiftLeft]
    split
    · rename_i h
      refine rootFrom_ok n k _ h ?_
      rw [show r + 2 ^ k + 2 ^ k = r + 2 ^ (k + 1) by rw [Nat.pow_succ]; omega]
      exact h2
    · rename_i h
      exact rootFrom_ok n k r h1 (by omega)
theorem wd_f0 (r : Nat) : wd false r = r := by unfold wd; exact if_neg (by decide)
theorem dvd_grid {r G : Nat} (h : (G + 1) * 4503599627370496 ≤ r) : 2 ^ G ∣ mval r := by
  unfold mval
  rw [if_neg (by omega)]
  exact Nat.dvd_trans (Nat.pow_dvd_pow 2 (by omega)) (Nat.dvd_mul_left _ _)
theorem sq_lt {x y : Nat} (h : x * x < y * y) : x < y := by
  rcases Nat.lt_or_ge x y with h2 | h2
  · exact h2
  · exact absurd (Nat.mul_le_mul h2 h2) (by omega)
theorem sq_le {x y : Nat} (h : x ≤ y) : x * x ≤ y * y := Nat.mul_le_mul h h
/-- a root's figures. -/
theorem sqrt_parts {r : Nat} (h0 : 0 < r) (hr : r < 9218868437227405312) : ∃ n w a : Nat, ∃ st : Bool, fsqrt r = rndN ((2 * w + st.toNat) * 2 ^ a) ∧ w * w ≤ n ∧ n < (w + 1) * (w + 1) ∧ (st = false → w * w = n) ∧ mval r * U = n * (4 * (2 ^ a * 2 ^ a)) ∧ 2 ^ 54 ≤ w ∧ w < 2 ^ 55 ∧ a ≤ 1600 := by
  have hrr : rung r = r := by unfold rung; omega
  have hs : sgn r = false := by unfold sgn; simp; omega
  obtain ⟨m, k, er, e2, e3, e4⟩ := read_number (x := r) (by rw [hrr]; exact hr)
  rw [hrr] at e2
  rw [hs] at er
  have hm : m ≠ 0 := by intro e; rw [e, Nat.zero_mul] at e2; have := mval_pos h0; omega
  obtain ⟨more, hmore⟩ : ∃ more : Nat, more = 2 * (52 + 2) - m.log2 + (((-1074 + (k : Int)) - ((2 * (52 + 2) - m.log2 : Nat) : Int)) % 2).toNat := ⟨_, rfl⟩
  have hl : m.log2 ≤ 52 := by
    have := (Nat.log2_lt hm (k := 53)).2 (by omega)
    omega
  have hev : ((-1074 + (k : Int)) - (more : Int)) % 2 = 0 := by omega
  obtain ⟨h, hh⟩ : ∃ h : Int, (-1074 + (k : Int)) - (more : Int) = 2 * h := ⟨((-1074 + (k : Int)) - (more : Int)) / 2, by omega⟩
  have hm1 : more ≤ 109 := by omega
  have hm2 : 56 ≤ more := by omega
  obtain ⟨a, ha⟩ : ∃ a : Nat, (a : Int) = h + 1073 := ⟨(h + 1073).toNat, by omega⟩
  obtain ⟨n, hn⟩ : ∃ n, n = m * 2 ^ more := ⟨_, rfl⟩
  have hn0 : n ≠ 0 := by rw [hn]; exact Nat.mul_ne_zero hm (Nat.ne_of_gt (Nat.two_pow_pos _))
  have hlog : n.log2 = m.log2 + more := by rw [hn]; exact log2_mul m more hm
  have hl1 : 108 ≤ n.log2 := by rw [hlog]; omega
  have hl2 : n.log2 ≤ 109 := by rw [hlog]; omega
  obtain ⟨w, hw⟩ : ∃ w, w = Ieee.Datum.rootFrom n (n.log2 / 2 + 1) 0 := ⟨_, rfl⟩
  have hlt := @Nat.lt_log2_self n
  have hge := Nat.log2_self_le hn0
  have hspec := rootFrom_ok n (n.log2 / 2 + 1) 0 (Nat.zero_le _) (by
    rw [Nat.zero_add, ← Nat.pow_add]
    exact Nat.lt_of_lt_of_le hlt (Nat.pow_le_pow_right (by decide) (by omega)))
  rw [← hw] at hspec
  have hwlo : 2 ^ 54 ≤ w := by
    rcases Nat.lt_or_ge w (2 ^ 54) with h3 | h3
    · have h4 : (w + 1) * (w + 1) ≤ 2 ^ 54 * 2 ^ 54 := sq_le h3
      rw [← Nat.pow_add] at h4
      have h5 : 2 ^ 108 ≤ n := Nat.le_trans (Nat.pow_le_pow_right (by decide) hl1) hge
      omega
    · exact h3
  have hwhi : w < 2 ^ 55 := by
    apply sq_lt
    rw [← Nat.pow_add]
    have h5 : n < 2 ^ 110 := Nat.lt_of_lt_of_le hlt (Nat.pow_le_pow_right (by decide) (by omega))
    omega
  refine ⟨n, w, a, (w * w != n), ?_, hspec.1, hspec.2, ?_, ?_, hwlo, hwhi, by omega⟩
  · rw [sqrt_def, er]
    have e5 : Ieee.double.fractionBits = 52 := rfl
    rw [e5]
    have key : (Ieee.Datum.number false m (-1074 + (k : Int))).root (52 + 2) = some (.number false (2 * w + (w * w != n).toNat) (h - 1)) := by
      simp only [Ieee.Datum.root]
      rw [if_neg hm]
      simp only [Bool.false_eq_true, if_false]
      rw [← hmore, Nat.shiftLeft_eq, ← hn, ← hw, hh]
      congr 3
      omega
    rw [key]
    show canon (some (Ieee.double.nearest false _ (h - 1))) = _
    rw [nearest_any false _ a 0 (h - 1) (by omega), word_eq, wd_f0]
    rfl
  · intro hst
    simpa using hst
  · have e6 : k + e1 = more + (2 * a + 2) := by have := e1_eq; omega
    rw [e2, hn, show U = 2 ^ e1 from by unfold U; rfl, Nat.mul_assoc, Nat.mul_assoc, ← Nat.pow_add, e6, Nat.pow_add, show 2 * a + 2 = a + a + 2 by omega, Nat.pow_add 2 (a + a), Nat.pow_add 2 a a]
    congr 2
    rw [show (2 : Nat) ^ 2 = 4 by decide, Nat.mul_comm]
theorem sqrt_fin {r : Nat} (h0 : 0 < r) (hr : r < 9218868437227405312) : fsqrt r < 9218868437227405312 := by
  obtain ⟨n, w, a, st, e, _, _, _, _, _, hw, ha⟩ := sqrt_parts h0 hr
  rw [e]
  obtain ⟨K, hK⟩ : ∃ K : Nat, K = 1600 := ⟨_, rfl⟩
  have hst : st.toNat ≤ 1 := by cases st <;> decide
  have hm := mval_stp (s := K + 4) (q := 4503599627370496) (by omega) (by omega)
  have hw2 : 2 * w + st.toNat ≤ 72057594037927936 := by
    rw [show (2 : Nat) ^ 55 = 36028797018963968 by decide] at hw; omega
  have h1 : (2 * w + st.toNat) * 2 ^ a ≤ mval ((K + 4) * 4503599627370496 + 4503599627370496) := by
    rw [hm, Nat.pow_add 2 K 4, show (2 : Nat) ^ 4 = 16 by decide, Nat.mul_comm (2 ^ K) 16, ← Nat.mul_assoc, show 4503599627370496 * 16 = 72057594037927936 by decide]
    exact Nat.mul_le_mul hw2 (Nat.pow_le_pow_right (by decide) (by omega))
  exact Nat.lt_of_le_of_lt (rndN_le_of (by omega) h1) (by omega)
/-- the figure's place: far above the last digit of the root. -/
theorem sqrt_place {r : Nat} (h0 : 0 < r) (hr : r < 9218868437227405312) {w a : Nat} {st : Bool} (e : fsqrt r = rndN ((2 * w + st.toNat) * 2 ^ a)) (hw : 2 ^ 54 ≤ w) : (a + 4) * 4503599627370496 ≤ fsqrt r := by
  have hm := mval_stp (s := a + 3) (q := 4503599627370496) (by omega) (by omega)
  have hf := sqrt_fin h0 hr
  rcases Nat.lt_or_ge (fsqrt r) ((a + 4) * 4503599627370496) with h | h
  · exfalso
    have hw2 : 18014398509481984 ≤ w := by rw [show (2 : Nat) ^ 54 = 18014398509481984 by decide] at hw; exact hw
    have h1 : mval ((a + 3) * 4503599627370496 + 4503599627370496) ≤ (2 * w + st.toNat) * 2 ^ a := by
      rw [hm, Nat.pow_add 2 a 3, show (2 : Nat) ^ 3 = 8 by decide, Nat.mul_comm (2 ^ a) 8, ← Nat.mul_assoc]
      exact Nat.mul_le_mul_right _ (by omega)
    have hcinf : (a + 3) * 4503599627370496 + 4503599627370496 < 9218868437227405312 ∨ 9218868437227405312 ≤ (a + 3) * 4503599627370496 + 4503599627370496 := by omega
    rcases hcinf with hc | hc
    · have := le_rndN_of hc h1
      rw [← e] at this
      omega
    · -- beyond all: then the root would be infinite
      have h2 : mval 9218868437227405311 ≤ (2 * w + st.toNat) * 2 ^ a := Nat.le_trans (mval_le_iff.2 (by omega)) h1
      have h3 : rndN (mval 9218868437227405312) ≤ rndN ((2 * w + st.toNat) * 2 ^ a) := rndN_mono (Nat.le_trans (mval_le_iff.2 hc) h1)
      have h4 : rndN (mval 9218868437227405312) = 9218868437227405312 := by decide +kernel
      rw [h4, ← e] at h3
      omega
  · exact h
theorem sq_parts (A t : Nat) : (4 * A) * t * ((4 * A) * t) = t * t * (16 * (A * A)) := by
  rw [Nat.mul_mul_mul_comm (4 * A) t, Nat.mul_mul_mul_comm 4 A 4 A, Nat.mul_comm (t * t)]
theorem place_lo {a s : Nat} (h : (a + 4) * 4503599627370496 ≤ s) : (a + 2 + 1) * 4503599627370496 ≤ s - 1 ∧ (a + 2 + 1) * 4503599627370496 ≤ s := by omega
/-- A ROOT FROM BELOW -/
theorem sqrt_lo {r c : Nat} (h0 : 0 < r) (hr : r < 9218868437227405312) (h1 : 1 ≤ c) (hc : c < 9218868437227405312) (h : (mval (c - 1) + mval c) * (mval (c - 1) + mval c) < 4 * (mval r * U)) : c ≤ fsqrt r := by
  rcases Nat.lt_or_ge (fsqrt r) c with hlt | hge
  · exfalso
    obtain ⟨n, w, a, st, e, w1, w2, w3, hV, hw, _, _⟩ := sqrt_parts h0 hr
    have hpl := sqrt_place h0 hr e hw
    have hf := sqrt_fin h0 hr
    have hb := rnd_below (m := (2 * w + st.toNat) * 2 ^ a) (d := 0) (r := fsqrt r) (by rw [e]; rfl) hf
    rw [Nat.pow_zero, Nat.mul_one] at hb
    have g1 := mval_le_iff.2 (show fsqrt r ≤ c - 1 by omega)
    have g2 := mval_le_iff.2 (show fsqrt r + 1 ≤ c by omega)
    have d1 : 2 ^ (a + 3) ∣ mval (c - 1) := dvd_grid (by omega)
    have d2 : 2 ^ (a + 3) ∣ mval c := dvd_grid (by omega)
    obtain ⟨t, ht⟩ := Nat.dvd_add d1 d2
    rw [Nat.pow_add, show (2 : Nat) ^ 3 = 8 by decide] at ht
    rw [ht, hV] at h
    have hp : 0 < 2 ^ a := Nat.two_pow_pos a
    generalize 2 ^ a = A at *
    -- 8 A t squared below 16 n A A
    have e1 : A * 8 * t * (A * 8 * t) = (2 * t) * (2 * t) * (16 * (A * A)) := by
      rw [show A * 8 * t = (4 * A) * (2 * t) by rw [Nat.mul_mul_mul_comm 4 A 2 t, Nat.mul_comm A 8, Nat.mul_assoc]]
      exact sq_parts A (2 * t)
    have e2 : 4 * (n * (4 * (A * A))) = n * (16 * (A * A)) := by
      rw [Nat.mul_left_comm n 4, ← Nat.mul_assoc 4 4, show 4 * 4 = 16 by decide, Nat.mul_left_comm n 16]
    rw [e1, e2] at h
    have h2 : (2 * t) * (2 * t) < n := Nat.lt_of_mul_lt_mul_right h
    have h3 : 2 * t < w + 1 := sq_lt (by omega)
    have h4 : 2 * ((2 * w + st.toNat) * A) ≤ A * 8 * t := by omega
    have h5 : 2 * (2 * w + st.toNat) ≤ 8 * t := by
      have e3 : 2 * ((2 * w + st.toNat) * A) = 2 * (2 * w + st.toNat) * A := (Nat.mul_assoc _ _ _).symm
      have e4 : A * 8 * t = 8 * t * A := by rw [Nat.mul_assoc, Nat.mul_comm]
      rw [e3, e4] at h4
      exact Nat.le_of_mul_le_mul_right h4 hp
    cases st
    · have h6 := w3 rfl
      have h7 : w = 2 * t := by simp at h5; omega
      rw [← h7, h6] at h2
      omega
    · simp at h5; omega
  · exact hge
/-- A ROOT FROM ABOVE -/
theorem sqrt_hi {r c : Nat} (h0 : 0 < r) (hr : r < 9218868437227405312) (h : 4 * (mval r * U) < (mval c + mval (c + 1)) * (mval c + mval (c + 1))) : fsqrt r ≤ c := by
  rcases Nat.lt_or_ge c (fsqrt r) with hlt | hge
  · exfalso
    obtain ⟨n, w, a, st, e, w1, w2, w3, hV, hw, _, _⟩ := sqrt_parts h0 hr
    have hpl := sqrt_place h0 hr e hw
    have hf := sqrt_fin h0 hr
    have hb := rnd_above (m := (2 * w + st.toNat) * 2 ^ a) (d := 0) (r := fsqrt r) (by rw [e]; rfl) (by omega) hf
    rw [Nat.pow_zero, Nat.mul_one] at hb
    have g1 := mval_le_iff.2 (show c ≤ fsqrt r - 1 by omega)
    have g2 := mval_le_iff.2 (show c + 1 ≤ fsqrt r by omega)
    have d1 : 2 ^ (a + 2) ∣ mval (fsqrt r - 1) := dvd_grid (place_lo hpl).1
    have d2 : 2 ^ (a + 2) ∣ mval (fsqrt r) := dvd_grid (place_lo hpl).2
    obtain ⟨t, ht⟩ := Nat.dvd_add d1 d2
    rw [Nat.pow_add, show (2 : Nat) ^ 2 = 4 by decide] at ht
    have h8 : 4 * (mval r * U) < (mval (fsqrt r - 1) + mval (fsqrt r)) * (mval (fsqrt r - 1) + mval (fsqrt r)) := Nat.lt_of_lt_of_le h (sq_le (by omega))
    rw [ht, hV] at h8
    rw [ht] at hb
    have hp : 0 < 2 ^ a := Nat.two_pow_pos a
    generalize 2 ^ a = A at *
    have e1 : A * 4 * t * (A * 4 * t) = t * t * (16 * (A * A)) := by
      rw [show A * 4 * t = (4 * A) * t by rw [Nat.mul_comm A 4]]
      exact sq_parts A t
    have e2 : 4 * (n * (4 * (A * A))) = n * (16 * (A * A)) := by
      rw [Nat.mul_left_comm n 4, ← Nat.mul_assoc 4 4, show 4 * 4 = 16 by decide, Nat.mul_left_comm n 16]
    rw [e1, e2] at h8
    have h2 : n < t * t := Nat.lt_of_mul_lt_mul_right h8
    have h3 : w < t := sq_lt (by omega)
    have h5 : 4 * t ≤ 2 * (2 * w + st.toNat) := by
      have e3 : 2 * ((2 * w + st.toNat) * A) = 2 * (2 * w + st.toNat) * A := (Nat.mul_assoc _ _ _).symm
      have e4 : A * 4 * t = 4 * t * A := by rw [Nat.mul_assoc, Nat.mul_comm]
      rw [e3, e4] at hb
      exact Nat.le_of_mul_le_mul_right hb hp
    have hst : st.toNat ≤ 1 := by cases st <;> decide
    omega
  · exact hge
end Go.Proofs.Ytcfkhhnkboealaa
