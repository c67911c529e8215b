/- Halves and doubles of floats, by their rungs; the parts of a float. No condition. The document's own parts of a float: halving and doubling come to the same as the library's. No condition. What logarithms come to, of the program and of the document's answer. No condition. Rounding is monotone; whole numbers as floats; the nearest whole number. No condition. -/
import Derived.Test.YtcfkhhnkboealaaStra
import Derived.Test.YtcfkhhnkboealaaMida
namespace Go.Proofs.Ytcfkhhnkboealaa
set_option linter.unusedVariables false
set_option maxRecDepth 100000

/-- the rung of twice as much -/
def dbl (r : Nat) : Nat := if r < 4503599627370496 then 2 * r else r + 4503599627370496
def dblN : Nat → Nat → Nat
  | 0, r => r
  | k + 1, r => dbl (dblN k r)
theorem mval_dbl (r : Nat) : mval (dbl r) = 2 * mval r := by
  unfold dbl
  by_cases h : r < 4503599627370496
  · rw [if_pos h]
    unfold mval
    rw [if_pos h]
    by_cases h2 : 2 * r < 4503599627370496
    · rw [if_pos h2]
    · rw [if_neg h2, show 2 * r / 4503599627370496 - 1 = 0 by omega, show (2 : Nat) ^ 0 = 1 from rfl]
      omega
  · rw [if_neg h]
    unfold mval
    rw [if_neg h, if_neg (by omega)]
    have e1 : (r + 4503599627370496) / 4503599627370496 - 1 = (r / 4503599627370496 - 1) + 1 := by omega
    have e2 : (r + 4503599627370496) % 4503599627370496 = r % 4503599627370496 := by omega
    rw [e1, e2, Nat.pow_succ, ← Nat.mul_assoc, Nat.mul_comm]
theorem mval_dblN (k r : Nat) : mval (dblN k r) = mval r * 2 ^ k := by
  induction k with
  | zero => simp [dblN]
  | succ k ih =>
    rw [dblN, mval_dbl, ih, Nat.pow_succ]
    generalize 2 ^ k = p
    ac_rfl
theorem two_sval : ∃ k, k + 51 = 1074 ∧ mval (rung 4611686018427387904) = 4503599627370496 * 2 ^ k := by
  obtain ⟨c, hc⟩ : ∃ c, c = rung 4611686018427387904 := ⟨_, rfl⟩
  have hc2 : c = 4611686018427387904 := by rw [hc]; decide +kernel
  have h := mval_pow (c := c) (by omega) (by omega)
  obtain ⟨k, hk⟩ : ∃ k, k = c / 4503599627370496 - 1 := ⟨_, rfl⟩
  rw [← hk, hc] at h
  exact ⟨k, by omega, h⟩
/-- TWICE A FLOAT -/
theorem fmul_two {f : Nat} (hf : fin f = true) (h : dbl (rung f) < 9218868437227405312) : fmul f 4611686018427387904 = wd (sgn f) (dbl (rung f)) := by
  obtain ⟨c, hc, h2⟩ := two_sval
  have e : rndQ (mval (rung f) * (4503599627370496 * 2 ^ c)) 1074 = rndN (2 * mval (rung f)) := by
    rw [← hc]
    have e1 : mval (rung f) * (4503599627370496 * 2 ^ c) = 2 * mval (rung f) * 2 ^ (c + 51) := by
      rw [Nat.pow_add, show (2 : Nat) ^ 51 = 2251799813685248 by decide, show 4503599627370496 = 2 * 2251799813685248 by decide]
      generalize 2 ^ c = p
      generalize mval (rung f) = q
      generalize 2251799813685248 = z
      ac_rfl
    rw [e1, rndQ_cancel]
  rw [fmul_fin hf (by decide +kernel), h2, e, ← mval_dbl, rnd_mval h, show sgn 4611686018427387904 = false by decide +kernel, Bool.xor_false]
theorem fmul_two' {f : Nat} (hf : fin f = true) (h : dbl (rung f) < 9218868437227405312) : fmul 4611686018427387904 f = wd (sgn f) (dbl (rung f)) := by
  rw [fmul_fin (by decide +kernel) hf, Nat.mul_comm, ← Bool.xor_comm]
  rw [← fmul_fin hf (by decide +kernel)]
  exact fmul_two hf h
/-- HALF A FLOAT, where that is exact -/
theorem fdiv_two {f : Nat} (hf : fin f = true) (h : 9007199254740992 ≤ rung f) : fdiv f 4611686018427387904 = wd (sgn f) (rung f - 4503599627370496) := by
  have hr0 := fin_rung hf
  have hlow : rung f - 4503599627370496 < 9218868437227405312 := by omega
  have hd : mval (rung f) = 2 * mval (rung f - 4503599627370496) := by
    rw [← mval_dbl]; unfold dbl; rw [if_neg (by omega), Nat.sub_add_cancel (by omega)]
  obtain ⟨m, k, hr, hm, hmb, hk⟩ := read_number hr0
  have hm0 : m ≠ 0 := by
    intro h0; rw [h0, Nat.zero_mul] at hm; have := mval_pos (show 0 < rung f by omega); omega
  have h2 : Ieee.double.read 4611686018427387904 = .number false 4503599627370496 (-51) := by decide +kernel
  rw [div_def, hr, h2]
  have hfb : Ieee.double.fractionBits + 2 = 54 := rfl
  rw [hfb]
  have hl52 : Nat.log2 4503599627370496 = 52 := by decide +kernel
  have hlm : m.log2 ≤ 52 := by
    have := (Nat.log2_lt hm0 (k := 53)).2 (by omega); omega
  simp only [Ieee.Datum.quotient, hl52]
  rw [if_neg (by decide)]
  simp only [Option.map_some, canon]
  obtain ⟨e, he⟩ : ∃ e, 54 + 52 - m.log2 = e + 52 := ⟨54 - m.log2, by omega⟩
  have hm2 : m <<< (54 + 52 - m.log2) = m * 2 ^ e * 4503599627370496 := by rw [Nat.shiftLeft_eq, he, Nat.pow_add, ← Nat.mul_assoc]
  have h3 : m * 2 ^ e * 4503599627370496 / 4503599627370496 = m * 2 ^ e := Nat.mul_div_cancel _ (by decide)
  have h4 : m * 2 ^ e * 4503599627370496 % 4503599627370496 = 0 := Nat.mul_mod_left _ _
  rw [hm2, h3, h4]
  simp only [bne_self_eq_false, Bool.toNat_false, Nat.add_zero]
  show Ieee.double.nearest _ _ _ = _
  have hplace : (-1074 + (k : Int) - -51 - ((54 + 52 - m.log2 : Nat) : Int) - 1) = -1074 + (k : Int) - (e : Int) - 2 := by omega
  rw [hplace]
  have hN : mval (rung f - 4503599627370496) * 2 = m * 2 ^ k := by rw [← hm, hd, Nat.mul_comm]
  have key : Ieee.double.nearest (sgn f ^^ false) (2 * (m * 2 ^ e)) (-1074 + (k : Int) - (e : Int) - 2) = Ieee.double.word (sgn f ^^ false) (rndN (mval (rung f - 4503599627370496))) := by
    generalize mval (rung f - 4503599627370496) = N at hN
    by_cases hc : e + 2 ≤ k
    · rw [show (-1074 + (k : Int) - (e : Int) - 2) = -1074 + ((k - (e + 2) : Nat) : Int) by omega, nearest_int]
      congr 2
      have e1 : 2 ^ k = 2 ^ (k - (e + 2)) * (2 ^ e * 4) := by
        rw [show (2 : Nat) ^ e * 4 = 2 ^ (e + 2) by rw [Nat.pow_add], ← Nat.pow_add, Nat.sub_add_cancel hc]
      rw [e1, show 4 = 2 * 2 by decide] at hN
      apply Nat.eq_of_mul_eq_mul_right (show 0 < 2 by decide)
      rw [hN]
      generalize 2 ^ (k - (e + 2)) = p
      generalize 2 ^ e = q
      ac_rfl
    · rw [show (-1074 + (k : Int) - (e : Int) - 2) = -1074 - ((e + 2 - k : Nat) : Int) by omega, nearest_frac]
      congr 1
      have e2 : 2 * (m * 2 ^ e) = N * 2 ^ (e + 2 - k) := by
        have e3 : 2 ^ (e + 2 - k) * 2 ^ k = 2 ^ e * (2 * 2) := by rw [← Nat.pow_add, Nat.sub_add_cancel (by omega), Nat.pow_add]
        have hp : 0 < 2 ^ k := Nat.two_pow_pos k
        apply Nat.eq_of_mul_eq_mul_right hp
        apply Nat.eq_of_mul_eq_mul_right (show 0 < 2 by decide)
        have a1 : N * 2 ^ (e + 2 - k) * 2 ^ k * 2 = N * 2 * (2 ^ (e + 2 - k) * 2 ^ k) := by ac_rfl
        rw [a1, e3, hN]
        generalize 2 ^ k = p
        generalize 2 ^ e = q
        ac_rfl
      rw [e2, rndQ_cancel]
  rw [key, rnd_mval hlow, word_eq, Bool.xor_false]
end Go.Proofs.Ytcfkhhnkboealaa
namespace Go.Proofs.Ytcfkhhnkboealaa
open Go.RowKit
set_option linter.unusedVariables false
set_option linter.unusedSimpArgs false
set_option maxRecDepth 100000

@[go_sem ↓] theorem conv_ff (b : Nat) (w : World) : (convert 25 25 (.float .f64 b)).run Try.prog w = .ok (.float .f64 b) w := by
  refine run_convert_float_float w 25 25 .f64 .f64 b b (by kernel_rfl) (by kernel_rfl) ?_
  simp [floatToFloatBits]

/-! comparisons of a float with a power of two, by rungs -/
theorem fle_c {f c : Nat} (hn : isN f = false) (hc : sgn c = false) (hcn : isN c = false) (h0 : 0 < rung c) : fle c f = (!sgn f && decide (rung c ≤ rung f)) := by
  rw [fle_eq, hn, hcn]
  have e : sval c = ((mval (rung c) : Nat) : Int) := by unfold sval; rw [hc]; rfl
  have := @mval_le_iff (rung c) (rung f)
  have := mval_pos h0
  rw [e, Bool.eq_iff_iff]
  rcases sval_cases f with ⟨a, k⟩ | ⟨a, k⟩ <;> rw [a, k] <;> simp <;> omega
theorem fle_cn {f c : Nat} (hn : isN f = false) (hc : sgn c = true) (hcn : isN c = false) (h0 : 0 < rung c) : fle f c = (sgn f && decide (rung c ≤ rung f)) := by
  rw [fle_eq, hn, hcn]
  have e : sval c = -((mval (rung c) : Nat) : Int) := by unfold sval; rw [hc]; rfl
  have := @mval_le_iff (rung c) (rung f)
  have := mval_pos h0
  rw [e, Bool.eq_iff_iff]
  rcases sval_cases f with ⟨a, k⟩ | ⟨a, k⟩ <;> rw [a, k] <;> simp <;> omega
theorem flt_c {f c : Nat} (hn : isN f = false) (hc : sgn c = false) (hcn : isN c = false) (h0 : 0 < rung c) : flt f c = (sgn f || decide (rung f < rung c)) := by
  rw [flt_eq, hn, hcn]
  have e : sval c = ((mval (rung c) : Nat) : Int) := by unfold sval; rw [hc]; rfl
  have := @mval_lt_iff (rung f) (rung c)
  have := mval_pos h0
  rw [e, Bool.eq_iff_iff]
  rcases sval_cases f with ⟨a, k⟩ | ⟨a, k⟩ <;> rw [a, k] <;> simp <;> omega
theorem flt_cn {f c : Nat} (hn : isN f = false) (hc : sgn c = true) (hcn : isN c = false) (h0 : 0 < rung c) : flt c f = (!sgn f || decide (rung f < rung c)) := by
  rw [flt_eq, hn, hcn]
  have e : sval c = -((mval (rung c) : Nat) : Int) := by unfold sval; rw [hc]; rfl
  have := @mval_lt_iff (rung f) (rung c)
  have := mval_pos h0
  rw [e, Bool.eq_iff_iff]
  rcases sval_cases f with ⟨a, k⟩ | ⟨a, k⟩ <;> rw [a, k] <;> simp <;> omega
theorem Rep.two : Rep 4611686018427387904 4611686018427387904 := Rep.self (by decide) (by decide +kernel)
theorem Rep.half : Rep 4602678819172646912 4602678819172646912 := Rep.self (by decide) (by decide +kernel)
theorem Rep.nhalf : Rep 13826050856027422720 13826050856027422720 := Rep.self (by decide) (by decide +kernel)
theorem Rep.none1 : Rep 13830554455654793216 13830554455654793216 := Rep.self (by decide) (by decide +kernel)

def fltOf : Value → Nat
  | .float _ b => b
  | _ => 0
/-- the parts by halving and doubling -/
def PartRel (s : Bool) (r0 : Nat) (r : Nat) (n : Int) : Prop := (∃ k : Nat, n = k ∧ r + k * 4503599627370496 = r0 ∧ 4602678819172646912 ≤ r) ∨ (∃ j : Nat, n = -(j : Int) ∧ r = dblN j r0)
theorem dblN_big {r : Nat} (h : 4503599627370496 ≤ r) (j : Nat) : dblN j r = r + j * 4503599627370496 := by
  induction j with
  | zero => simp [dblN]
  | succ j ih => rw [dblN, ih]; unfold dbl; rw [if_neg (by omega)]; omega
theorem dblN_add (i j r : Nat) : dblN (i + j) r = dblN i (dblN j r) := by
  induction i with
  | zero => simp [dblN]
  | succ i ih => rw [Nat.succ_add, dblN, ih]; rfl
theorem dbl_gt {r : Nat} (h : 0 < r) : r < dbl r := by unfold dbl; split <;> omega
theorem dblN_mono {r : Nat} (h : 0 < r) (j : Nat) : r ≤ dblN j r ∧ (∀ i, i < j → dblN i r < dblN j r) := by
  induction j with
  | zero => exact ⟨Nat.le_refl _, fun i hi => absurd hi (by omega)⟩
  | succ j ih =>
    have := dbl_gt (show 0 < dblN j r by omega)
    refine ⟨by rw [dblN]; omega, fun i hi => ?_⟩
    rw [dblN]
    by_cases e : i = j
    · rw [e]; omega
    · have := ih.2 i (by omega); omega
theorem dblN52 {r : Nat} (h : 0 < r) (h2 : r < 4503599627370496) : 4503599627370496 ≤ dblN 52 r ∧ dblN 52 r < 4503599627370496 * 54 ∧ rndN (r * 4503599627370496) = dblN 52 r := by
  have e := mval_dblN 52 r
  have e1 : mval r = r := by unfold mval; rw [if_pos h2]
  rw [e1, show (2 : Nat) ^ 52 = 4503599627370496 by decide] at e
  have hlo : 4503599627370496 ≤ dblN 52 r := by
    rcases Nat.lt_or_ge (dblN 52 r) 4503599627370496 with h3 | h3
    · unfold mval at e; rw [if_pos h3] at e; omega
    · exact h3
  have hhi : dblN 52 r < 4503599627370496 * 54 := by
    have h4 : mval (dblN 52 r) < mval (4503599627370496 * 54) := by
      rw [e]
      have : mval (4503599627370496 * 54) = 4503599627370496 * 2 ^ 53 := by decide +kernel
      rw [this, show (2 : Nat) ^ 53 = 9007199254740992 by decide]
      omega
    exact mval_lt_iff.1 h4
  refine ⟨hlo, hhi, ?_⟩
  rw [← e]
  exact rnd_mval (by omega)
/-- where the loops end, the parts are the library's -/
theorem parts_end {f r : Nat} {n : Int} (hl : f < 18446744073709551616) (hf : fin f = true) (h0 : rung f ≠ 0) (h : PartRel (sgn f) (rung f) r n) (h1 : 4602678819172646912 ≤ r) (h2 : r < 4607182418800017408) :
    partF f = wd (sgn f) r ∧ partE f = n := by
  have hr := fin_rung hf
  have hn := fin_notN hf
  have hcond : (feq f 0 || (isInf f 0 || isN f)) = false := by rw [feq_zero hn, isInf0 hn, hf, hn]; simp [h0]
  unfold partF partE
  rw [hcond]
  simp only [Bool.false_eq_true, if_false]
  have key : ∀ g, g < 18446744073709551616 → sgn g = sgn f → isN g = false → nrm (fracB g) = wd (sgn f) (4602678819172646912 + rung g % 4503599627370496) := by
    intro g hg hs hgn
    rw [nrm_of_not (fracB_notN g hg)]
    unfold fracB
    rw [sign_field hg, mant_field, hs]
    unfold wd
    split <;> omega
  cases ht : flt (fabs f) 4503599627370496
  · have hbig : 4503599627370496 ≤ rung f := by
      rw [flt_eq, isN_abs, hn, sval_abs hn, show isN 4503599627370496 = false by decide +kernel, show sval 4503599627370496 = ((mval 4503599627370496 : Nat) : Int) by decide +kernel] at ht
      simp at ht
      exact mval_le_iff.1 (by omega)
    have e1 : normF f = f := by unfold normF; rw [ht]; rfl
    have e2 : normE f = 0 := by unfold normE; rw [ht]; rfl
    rw [e1, e2, key f hl rfl hn, exp_field hl]
    rcases h with ⟨k, rfl, hk, hb⟩ | ⟨j, rfl, hj⟩
    · constructor
      · congr 1; omega
      · omega
    · rw [dblN_big hbig] at hj
      constructor
      · congr 1; omega
      · omega
  · obtain ⟨e1, hsmall⟩ := normF_tiny ht
    have e2 : normE f = -52 := by unfold normE; rw [ht]; rfl
    obtain ⟨d1, d2, d3⟩ := dblN52 (show 0 < rung f by omega) hsmall
    have hD : ∀ j, 52 ≤ j → dblN j (rung f) = dblN 52 (rung f) + (j - 52) * 4503599627370496 := by
      intro j hj
      have e3 : j = (j - 52) + 52 := by omega
      have e4 : dblN j (rung f) = dblN ((j - 52) + 52) (rung f) := by rw [← e3]
      rw [e4, dblN_add, dblN_big d1]
    have hL : ∀ j, j < 52 → dblN j (rung f) < dblN 52 (rung f) := (dblN_mono (show 0 < rung f by omega) 52).2
    rw [d3] at e1
    generalize dblN 52 (rung f) = D at *
    have hle : D ≤ 9218868437227405312 := by omega
    rw [e2, key (normF f) (normF_lt hl) (by rw [e1, wd_sgn hle]) (normF_notN hn), exp_field (normF_lt hl)]
    rw [show rung (normF f) = D by rw [e1, wd_rung hle]]
    rcases h with ⟨k, rfl, hk, hb⟩ | ⟨j, rfl, hj⟩
    · omega
    · have hj52 : 52 ≤ j := by
        rcases Nat.lt_or_ge j 52 with h3 | h3
        · have := hL j h3
          omega
        · exact h3
      rw [hD j hj52] at hj
      constructor
      · rw [show 4602678819172646912 + D % 4503599627370496 = r by omega]
      · omega
theorem le_dblN {r : Nat} (h : 0 < r) (j : Nat) : j ≤ dblN j r := by
  induction j with
  | zero => omega
  | succ j ih =>
    have := dbl_gt (show 0 < dblN j r by have := (dblN_mono h j).1; omega)
    rw [dblN]; omega
theorem part_bd {s : Bool} {r0 r : Nat} {i : Int} (h0 : 0 < r0) (h : PartRel s r0 r i) (hr : r < 4611686018427387904) : -4611686018427387904 ≤ i ∧ (i ≤ 4611686018427387904 ∨ 9218868437227405312 ≤ r0) := by
  rcases h with ⟨k, rfl, h1, h2⟩ | ⟨j, rfl, h1⟩
  · omega
  · have := le_dblN h0 j
    omega
theorem part_next {s : Bool} {r0 r : Nat} {i : Int} (h : PartRel s r0 r i) (hr : r < 4602678819172646912) : PartRel s r0 (dbl r) (i - 1) := by
  rcases h with ⟨k, rfl, h1, h2⟩ | ⟨j, rfl, h1⟩
  · omega
  · exact .inr ⟨j + 1, by omega, by rw [dblN, h1]⟩
theorem parts_plain {f : Nat} (h : (fin f && !feq f 0) = false) : partF f = f ∧ partE f = 0 := by
  unfold partF partE
  cases hn : isN f
  · rw [isInf0 hn]
    have hc : (feq f 0 || (!fin f || false)) = true := by
      cases hf : fin f <;> cases hz : feq f 0 <;> simp [hf, hz] at h ⊢
    rw [hc]; simp
  · simp

section
variable {x y f g : Nat} (hx : Rep x f) (hy : Rep y g) (w : World)
include hx
end
end Go.Proofs.Ytcfkhhnkboealaa
namespace Go.Proofs.Ytcfkhhnkboealaa
open Go.RowKit
set_option linter.unusedVariables false
set_option linter.unusedSimpArgs false
set_option maxRecDepth 100000

/-- a whole number as a float -/
def ofInt (n : Int) : Nat := Ieee.double.write (.number (n < 0) n.natAbs 0)
theorem ofInt_rep (n : Int) : Rep (floatOfInt .f64 n) (ofInt n) := by
  show Rep (Ieee.double.write (.number (n < 0) n.natAbs 0)) (Ieee.double.write (.number (n < 0) n.natAbs 0))
  exact Rep.self (write_lt64 _) (nrm_of_not (write_notN _ rfl))
def qSeq (s : Nat) : Nat → Nat
  | 0 => 4585925428558828667
  | i + 1 => fadd (fdiv 4607182418800017408 (ofInt (23 - 2 * i))) (fmul s (qSeq s i))
def oddF (f : Nat) : Nat := fadd (fmul 4611686018427387904 f) (fmul (fmul 4611686018427387904 f) (fmul (fmul f f) (qSeq (fmul f f) 11)))
def logM (x : Nat) : Nat := if flt (partF x) 4604544271217802189 then fmul 4611686018427387904 (partF x) else partF x
def logE (x : Nat) : Int := if flt (partF x) 4604544271217802189 then partE x - 1 else partE x
def logF (x : Nat) : Nat :=
  if isN x || isInf x 1 then x else if flt x 0 then nanB else if feq x 0 then infN else
  fadd (fmul (ofInt (logE x)) 4604418534311723008) (fadd (fmul (ofInt (logE x)) 4461442080421002358) (oddF (fdiv (fsub (logM x) 4607182418800017408) (fadd (logM x) 4607182418800017408))))
def moreF (x : Nat) : Nat :=
  if fle 13821547256400052224 x && fle x 4600427019358961664 then oddF (fdiv x (fadd 4611686018427387904 x)) else logF (fadd 4607182418800017408 x)
theorem Rep.c25 : Rep 4585925428558828667 4585925428558828667 := Rep.self (by decide) (by decide +kernel)
theorem Rep.cH : Rep 4604418534311723008 4604418534311723008 := Rep.self (by decide) (by decide +kernel)
theorem Rep.cL : Rep 4461442080421002358 4461442080421002358 := Rep.self (by decide) (by decide +kernel)
theorem Rep.cR : Rep 4604544271217802189 4604544271217802189 := Rep.self (by decide) (by decide +kernel)
section
variable {x y f g : Nat} (hx : Rep x f) (hy : Rep y g) (w : World)
include hx
theorem odd_c : Calls Try.prog 163 #[.float .f64 x] w (RetF (oddF f) w) := by
  go_enter Try.func163, Try.ntmps163
  go_wp2
  have hs := hx.mul hx (w := w)
  generalize fres .mul x x w = s at hs ⊢
  generalize fdr .mul x x = d0
  go_loopw [4, 10] (fun q i wr => ∃ k d v : Nat, i = .int .i64 k ∧ k ≤ 11 ∧ q = .float .f64 v ∧ Rep v (qSeq (fmul f f) k) ∧ wr = w.drewN d) (fun _ i _ => 11 - (intOf i).toNat)
  case atStart => exact ⟨0, _, _, rfl, by omega, rfl, Rep.c25, rfl⟩
  case round =>
    obtain ⟨k, d, v, rfl, hk, rfl, hv, rfl⟩ := hrel
    by_cases hlt : k < 11
    · go_wp2
      go_roundw
      case rel =>
        refine ⟨k + 1, _, _, by go_num, by omega, rfl, ?_, rfl⟩
        exact (Rep.cone.quo (ofInt_rep _)).add (hs.mul hv)
      case measure => simp [intOf]; omega
    · have hk2 : k = 11 := by omega
      subst hk2
      go_wp2
      go_ret
      exact RetF.mk _ ((Rep.two.mul hx).add ((Rep.two.mul hx).mul (hs.mul hv)))
end
end Go.Proofs.Ytcfkhhnkboealaa
namespace Go.Proofs.Ytcfkhhnkboealaa
set_option linter.unusedVariables false
set_option linter.unusedSimpArgs false
set_option maxRecDepth 100000

theorem rne_mono {n m g : Nat} (hg : 0 < g) (h : n ≤ m) : rne n g ≤ rne m g := by
  unfold rne
  have hq : n / g ≤ m / g := Nat.div_le_div_right h
  by_cases e : n / g = m / g
  · rw [e]
    have h1 := Nat.div_add_mod n g
    have h2 := Nat.div_add_mod m g
    rw [e] at h1
    have hr : n % g ≤ m % g := by omega
    generalize m / g = q at *
    generalize n % g = a at *
    generalize m % g = b at *
    by_cases c1 : g < 2 * a
    · have : g < 2 * b := by omega
      simp [c1, this]
    · by_cases c2 : g = 2 * a ∧ q % 2 = 1
      · obtain ⟨c2, c3⟩ := c2
        by_cases c4 : g < 2 * b
        · simp [c1, c4]
          split <;> omega
        · have : g = 2 * b := by omega
          have e2 : a = b := by omega
          rw [e2]; omega
      · have : ¬ (g < 2 * a || (g == 2 * a && q % 2 == 1)) = true := by
          simp only [Bool.or_eq_true, decide_eq_true_eq, Bool.and_eq_true, beq_iff_eq]
          intro h
          rcases h with h | h
          · exact c1 h
          · exact c2 h
        rw [if_neg this]
        omega
  · have : n / g + 1 ≤ m / g := by omega
    split <;> omega
theorem rne_le_of {n g q : Nat} (hg : 0 < g) (h : n ≤ q * g) : rne n g ≤ q := by
  have := rne_mono hg h
  rwa [rne_mul q g hg] at this
theorem le_rne_of {n g q : Nat} (hg : 0 < g) (h : q * g ≤ n) : q ≤ rne n g := by
  have := rne_mono hg h
  rwa [rne_mul q g hg] at this
theorem rndQ_mono {m n d : Nat} (h : m ≤ n) : rndQ m d ≤ rndQ n d := by
  unfold rndQ
  by_cases hm : m = 0
  · rw [if_pos hm]; omega
  · have hn : n ≠ 0 := by omega
    rw [if_neg hm, if_neg hn]
    have key : (m.log2 - 52 - d) * 4503599627370496 + rne m (2 ^ (d + (m.log2 - 52 - d))) ≤ (n.log2 - 52 - d) * 4503599627370496 + rne n (2 ^ (d + (n.log2 - 52 - d))) := by
      have hmono : m.log2 ≤ n.log2 := by
        have a := Nat.log2_self_le hm
        have b := @Nat.lt_log2_self n
        rcases Nat.lt_or_ge n.log2 m.log2 with c | c
        · have : 2 ^ (n.log2 + 1) ≤ 2 ^ m.log2 := Nat.pow_le_pow_right (by decide) (by omega)
          omega
        · exact c
      by_cases e : m.log2 - 52 - d = n.log2 - 52 - d
      · rw [e]
        have := rne_mono (Nat.two_pow_pos (d + (n.log2 - 52 - d))) h
        omega
      · have hlt : m.log2 - 52 - d < n.log2 - 52 - d := by omega
        have h1 : rne m (2 ^ (d + (m.log2 - 52 - d))) ≤ 9007199254740992 := by
          refine rne_le_of (Nat.two_pow_pos _) ?_
          have b := @Nat.lt_log2_self m
          have c : 2 ^ (m.log2 + 1) ≤ 2 ^ (53 + (d + (m.log2 - 52 - d))) := Nat.pow_le_pow_right (by decide) (by omega)
          rw [Nat.pow_add 2 53, show (2 : Nat) ^ 53 = 9007199254740992 by decide] at c
          omega
        have h2 : 4503599627370496 ≤ rne n (2 ^ (d + (n.log2 - 52 - d))) := by
          refine le_rne_of (Nat.two_pow_pos _) ?_
          have b := Nat.log2_self_le hn
          have c : 2 ^ (52 + (d + (n.log2 - 52 - d))) ≤ 2 ^ n.log2 := Nat.pow_le_pow_right (by decide) (by omega)
          rw [Nat.pow_add 2 52, show (2 : Nat) ^ 52 = 4503599627370496 by decide] at c
          omega
        omega
    omega
theorem rndN_mono {m n : Nat} (h : m ≤ n) : rndN m ≤ rndN n := rndQ_mono h
/-- at most a float: rounds to at most it -/
theorem rndN_le_of {m r : Nat} (hr : r < 9218868437227405312) (h : m ≤ mval r) : rndN m ≤ r := by
  have := rndN_mono h
  rwa [rnd_mval hr] at this
theorem le_rndN_of {m r : Nat} (hr : r < 9218868437227405312) (h : mval r ≤ m) : r ≤ rndN m := by
  have := rndN_mono h
  rwa [rnd_mval hr] at this

/-- one, in units -/
def e1 : Nat := 1074
def U : Nat := 2 ^ e1
theorem U_pos : 0 < U := Nat.two_pow_pos _
theorem rndQ_U (m : Nat) : rndQ (m * U) e1 = rndN m := rndQ_cancel m e1
theorem e1_eq : e1 = 1074 := rfl
/-- small numbers times a power of two are floats -/
theorem exact_pow {m k : Nat} (hm : m < 9007199254740992) (hk : k ≤ 2045) : ∃ r, r < 9218868437227405312 ∧ mval r = m * 2 ^ k := by
  induction k with
  | zero =>
    refine ⟨m, by omega, ?_⟩
    unfold mval
    rw [Nat.pow_zero, Nat.mul_one]
    split
    · rfl
    · rw [show m / 4503599627370496 - 1 = 0 by omega, Nat.pow_zero]; omega
  | succ k ih =>
    obtain ⟨r, hr, he⟩ := ih (by omega)
    refine ⟨dbl r, ?_, by rw [mval_dbl, he, Nat.pow_succ]; generalize 2 ^ k = p; ac_rfl⟩
    have h2 : mval r < 9007199254740992 * 2 ^ k := by rw [he]; exact Nat.mul_lt_mul_of_pos_right hm (Nat.two_pow_pos k)
    have h3 : mval (4503599627370496 * (k + 2)) = 9007199254740992 * 2 ^ k := by
      unfold mval
      rw [if_neg (by omega), Nat.mul_mod_right, Nat.mul_div_cancel_left _ (by decide), show k + 2 - 1 = k + 1 by omega, Nat.pow_succ]
      generalize 2 ^ k = p
      omega
    rw [← h3] at h2
    have h4 := mval_lt_iff.1 h2
    unfold dbl
    split <;> omega
theorem rnd_exact {m k : Nat} (hm : m < 9007199254740992) (hk : k ≤ 2045) : rndN (m * 2 ^ k) < 9218868437227405312 ∧ mval (rndN (m * 2 ^ k)) = m * 2 ^ k := by
  obtain ⟨r, hr, he⟩ := exact_pow hm hk
  rw [← he, rnd_mval hr]
  exact ⟨hr, rfl⟩
/-- a whole number below 2^53 as a float -/
theorem rnd_whole {m : Nat} (hm : m < 9007199254740992) : rndN (m * U) < 9218868437227405312 ∧ mval (rndN (m * U)) = m * U := rnd_exact hm (by rw [e1_eq]; decide)
theorem nearest_whole (s : Bool) (m : Nat) : Ieee.double.nearest s m 0 = wd s (rndN (m * U)) := by
  have h0 : (0 : Int) = -1074 + (e1 : Int) := rfl
  rw [h0, nearest_int, word_eq]; rfl
theorem ofInt_eq (n : Int) : ofInt n = wd (decide (n < 0)) (rndN (n.natAbs * U)) := nearest_whole _ _
theorem ofInt_fin {n : Int} (h : n.natAbs < 9007199254740992) : fin (ofInt n) = true := by
  rw [ofInt_eq]; unfold fin; rw [wd_rung (rndN_le _)]; simp; exact (rnd_whole h).1
theorem ofInt_sval {n : Int} (h : n.natAbs < 9007199254740992) : sval (ofInt n) = n * (U : Int) := by
  rw [ofInt_eq, wd_sval (rndN_le _), (rnd_whole h).2]
  by_cases h0 : n < 0
  · rw [decide_eq_true h0]
    simp only [if_true]
    have e : (n.natAbs : Int) = -n := by omega
    rw [Int.natCast_mul, e, Int.neg_mul, Int.neg_neg]
  · rw [decide_eq_false h0]
    simp only [Bool.false_eq_true, if_false]
    have e : (n.natAbs : Int) = n := by omega
    rw [Int.natCast_mul, e]
theorem ofInt_lt (n : Int) : ofInt n < 18446744073709551616 := write_lt64 _
theorem ofInt_notN (n : Int) : isN (ofInt n) = false := write_notN _ rfl

/-- the nearest whole number, in ones -/
def wholeN (r : Nat) : Nat := rne (mval r) U
theorem cut_whole {m k : Nat} (hm : m ≠ 0) : Ieee.Toward.even.cut false (m <<< (-1074 + (k : Int)).toNat) (-(-1074 + (k : Int))).toNat = rne (m * 2 ^ k) U := by
  rw [cut_even _ _ _ (by rw [Nat.shiftLeft_eq]; exact Nat.mul_ne_zero hm (Nat.ne_of_gt (Nat.two_pow_pos _))), Nat.shiftLeft_eq]
  unfold U
  have he := e1_eq
  by_cases h : k ≤ e1
  · rw [show (-1074 + (k : Int)).toNat = 0 by omega, show (-(-1074 + (k : Int))).toNat = e1 - k by omega, Nat.pow_zero, Nat.mul_one]
    have e : 2 ^ e1 = 2 ^ (e1 - k) * 2 ^ k := by rw [← Nat.pow_add, Nat.sub_add_cancel h]
    rw [e, rne_scale _ _ _ (Nat.two_pow_pos k)]
  · rw [show (-1074 + (k : Int)).toNat = k - e1 by omega, show (-(-1074 + (k : Int))).toNat = 0 by omega, Nat.pow_zero, rne_one]
    have e : m * 2 ^ k = m * 2 ^ (k - e1) * 2 ^ e1 := by rw [Nat.mul_assoc, ← Nat.pow_add, Nat.sub_add_cancel (by omega)]
    rw [e, rne_mul _ _ (Nat.two_pow_pos _)]
theorem whole_eq {f : Nat} (hf : fin f = true) : wholeF f = wd (sgn f) (rndN (wholeN (rung f) * U)) := by
  obtain ⟨m, k, hr, hm, _⟩ := read_number (fin_rung hf)
  unfold wholeF
  rw [fin_notN hf, hr]
  simp only [Bool.false_eq_true, if_false, Ieee.Datum.integral]
  show Ieee.double.nearest _ _ _ = _
  rw [nearest_whole, cut_sign]
  unfold wholeN
  rw [hm]
  by_cases h0 : m = 0
  · subst h0
    have : Ieee.Toward.even.cut false (0 <<< (-1074 + (k : Int)).toNat) (-(-1074 + (k : Int))).toNat = rne (0 * 2 ^ k) U := by
      rw [Nat.zero_mul, Nat.zero_shiftLeft]
      unfold Ieee.Toward.cut rne
      simp
    rw [this]
  · rw [cut_whole h0]
end Go.Proofs.Ytcfkhhnkboealaa
