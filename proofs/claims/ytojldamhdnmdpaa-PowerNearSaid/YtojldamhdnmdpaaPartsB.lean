/- The document's own parts of a float: halving and doubling come to the same as the library's. No condition. -/
import Derived.Test.YtojldamhdnmdpaaPartsA
import Derived.Test.YtojldamhdnmdpaaMid3
namespace Go.Proofs.Ytojldamhdnmdpaa
open Go.RowKit
set_option linter.unusedVariables false
set_option linter.unusedSimpArgs false
set_option maxRecDepth 100000

@[go_sem ↓] theorem conv_ff (b : Nat) (w : World) : (convert 28 28 (.float .f64 b)).run Try.prog w = .ok (.float .f64 b) w := by
  refine run_convert_float_float w 28 28 .f64 .f64 b b (by kernel_rfl) (by kernel_rfl) ?_
  simp [floatToFloatBits]

/-! comparisons of a float with a power of two, by rungs -/
theorem fle_c {f c : Nat} (hn : isN f = false) (hc : sgn c = false) (hcn : isN c = false) (h0 : 0 < rung c) : fle c f = (!sgn f && decide (rung c ≤ rung f)) := by
  rw [fle_eq, hn, hcn]
  have e : sval c = ((mval (rung c) : Nat) : Int) := by unfold sval; rw [hc]; rfl
  have := @mval_le_iff (rung c) (rung f)
  have := mval_pos h0
  rw [e, Bool.eq_iff_iff]
  rcases sval_cases f with ⟨a, k⟩ | ⟨a, k⟩ <;> rw [a, k] <;> simp <;> omega
theorem fle_cn {f c : Nat} (hn : isN f = false) (hc : sgn c = true) (hcn : isN c = false) (h0 : 0 < rung c) : fle f c = (sgn f && decide (rung c ≤ rung f)) := by
  rw [fle_eq, hn, hcn]
  have e : sval c = -((mval (rung c) : Nat) : Int) := by unfold sval; rw [hc]; rfl
  have := @mval_le_iff (rung c) (rung f)
  have := mval_pos h0
  rw [e, Bool.eq_iff_iff]
  rcases sval_cases f with ⟨a, k⟩ | ⟨a, k⟩ <;> rw [a, k] <;> simp <;> omega
theorem flt_c {f c : Nat} (hn : isN f = false) (hc : sgn c = false) (hcn : isN c = false) (h0 : 0 < rung c) : flt f c = (sgn f || decide (rung f < rung c)) := by
  rw [flt_eq, hn, hcn]
  have e : sval c = ((mval (rung c) : Nat) : Int) := by unfold sval; rw [hc]; rfl
  have := @mval_lt_iff (rung f) (rung c)
  have := mval_pos h0
  rw [e, Bool.eq_iff_iff]
  rcases sval_cases f with ⟨a, k⟩ | ⟨a, k⟩ <;> rw [a, k] <;> simp <;> omega
theorem flt_cn {f c : Nat} (hn : isN f = false) (hc : sgn c = true) (hcn : isN c = false) (h0 : 0 < rung c) : flt c f = (!sgn f || decide (rung f < rung c)) := by
  rw [flt_eq, hn, hcn]
  have e : sval c = -((mval (rung c) : Nat) : Int) := by unfold sval; rw [hc]; rfl
  have := @mval_lt_iff (rung f) (rung c)
  have := mval_pos h0
  rw [e, Bool.eq_iff_iff]
  rcases sval_cases f with ⟨a, k⟩ | ⟨a, k⟩ <;> rw [a, k] <;> simp <;> omega
theorem Rep.two : Rep 4611686018427387904 4611686018427387904 := Rep.self (by decide) (by decide +kernel)
theorem Rep.half : Rep 4602678819172646912 4602678819172646912 := Rep.self (by decide) (by decide +kernel)
theorem Rep.nhalf : Rep 13826050856027422720 13826050856027422720 := Rep.self (by decide) (by decide +kernel)
theorem Rep.none1 : Rep 13830554455654793216 13830554455654793216 := Rep.self (by decide) (by decide +kernel)

def fltOf : Value → Nat
  | .float _ b => b
  | _ => 0
/-- the parts by halving and doubling -/
def PartRel (s : Bool) (r0 : Nat) (r : Nat) (n : Int) : Prop := (∃ k : Nat, n = k ∧ r + k * 4503599627370496 = r0 ∧ 4602678819172646912 ≤ r) ∨ (∃ j : Nat, n = -(j : Int) ∧ r = dblN j r0)
theorem dblN_big {r : Nat} (h : 4503599627370496 ≤ r) (j : Nat) : dblN j r = r + j * 4503599627370496 := by
  induction j with
  | zero => simp [dblN]
  | succ j ih => rw [dblN, ih]; unfold dbl; rw [if_neg (by omega)]; omega
theorem dblN_add (i j r : Nat) : dblN (i + j) r = dblN i (dblN j r) := by
  induction i with
  | zero => simp [dblN]
  | succ i ih => rw [Nat.succ_add, dblN, ih]; rfl
theorem dbl_gt {r : Nat} (h : 0 < r) : r < dbl r := by unfold dbl; split <;> omega
theorem dblN_mono {r : Nat} (h : 0 < r) (j : Nat) : r ≤ dblN j r ∧ (∀ i, i < j → dblN i r < dblN j r) := by
  induction j with
  | zero => exact ⟨Nat.le_refl _, fun i hi => absurd hi (by omega)⟩
  | succ j ih =>
    have := dbl_gt (show 0 < dblN j r by omega)
    refine ⟨by rw [dblN]; omega, fun i hi => ?_⟩
    rw [dblN]
    by_cases e : i = j
    · rw [e]; omega
    · have := ih.2 i (by omega); omega
theorem dblN52 {r : Nat} (h : 0 < r) (h2 : r < 4503599627370496) : 4503599627370496 ≤ dblN 52 r ∧ dblN 52 r < 4503599627370496 * 54 ∧ rndN (r * 4503599627370496) = dblN 52 r := by
  have e := mval_dblN 52 r
  have e1 : mval r = r := by unfold mval; rw [if_pos h2]
  rw [e1, show (2 : Nat) ^ 52 = 4503599627370496 by decide] at e
  have hlo : 4503599627370496 ≤ dblN 52 r := by
    rcases Nat.lt_or_ge (dblN 52 r) 4503599627370496 with h3 | h3
    · unfold mval at e; rw [if_pos h3] at e; omega
    · exact h3
  have hhi : dblN 52 r < 4503599627370496 * 54 := by
    have h4 : mval (dblN 52 r) < mval (4503599627370496 * 54) := by
      rw [e]
      have : mval (4503599627370496 * 54) = 4503599627370496 * 2 ^ 53 := by decide +kernel
      rw [this, show (2 : Nat) ^ 53 = 9007199254740992 by decide]
      omega
    exact mval_lt_iff.1 h4
  refine ⟨hlo, hhi, ?_⟩
  rw [← e]
  exact rnd_mval (by omega)
/-- where the loops end, the parts are the library's -/
theorem parts_end {f r : Nat} {n : Int} (hl : f < 18446744073709551616) (hf : fin f = true) (h0 : rung f ≠ 0) (h : PartRel (sgn f) (rung f) r n) (h1 : 4602678819172646912 ≤ r) (h2 : r < 4607182418800017408) :
    partF f = wd (sgn f) r ∧ partE f = n := by
  have hr := fin_rung hf
  have hn := fin_notN hf
  have hcond : (feq f 0 || (isInf f 0 || isN f)) = false := by rw [feq_zero hn, isInf0 hn, hf, hn]; simp [h0]
  unfold partF partE
  rw [hcond]
  simp only [Bool.false_eq_true, if_false]
  have key : ∀ g, g < 18446744073709551616 → sgn g = sgn f → isN g = false → nrm (fracB g) = wd (sgn f) (4602678819172646912 + rung g % 4503599627370496) := by
    intro g hg hs hgn
    rw [nrm_of_not (fracB_notN g hg)]
    unfold fracB
    rw [sign_field hg, mant_field, hs]
    unfold wd
    split <;> omega
  cases ht : flt (fabs f) 4503599627370496
  · have hbig : 4503599627370496 ≤ rung f := by
      rw [flt_eq, isN_abs, hn, sval_abs hn, show isN 4503599627370496 = false by decide +kernel, show sval 4503599627370496 = ((mval 4503599627370496 : Nat) : Int) by decide +kernel] at ht
      simp at ht
      exact mval_le_iff.1 (by omega)
    have e1 : normF f = f := by unfold normF; rw [ht]; rfl
    have e2 : normE f = 0 := by unfold normE; rw [ht]; rfl
    rw [e1, e2, key f hl rfl hn, exp_field hl]
    rcases h with ⟨k, rfl, hk, hb⟩ | ⟨j, rfl, hj⟩
    · constructor
      · congr 1; omega
      · omega
    · rw [dblN_big hbig] at hj
      constructor
      · congr 1; omega
      · omega
  · obtain ⟨e1, hsmall⟩ := normF_tiny ht
    have e2 : normE f = -52 := by unfold normE; rw [ht]; rfl
    obtain ⟨d1, d2, d3⟩ := dblN52 (show 0 < rung f by omega) hsmall
    have hD : ∀ j, 52 ≤ j → dblN j (rung f) = dblN 52 (rung f) + (j - 52) * 4503599627370496 := by
      intro j hj
      have e3 : j = (j - 52) + 52 := by omega
      have e4 : dblN j (rung f) = dblN ((j - 52) + 52) (rung f) := by rw [← e3]
      rw [e4, dblN_add, dblN_big d1]
    have hL : ∀ j, j < 52 → dblN j (rung f) < dblN 52 (rung f) := (dblN_mono (show 0 < rung f by omega) 52).2
    rw [d3] at e1
    generalize dblN 52 (rung f) = D at *
    have hle : D ≤ 9218868437227405312 := by omega
    rw [e2, key (normF f) (normF_lt hl) (by rw [e1, wd_sgn hle]) (normF_notN hn), exp_field (normF_lt hl)]
    rw [show rung (normF f) = D by rw [e1, wd_rung hle]]
    rcases h with ⟨k, rfl, hk, hb⟩ | ⟨j, rfl, hj⟩
    · omega
    · have hj52 : 52 ≤ j := by
        rcases Nat.lt_or_ge j 52 with h3 | h3
        · have := hL j h3
          omega
        · exact h3
      rw [hD j hj52] at hj
      constructor
      · rw [show 4602678819172646912 + D % 4503599627370496 = r by omega]
      · omega
theorem le_dblN {r : Nat} (h : 0 < r) (j : Nat) : j ≤ dblN j r := by
  induction j with
  | zero => omega
  | succ j ih =>
    have := dbl_gt (show 0 < dblN j r by have := (dblN_mono h j).1; omega)
    rw [dblN]; omega
theorem part_bd {s : Bool} {r0 r : Nat} {i : Int} (h0 : 0 < r0) (h : PartRel s r0 r i) (hr : r < 4611686018427387904) : -4611686018427387904 ≤ i ∧ (i ≤ 4611686018427387904 ∨ 9218868437227405312 ≤ r0) := by
  rcases h with ⟨k, rfl, h1, h2⟩ | ⟨j, rfl, h1⟩
  · omega
  · have := le_dblN h0 j
    omega
theorem part_next {s : Bool} {r0 r : Nat} {i : Int} (h : PartRel s r0 r i) (hr : r < 4602678819172646912) : PartRel s r0 (dbl r) (i - 1) := by
  rcases h with ⟨k, rfl, h1, h2⟩ | ⟨j, rfl, h1⟩
  · omega
  · exact .inr ⟨j + 1, by omega, by rw [dblN, h1]⟩
theorem parts_plain {f : Nat} (h : (fin f && !feq f 0) = false) : partF f = f ∧ partE f = 0 := by
  unfold partF partE
  cases hn : isN f
  · rw [isInf0 hn]
    have hc : (feq f 0 || (!fin f || false)) = true := by
      cases hf : fin f <;> cases hz : feq f 0 <;> simp [hf, hz] at h ⊢
    rw [hc]; simp
  · simp

section
variable {x y f g : Nat} (hx : Rep x f) (hy : Rep y g) (w : World)
include hx
end
end Go.Proofs.Ytojldamhdnmdpaa
