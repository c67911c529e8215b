/- Angles of places have no sign before the last step. No condition. -/
import Derived.Test.YtncmppmkchbejaaAng6
import Derived.Test.YtncmppmkchbejaaDiv
namespace Go.Proofs.Ytncmppmkchbejaa
open Go.RowKit
set_option linter.unusedVariables false
set_option linter.unusedSimpArgs false
set_option maxRecDepth 100000
set_option maxHeartbeats 400000

section
variable {f g F G A W x : Nat}
theorem p_rung (h : f < 9218868437227405312) : rung f = f := by unfold rung; omega
theorem p_sgn (h : f < 9218868437227405312) : sgn f = false := by unfold sgn; simp; omega
theorem p_fin (h : f < 9218868437227405312) : Proofs.Ytncmppmkchbejaa.fin f = true := by unfold Proofs.Ytncmppmkchbejaa.fin; rw [p_rung h]; simpa using h
theorem p_sval (h : f < 9218868437227405312) : sval f = (mval f : Int) := by unfold sval; rw [p_sgn h, p_rung h]; rfl
theorem wdF (r : Nat) : wd false r = r := rfl
theorem sgn_add (a b : Nat) (s : Bool) : (if (a : Int) + (b : Int) = 0 then false && s else decide ((a : Int) + (b : Int) < 0)) = false := by
  split
  · rw [Bool.false_and]
  · exact decide_eq_false (by omega)
theorem sgn_sub (a b : Nat) (s : Bool) (h : b ≤ a) : (if (a : Int) - (b : Int) = 0 then false && s else decide ((a : Int) - (b : Int) < 0)) = false := by
  split
  · rw [Bool.false_and]
  · exact decide_eq_false (by omega)
theorem abs_add (a b : Nat) : ((a : Int) + (b : Int)).natAbs = a + b := by omega
theorem abs_sub (a b : Nat) (h : b ≤ a) : ((a : Int) - (b : Int)).natAbs = a - b := by omega
theorem p_add (h : f < 9218868437227405312) (k : g < 9218868437227405312) : fadd f g = rndN (mval f + mval g) := by
  rw [fadd_fin (p_fin h) (p_fin k), p_sval h, p_sval k, p_sgn h, abs_add, sgn_add, wdF]
theorem p_mul (h : f < 9218868437227405312) (k : g < 9218868437227405312) : fmul f g = rndQ (mval f * mval g) 1074 := by
  rw [fmul_fin (p_fin h) (p_fin k), p_sgn h, p_sgn k, p_rung h, p_rung k, Bool.xor_false, wdF]
theorem p_sub (h : f < 9218868437227405312) (hg : g ≤ f) : fsub f g = rndN (mval f - mval g) := by
  have k : g < 9218868437227405312 := by omega
  have m := mval_le_iff.2 hg
  rw [fsub_fin (p_fin h) (p_fin k) (by omega), p_sval h, p_sval k, p_sgn h, abs_sub _ _ m, sgn_sub _ _ _ m, wdF]
theorem mulP (h : f ≤ F) (k : g ≤ G) (hF : F < 9218868437227405312) (hG : G < 9218868437227405312) : fmul f g ≤ fmul F G := by
  rw [p_mul (by omega) (by omega), p_mul hF hG]
  exact rndQ_mono (Nat.mul_le_mul (mval_le_iff.2 h) (mval_le_iff.2 k))
theorem addP (h : f ≤ F) (k : g ≤ G) (hF : F < 9218868437227405312) (hG : G < 9218868437227405312) : fadd f g ≤ fadd F G := by
  rw [p_add (by omega) (by omega), p_add hF hG]
  exact rndN_mono (Nat.add_le_add (mval_le_iff.2 h) (mval_le_iff.2 k))
theorem subP (hf : f < 9218868437227405312) (hg : g ≤ f) : fsub f g ≤ f := by
  rw [p_sub hf hg]
  exact rndN_le_of hf (Nat.sub_le _ _)
theorem sval_abs_le (h : rung x ≤ W) : (sval x).natAbs ≤ mval W := by
  have := mval_le_iff.2 h
  rcases sval_cases x with ⟨_, e⟩ | ⟨_, e⟩ <;> rw [e] <;> omega
theorem addAbs (hA : A < 9218868437227405312) (hW : W < A) (hx : rung x ≤ W) : fadd A x ≤ fadd A W := by
  have hf : Proofs.Ytncmppmkchbejaa.fin x = true := by unfold Proofs.Ytncmppmkchbejaa.fin; simp; omega
  have a := sval_abs_le hx
  have b := mval_lt_iff.2 hW
  rw [fadd_fin (p_fin hA) hf, p_sval hA, p_add hA (by omega), p_sgn hA]
  have e : (if (mval A : Int) + sval x = 0 then false && sgn x else decide ((mval A : Int) + sval x < 0)) = false := by
    split
    · rw [Bool.false_and]
    · exact decide_eq_false (by omega)
  rw [e, wdF]
  exact rndN_mono (by omega)
theorem subAbs (hA : A < 9218868437227405312) (hW : W < A) (hl : x < 18446744073709551616) (hx : rung x ≤ W) : fsub A x ≤ fadd A W := by
  have hf : Proofs.Ytncmppmkchbejaa.fin x = true := by unfold Proofs.Ytncmppmkchbejaa.fin; simp; omega
  have a := sval_abs_le hx
  have b := mval_lt_iff.2 hW
  rw [fsub_fin (p_fin hA) hf hl, p_sval hA, p_add hA (by omega), p_sgn hA]
  have e : (if (mval A : Int) - sval x = 0 then false && !sgn x else decide ((mval A : Int) - sval x < 0)) = false := by
    split
    · rw [Bool.false_and]
    · exact decide_eq_false (by omega)
  rw [e, wdF]
  exact rndN_mono (by omega)
theorem rungSub (h : f ≤ F) (k : g ≤ G) (hF : F < 9218868437227405312) (hG : G < 9218868437227405312) : rung (fsub f g) ≤ fadd F G ∧ fsub f g < 18446744073709551616 := by
  have h1 := mval_le_iff.2 h
  have h2 := mval_le_iff.2 k
  rw [fsub_fin (p_fin (by omega)) (p_fin (by omega)) (by omega), wd_rung (rndN_le _), p_sval (by omega), p_sval (by omega), p_add hF hG]
  exact ⟨rndN_mono (by omega), wd_lt (rndN_le _)⟩
theorem rungAdd (h : rung x ≤ F) (k : g ≤ G) (hF : F < 9218868437227405312) (hG : G < 9218868437227405312) : rung (fadd x g) ≤ fadd F G := by
  have h2 := mval_le_iff.2 k
  have a := sval_abs_le h
  have hf : Proofs.Ytncmppmkchbejaa.fin x = true := by unfold Proofs.Ytncmppmkchbejaa.fin; simp; omega
  rw [fadd_fin hf (p_fin (by omega)), wd_rung (rndN_le _), p_sval (f := g) (by omega), p_add hF hG]
  exact rndN_mono (by omega)
theorem rungMul {y : Nat} (h : rung x ≤ F) (k : rung y ≤ G) (hF : F < 9218868437227405312) (hG : G < 9218868437227405312) : fmul x y = wd (sgn x ^^ sgn y) (rung (fmul x y)) ∧ rung (fmul x y) ≤ fmul F G := by
  have hf : Proofs.Ytncmppmkchbejaa.fin x = true := by unfold Proofs.Ytncmppmkchbejaa.fin; simp; omega
  have hg : Proofs.Ytncmppmkchbejaa.fin y = true := by unfold Proofs.Ytncmppmkchbejaa.fin; simp; omega
  rw [fmul_fin hf hg, wd_rung (rndQ_le _ _), p_mul hF hG]
  exact ⟨rfl, rndQ_mono (Nat.mul_le_mul (mval_le_iff.2 h) (mval_le_iff.2 k))⟩
end
def seqK : Nat → Nat
  | 0 => 0
  | j + 1 => fdiv 4607182418800017408 (ofInt (2 * (24 - (j : Int)) + 1))
def cZ : Nat := fmul 4601136786660235254 4601136786660235254
theorem seqK_ok : ∀ j : Nat, j < 26 → seqK j < 9218868437227405312 := by decide +kernel
theorem seqK_step : ∀ j : Nat, j < 25 → fmul cZ (seqK j) ≤ seqK (j + 1) := by decide +kernel
theorem cZ_ok : cZ < 9218868437227405312 := by decide +kernel
theorem seq_le {z : Nat} (hz : z ≤ cZ) : ∀ j : Nat, j < 26 → coreSeq z j ≤ seqK j
  | 0, _ => Nat.le_refl _
  | j + 1, h => by
    have h1 := seq_le hz j (by omega)
    have h2 := Nat.le_trans (mulP hz h1 cZ_ok (seqK_ok j (by omega))) (seqK_step j (by omega))
    exact subP (f := seqK (j + 1)) (seqK_ok (j + 1) h) h2
def cW : Nat := fadd 4601136786660235254 (fdiv 4368955796522032135 4616189618054758400)
def cC : Nat := fadd (fdiv 4614256656552045848 4616189618054758400) cW
theorem k_step : seqK 25 = 4607182418800017408 := by decide +kernel
theorem closed1 : fmul 4601136786660235254 4607182418800017408 = 4601136786660235254 ∧ 4601136786660235254 ≤ cC ∧ cW < fdiv 4614256656552045848 4616189618054758400 ∧ fdiv 4614256656552045848 4616189618054758400 < 9218868437227405312 ∧ fdiv 4368955796522032135 4616189618054758400 < 9218868437227405312 := by decide +kernel
theorem core_of {u : Nat} (hu : rung u ≤ 4601136786660235254) : coreSeq (fmul u u) 25 ≤ 4607182418800017408 ∧ fmul u (coreSeq (fmul u u) 25) = wd (sgn u) (rung (fmul u (coreSeq (fmul u u) 25))) ∧ rung (fmul u (coreSeq (fmul u u) 25)) ≤ 4601136786660235254 := by
  obtain ⟨a, b⟩ := rungMul hu hu (by decide) (by decide)
  have hz : fmul u u ≤ cZ := by
    rw [Bool.xor_self, wdF] at a
    rw [a]; exact b
  have h := seq_le hz 25 (by decide)
  rw [k_step] at h
  generalize coreSeq (fmul u u) 25 = s at *
  have hs : rung s ≤ 4607182418800017408 := by rw [p_rung (by omega)]; exact h
  obtain ⟨c, d⟩ := rungMul hu hs (by decide) (by decide)
  rw [p_sgn (f := s) (by omega), Bool.xor_false] at c
  refine ⟨h, c, ?_⟩
  rw [closed1.1] at d
  exact d
theorem far_le {t : Nat} (ht : t < 9218868437227405312) : farF t = decide (4601130706800738304 < t) := by
  unfold farF
  rw [flt_eq, fin_notN (p_fin ht), show isN 4601130706800738304 = false by decide +kernel, p_sval ht, p_sval (f := 4601130706800738304) (by decide), Bool.eq_iff_iff]
  simp only [Bool.not_false, Bool.true_and, decide_eq_true_eq]
  rw [← mval_lt_iff]
  omega
def cD : Nat := fsub 4607182418800017408 4601130706800738304
def cB : Nat := fadd 4601130706800738304 4607182418800017408
theorem closed2 : cD < 9218868437227405312 ∧ cB < 9218868437227405312 ∧ 0 < cB ∧ mval cD * U * 1048577 ≤ mval 4601136786660235254 * mval cB * 1048576 ∧ fadd 4607182435979886592 4607182418800017408 < 9218868437227405312 ∧ mval 4607182435979886592 - mval 4607182418800017408 ≤ mval 4607182418800017408 - mval 4601130706800738304 := by decide +kernel
theorem far_u {t : Nat} (h0 : 4601130706800738304 < t) (h1 : t ≤ 4607182435979886592) : rung (fdiv (fsub t 4607182418800017408) (fadd t 4607182418800017408)) ≤ 4601136786660235254 := by
  obtain ⟨d1, d2, d3, d4, d5, d6⟩ := closed2
  have hd : rung (fsub t 4607182418800017408) ≤ cD := by
    unfold cD
    rw [fsub_fin (p_fin (by omega)) (p_fin (by decide)) (by decide), wd_rung (rndN_le _), p_sval (f := t) (by omega), p_sval (f := 4607182418800017408) (by decide), p_sub (by decide) (by decide)]
    have a1 := mval_lt_iff.2 h0
    have a2 := mval_le_iff.2 h1
    apply rndN_mono
    generalize mval 4607182418800017408 = O at *
    generalize mval 4601130706800738304 = P at *
    generalize mval 4607182435979886592 = Q at *
    omega
  have hb : cB ≤ fadd t 4607182418800017408 := addP (Nat.le_of_lt h0) (Nat.le_refl _) (by omega) (by decide)
  have hb2 : fadd t 4607182418800017408 ≤ fadd 4607182435979886592 4607182418800017408 := addP h1 (Nat.le_refl _) (by decide) (by decide)
  generalize fsub t 4607182418800017408 = D at *
  generalize fadd t 4607182418800017408 = B at *
  have hB : B < 9218868437227405312 := by omega
  have hf : Proofs.Ytncmppmkchbejaa.fin D = true := by unfold Proofs.Ytncmppmkchbejaa.fin; simp; omega
  obtain ⟨r, e, hr⟩ := fdiv_le (c := 4601136786660235254) hf (p_fin hB) (by rw [p_rung hB]; omega) (by decide) (by
    rw [p_rung hB]
    have m1 := mval_le_iff.2 hd
    have m2 := mval_le_iff.2 hb
    refine Nat.le_trans (Nat.mul_le_mul_right _ (Nat.mul_le_mul_right _ m1)) (Nat.le_trans d4 ?_)
    exact Nat.mul_le_mul_right _ (Nat.mul_le_mul_left _ m2))
  rw [e, wd_rung (by omega)]
  exact hr
/-- THE CORE has no sign -/
theorem core_pos {t : Nat} (ht : t ≤ 4607182435979886592) : coreF t ≤ cC := by
  have hf := far_le (t := t) (by omega)
  unfold coreF coreV coreU
  rw [hf]
  by_cases h : 4601130706800738304 < t
  · rw [decide_eq_true h, if_pos rfl, if_pos rfl]
    obtain ⟨_, _, c⟩ := core_of (far_u h ht)
    obtain ⟨_, _, c3, c4, c5⟩ := closed1
    exact addAbs c4 c3 (rungAdd c (Nat.le_refl _) (by decide) c5)
  · rw [decide_eq_false h, if_neg (by simp), if_neg (by simp)]
    have hr : rung t ≤ 4601136786660235254 := by rw [p_rung (by omega)]; omega
    obtain ⟨_, b, c⟩ := core_of hr
    rw [p_sgn (f := t) (by omega), wdF] at b
    rw [b]
    exact Nat.le_trans c closed1.2.1
end Go.Proofs.Ytncmppmkchbejaa
