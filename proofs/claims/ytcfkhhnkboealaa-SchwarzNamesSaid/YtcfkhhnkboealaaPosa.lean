/- Angles of places have no sign before the last step. No condition. Bounds of the angle's core. The angle of a place: the program's and the document's come to one. No condition. Angles of turned floats: signs turn, bit by bit. No condition. Quarters, sines, cosines and places of turned floats. No condition. -/
import Derived.Test.YtcfkhhnkboealaaWhb
import Derived.Test.YtcfkhhnkboealaaAngb
namespace Go.Proofs.Ytcfkhhnkboealaa
open Go.RowKit
set_option linter.unusedVariables false
set_option linter.unusedSimpArgs false
set_option maxRecDepth 100000
set_option maxHeartbeats 400000

section
variable {f g F G A W x : Nat}
theorem p_rung (h : f < 9218868437227405312) : rung f = f := by unfold rung; omega
theorem p_sgn (h : f < 9218868437227405312) : sgn f = false := by unfold sgn; simp; omega
theorem p_fin (h : f < 9218868437227405312) : Proofs.Ytcfkhhnkboealaa.fin f = true := by unfold Proofs.Ytcfkhhnkboealaa.fin; rw [p_rung h]; simpa using h
theorem p_sval (h : f < 9218868437227405312) : sval f = (mval f : Int) := by unfold sval; rw [p_sgn h, p_rung h]; rfl
theorem wdF (r : Nat) : wd false r = r := rfl
theorem sgn_add (a b : Nat) (s : Bool) : (if (a : Int) + (b : Int) = 0 then false && s else decide ((a : Int) + (b : Int) < 0)) = false := by
  split
  · rw [Bool.false_and]
  · exact decide_eq_false (by omega)
theorem sgn_sub (a b : Nat) (s : Bool) (h : b ≤ a) : (if (a : Int) - (b : Int) = 0 then false && s else decide ((a : Int) - (b : Int) < 0)) = false := by
  split
  · rw [Bool.false_and]
  · exact decide_eq_false (by omega)
theorem abs_add (a b : Nat) : ((a : Int) + (b : Int)).natAbs = a + b := by omega
theorem abs_sub (a b : Nat) (h : b ≤ a) : ((a : Int) - (b : Int)).natAbs = a - b := by omega
theorem p_add (h : f < 9218868437227405312) (k : g < 9218868437227405312) : fadd f g = rndN (mval f + mval g) := by
  rw [fadd_fin (p_fin h) (p_fin k), p_sval h, p_sval k, p_sgn h, abs_add, sgn_add, wdF]
theorem p_mul (h : f < 9218868437227405312) (k : g < 9218868437227405312) : fmul f g = rndQ (mval f * mval g) 1074 := by
  rw [fmul_fin (p_fin h) (p_fin k), p_sgn h, p_sgn k, p_rung h, p_rung k, Bool.xor_false, wdF]
theorem p_sub (h : f < 9218868437227405312) (hg : g ≤ f) : fsub f g = rndN (mval f - mval g) := by
  have k : g < 9218868437227405312 := by omega
  have m := mval_le_iff.2 hg
  rw [fsub_fin (p_fin h) (p_fin k) (by omega), p_sval h, p_sval k, p_sgn h, abs_sub _ _ m, sgn_sub _ _ _ m, wdF]
theorem mulP (h : f ≤ F) (k : g ≤ G) (hF : F < 9218868437227405312) (hG : G < 9218868437227405312) : fmul f g ≤ fmul F G := by
  rw [p_mul (by omega) (by omega), p_mul hF hG]
  exact rndQ_mono (Nat.mul_le_mul (mval_le_iff.2 h) (mval_le_iff.2 k))
theorem addP (h : f ≤ F) (k : g ≤ G) (hF : F < 9218868437227405312) (hG : G < 9218868437227405312) : fadd f g ≤ fadd F G := by
  rw [p_add (by omega) (by omega), p_add hF hG]
  exact rndN_mono (Nat.add_le_add (mval_le_iff.2 h) (mval_le_iff.2 k))
theorem subP (hf : f < 9218868437227405312) (hg : g ≤ f) : fsub f g ≤ f := by
  rw [p_sub hf hg]
  exact rndN_le_of hf (Nat.sub_le _ _)
theorem sval_abs_le (h : rung x ≤ W) : (sval x).natAbs ≤ mval W := by
  have := mval_le_iff.2 h
  rcases sval_cases x with ⟨_, e⟩ | ⟨_, e⟩ <;> rw [e] <;> omega
theorem addAbs (hA : A < 9218868437227405312) (hW : W < A) (hx : rung x ≤ W) : fadd A x ≤ fadd A W := by
  have hf : Proofs.Ytcfkhhnkboealaa.fin x = true := by unfold Proofs.Ytcfkhhnkboealaa.fin; simp; omega
  have a := sval_abs_le hx
  have b := mval_lt_iff.2 hW
  rw [fadd_fin (p_fin hA) hf, p_sval hA, p_add hA (by omega), p_sgn hA]
  have e : (if (mval A : Int) + sval x = 0 then false && sgn x else decide ((mval A : Int) + sval x < 0)) = false := by
    split
    · rw [Bool.false_and]
    · exact decide_eq_false (by omega)
  rw [e, wdF]
  exact rndN_mono (by omega)
theorem subAbs (hA : A < 9218868437227405312) (hW : W < A) (hl : x < 18446744073709551616) (hx : rung x ≤ W) : fsub A x ≤ fadd A W := by
  have hf : Proofs.Ytcfkhhnkboealaa.fin x = true := by unfold Proofs.Ytcfkhhnkboealaa.fin; simp; omega
  have a := sval_abs_le hx
  have b := mval_lt_iff.2 hW
  rw [fsub_fin (p_fin hA) hf hl, p_sval hA, p_add hA (by omega), p_sgn hA]
  have e : (if (mval A : Int) - sval x = 0 then false && !sgn x else decide ((mval A : Int) - sval x < 0)) = false := by
    split
    · rw [Bool.false_and]
    · exact decide_eq_false (by omega)
  rw [e, wdF]
  exact rndN_mono (by omega)
theorem rungSub (h : f ≤ F) (k : g ≤ G) (hF : F < 9218868437227405312) (hG : G < 9218868437227405312) : rung (fsub f g) ≤ fadd F G ∧ fsub f g < 18446744073709551616 := by
  have h1 := mval_le_iff.2 h
  have h2 := mval_le_iff.2 k
  rw [fsub_fin (p_fin (by omega)) (p_fin (by omega)) (by omega), wd_rung (rndN_le _), p_sval (by omega), p_sval (by omega), p_add hF hG]
  exact ⟨rndN_mono (by omega), wd_lt (rndN_le _)⟩
theorem rungAdd (h : rung x ≤ F) (k : g ≤ G) (hF : F < 9218868437227405312) (hG : G < 9218868437227405312) : rung (fadd x g) ≤ fadd F G := by
  have h2 := mval_le_iff.2 k
  have a := sval_abs_le h
  have hf : Proofs.Ytcfkhhnkboealaa.fin x = true := by unfold Proofs.Ytcfkhhnkboealaa.fin; simp; omega
  rw [fadd_fin hf (p_fin (by omega)), wd_rung (rndN_le _), p_sval (f := g) (by omega), p_add hF hG]
  exact rndN_mono (by omega)
theorem rungMul {y : Nat} (h : rung x ≤ F) (k : rung y ≤ G) (hF : F < 9218868437227405312) (hG : G < 9218868437227405312) : fmul x y = wd (sgn x ^^ sgn y) (rung (fmul x y)) ∧ rung (fmul x y) ≤ fmul F G := by
  have hf : Proofs.Ytcfkhhnkboealaa.fin x = true := by unfold Proofs.Ytcfkhhnkboealaa.fin; simp; omega
  have hg : Proofs.Ytcfkhhnkboealaa.fin y = true := by unfold Proofs.Ytcfkhhnkboealaa.fin; simp; omega
  rw [fmul_fin hf hg, wd_rung (rndQ_le _ _), p_mul hF hG]
  exact ⟨rfl, rndQ_mono (Nat.mul_le_mul (mval_le_iff.2 h) (mval_le_iff.2 k))⟩
end
end Go.Proofs.Ytcfkhhnkboealaa
namespace Go.Proofs.Ytcfkhhnkboealaa
open Go.RowKit
set_option linter.unusedVariables false
set_option linter.unusedSimpArgs false
set_option maxRecDepth 100000

def seqK : Nat → Nat
  | 0 => 0
  | j + 1 => fdiv 4607182418800017408 (ofInt (2 * (24 - (j : Int)) + 1))
def cZ : Nat := fmul 4601136786660235254 4601136786660235254
theorem seqK_ok : ∀ j : Nat, j < 26 → seqK j < 9218868437227405312 := by decide +kernel
theorem seqK_step : ∀ j : Nat, j < 25 → fmul cZ (seqK j) ≤ seqK (j + 1) := by decide +kernel
theorem cZ_ok : cZ < 9218868437227405312 := by decide +kernel
theorem seq_le {z : Nat} (hz : z ≤ cZ) : ∀ j : Nat, j < 26 → coreSeq z j ≤ seqK j
  | 0, _ => Nat.le_refl _
  | j + 1, h => by
    have h1 := seq_le hz j (by omega)
    have h2 := Nat.le_trans (mulP hz h1 cZ_ok (seqK_ok j (by omega))) (seqK_step j (by omega))
    exact subP (f := seqK (j + 1)) (seqK_ok (j + 1) h) h2
def cW : Nat := fadd 4601136786660235254 (fdiv 4368955796522032135 4616189618054758400)
def cC : Nat := fadd (fdiv 4614256656552045848 4616189618054758400) cW
theorem k_step : seqK 25 = 4607182418800017408 := by decide +kernel
theorem closed1 : fmul 4601136786660235254 4607182418800017408 = 4601136786660235254 ∧ 4601136786660235254 ≤ cC ∧ cW < fdiv 4614256656552045848 4616189618054758400 ∧ fdiv 4614256656552045848 4616189618054758400 < 9218868437227405312 ∧ fdiv 4368955796522032135 4616189618054758400 < 9218868437227405312 := by decide +kernel
theorem core_of {u : Nat} (hu : rung u ≤ 4601136786660235254) : coreSeq (fmul u u) 25 ≤ 4607182418800017408 ∧ fmul u (coreSeq (fmul u u) 25) = wd (sgn u) (rung (fmul u (coreSeq (fmul u u) 25))) ∧ rung (fmul u (coreSeq (fmul u u) 25)) ≤ 4601136786660235254 := by
  obtain ⟨a, b⟩ := rungMul hu hu (by decide) (by decide)
  have hz : fmul u u ≤ cZ := by
    rw [Bool.xor_self, wdF] at a
    rw [a]; exact b
  have h := seq_le hz 25 (by decide)
  rw [k_step] at h
  generalize coreSeq (fmul u u) 25 = s at *
  have hs : rung s ≤ 4607182418800017408 := by rw [p_rung (by omega)]; exact h
  obtain ⟨c, d⟩ := rungMul hu hs (by decide) (by decide)
  rw [p_sgn (f := s) (by omega), Bool.xor_false] at c
  refine ⟨h, c, ?_⟩
  rw [closed1.1] at d
  exact d
theorem far_le {t : Nat} (ht : t < 9218868437227405312) : farF t = decide (4601130706800738304 < t) := by
  unfold farF
  rw [flt_eq, fin_notN (p_fin ht), show isN 4601130706800738304 = false by decide +kernel, p_sval ht, p_sval (f := 4601130706800738304) (by decide), Bool.eq_iff_iff]
  simp only [Bool.not_false, Bool.true_and, decide_eq_true_eq]
  rw [← mval_lt_iff]
  omega
def cD : Nat := fsub 4607182418800017408 4601130706800738304
def cB : Nat := fadd 4601130706800738304 4607182418800017408
theorem closed2 : cD < 9218868437227405312 ∧ cB < 9218868437227405312 ∧ 0 < cB ∧ mval cD * U * 1048577 ≤ mval 4601136786660235254 * mval cB * 1048576 ∧ fadd 4607182435979886592 4607182418800017408 < 9218868437227405312 ∧ mval 4607182435979886592 - mval 4607182418800017408 ≤ mval 4607182418800017408 - mval 4601130706800738304 := by decide +kernel
theorem far_u {t : Nat} (h0 : 4601130706800738304 < t) (h1 : t ≤ 4607182435979886592) : rung (fdiv (fsub t 4607182418800017408) (fadd t 4607182418800017408)) ≤ 4601136786660235254 := by
  obtain ⟨d1, d2, d3, d4, d5, d6⟩ := closed2
  have hd : rung (fsub t 4607182418800017408) ≤ cD := by
    unfold cD
    rw [fsub_fin (p_fin (by omega)) (p_fin (by decide)) (by decide), wd_rung (rndN_le _), p_sval (f := t) (by omega), p_sval (f := 4607182418800017408) (by decide), p_sub (by decide) (by decide)]
    have a1 := mval_lt_iff.2 h0
    have a2 := mval_le_iff.2 h1
    apply rndN_mono
    generalize mval 4607182418800017408 = O at *
    generalize mval 4601130706800738304 = P at *
    generalize mval 4607182435979886592 = Q at *
    omega
  have hb : cB ≤ fadd t 4607182418800017408 := addP (Nat.le_of_lt h0) (Nat.le_refl _) (by omega) (by decide)
  have hb2 : fadd t 4607182418800017408 ≤ fadd 4607182435979886592 4607182418800017408 := addP h1 (Nat.le_refl _) (by decide) (by decide)
  generalize fsub t 4607182418800017408 = D at *
  generalize fadd t 4607182418800017408 = B at *
  have hB : B < 9218868437227405312 := by omega
  have hf : Proofs.Ytcfkhhnkboealaa.fin D = true := by unfold Proofs.Ytcfkhhnkboealaa.fin; simp; omega
  obtain ⟨r, e, hr⟩ := fdiv_le (c := 4601136786660235254) hf (p_fin hB) (by rw [p_rung hB]; omega) (by decide) (by
    rw [p_rung hB]
    have m1 := mval_le_iff.2 hd
    have m2 := mval_le_iff.2 hb
    refine Nat.le_trans (Nat.mul_le_mul_right _ (Nat.mul_le_mul_right _ m1)) (Nat.le_trans d4 ?_)
    exact Nat.mul_le_mul_right _ (Nat.mul_le_mul_left _ m2))
  rw [e, wd_rung (by omega)]
  exact hr
/-- THE CORE has no sign -/
theorem core_pos {t : Nat} (ht : t ≤ 4607182435979886592) : coreF t ≤ cC := by
  have hf := far_le (t := t) (by omega)
  unfold coreF coreV coreU
  rw [hf]
  by_cases h : 4601130706800738304 < t
  · rw [decide_eq_true h, if_pos rfl, if_pos rfl]
    obtain ⟨_, _, c⟩ := core_of (far_u h ht)
    obtain ⟨_, _, c3, c4, c5⟩ := closed1
    exact addAbs c4 c3 (rungAdd c (Nat.le_refl _) (by decide) c5)
  · rw [decide_eq_false h, if_neg (by simp), if_neg (by simp)]
    have hr : rung t ≤ 4601136786660235254 := by rw [p_rung (by omega)]; omega
    obtain ⟨_, b, c⟩ := core_of hr
    rw [p_sgn (f := t) (by omega), wdF] at b
    rw [b]
    exact Nat.le_trans c closed1.2.1
end Go.Proofs.Ytcfkhhnkboealaa
namespace Go.Proofs.Ytcfkhhnkboealaa
open Go.RowKit
set_option linter.unusedVariables false
set_option linter.unusedSimpArgs false
set_option maxRecDepth 100000
set_option maxHeartbeats 400000

theorem q_notN {f : Nat} (h : f ≤ 9218868437227405312) : isN f = false := by
  rw [notN_iff]; unfold rung; omega
theorem q_sval {f : Nat} (h : f ≤ 9218868437227405312) : sval f = (mval f : Int) := by
  have h1 : sgn f = false := by unfold sgn; simp; omega
  have h2 : rung f = f := by unfold rung; omega
  unfold sval; rw [h1, h2]; rfl
theorem q_le {f g : Nat} (h : f ≤ 9218868437227405312) (k : g ≤ 9218868437227405312) : fle f g = decide (f ≤ g) := by
  rw [fle_eq, q_notN h, q_notN k, q_sval h, q_sval k, Bool.eq_iff_iff]
  simp only [Bool.not_false, Bool.true_and, decide_eq_true_eq]
  rw [← mval_le_iff]; omega
theorem q_eq {f g : Nat} (h : f ≤ 9218868437227405312) (k : g ≤ 9218868437227405312) : feq f g = decide (f = g) := by
  rw [feq_eq, q_notN h, q_notN k, q_sval h, q_sval k, Bool.eq_iff_iff]
  simp only [Bool.not_false, Bool.true_and, decide_eq_true_eq]
  constructor
  · intro e
    have a := (mval_le_iff (r := f) (s := g)).1 (by omega)
    have b := (mval_le_iff (r := g) (s := f)).1 (by omega)
    omega
  · rintro rfl; rfl
theorem fdiv_inf {p : Nat} (h : p < 9218868437227405312) : fdiv p 9218868437227405312 = 0 := by
  obtain ⟨m, k, hr, _⟩ := read_number (x := p) (by rw [p_rung h]; exact h)
  rw [div_def, hr, show Ieee.double.read 9218868437227405312 = .infinity false by decide +kernel, p_sgn h]
  simp only [Ieee.Datum.quotient, Option.map_some, canon]
  decide +kernel
theorem closed3 : U * 1048577 ≤ mval 4607182435979886592 * 1048576 := by decide +kernel
/-- a quotient of lengths, the less by the greater -/
theorem quo_le {p q : Nat} (hp : p < 9218868437227405312) (hq : q ≤ 9218868437227405312) (h : p ≤ q) (h0 : q ≠ 0) : fdiv p q ≤ 4607182435979886592 := by
  by_cases hi : q = 9218868437227405312
  · subst hi; rw [fdiv_inf hp]; exact Nat.zero_le _
  have hq' : q < 9218868437227405312 := by omega
  obtain ⟨r, e, hr⟩ := fdiv_le (c := 4607182435979886592) (p_fin hp) (p_fin hq') (by rw [p_rung hq']; exact h0) (by decide) (by
    rw [p_rung hp, p_rung hq']
    have m1 := mval_le_iff.2 h
    have e1 : mval p * U * 1048577 = mval p * (U * 1048577) := by rw [Nat.mul_assoc]
    have e2 : mval 4607182435979886592 * mval q * 1048576 = mval q * (mval 4607182435979886592 * 1048576) := by
      generalize mval 4607182435979886592 = a
      rw [Nat.mul_comm a, Nat.mul_assoc]
    rw [e1, e2]
    exact Nat.mul_le_mul m1 closed3)
  rw [e, p_sgn hp, p_sgn hq', Bool.xor_false, wdF]
  exact hr
def cX : Nat := fadd cC cL2
def cP : Nat := fadd cH2 cX
def cY : Nat := fadd cP 4368955796522032135
def cE : Nat := fadd 4614256656552045848 cY
theorem closed4 : cC < 9218868437227405312 ∧ cL2 < 9218868437227405312 ∧ cX < cH2 ∧ cH2 < 9218868437227405312 ∧ cP < 9218868437227405312 ∧ cY < 4614256656552045848 ∧ cE < 9218868437227405312 ∧ cC ≤ cP ∧ cH4 ≤ cP ∧ cP ≤ cE := by decide +kernel
theorem place_pos {p q : Nat} (hp : p ≤ 9218868437227405312) (hq : q ≤ 9218868437227405312) : placeP p q ≤ cP := by
  obtain ⟨d1, d2, d3, d4, d5, d6, d7, d8, d9, d10⟩ := closed4
  unfold placeP
  rw [q_eq hp (by decide), q_eq hp hq, q_le hp hq, infP_iff (by omega) (q_notN hp)]
  by_cases h0 : p = 0
  · rw [decide_eq_true h0, if_pos rfl]; exact Nat.zero_le _
  rw [decide_eq_false h0, if_neg (by simp)]
  by_cases h1 : p = q ∧ p = 9218868437227405312
  · rw [decide_eq_true h1.1, decide_eq_true h1.2, Bool.true_and, if_pos rfl]; exact d9
  rw [if_neg (by simpa using h1)]
  by_cases h2 : p ≤ q
  · rw [decide_eq_true h2, if_pos rfl]
    exact Nat.le_trans (core_pos (quo_le (by omega) hq h2 (by omega))) d8
  · rw [decide_eq_false h2, if_neg (by simp)]
    have c := core_pos (quo_le (p := q) (q := p) (by omega) hp (by omega) h0)
    obtain ⟨a, b⟩ := rungSub c (Nat.le_refl cL2) d1 d2
    exact subAbs d4 d3 b a
theorem ofAbs_pos {y x : Nat} (hy : isN y = false) (hx : isN x = false) : ofAbs y x ≤ cE := by
  obtain ⟨d1, d2, d3, d4, d5, d6, d7, d8, d9, d10⟩ := closed4
  have a1 := (notN_iff y).1 hy
  have a2 := (notN_iff x).1 hx
  have h := place_pos (p := fabs y) (q := fabs x) (by rw [fabs_of hy]; exact a1) (by rw [fabs_of hx]; exact a2)
  unfold ofAbs backP
  split
  · obtain ⟨a, b⟩ := rungSub h (Nat.le_refl 4368955796522032135) d5 (by decide)
    exact subAbs (by decide) d6 b a
  · exact Nat.le_trans h d10
theorem ofR_eq (y x : Nat) : ofR y x = ofF y x := by
  unfold ofR ofF
  cases hy : isN y
  · cases hx : isN x
    · rw [if_neg (show ¬ ((false || false) = true) by decide), if_neg (show ¬ ((false || false) = true) by decide)]
      have h := ofAbs_pos hy hx
      have d7 := closed4.2.2.2.2.2.2.1
      generalize ofAbs y x = b at h
      have hb : b < 9218868437227405312 := by omega
      unfold signed minus
      rw [fin_notN (p_fin hb), hy, if_neg (show ¬ (false = true) by decide), p_rung hb]
      have hn : fneg b = wd true b := by
        have := wd_neg (s := false) (r := b) (by omega)
        rw [wdF] at this
        exact this
      cases hs : sgn y
      · rfl
      · rw [if_pos rfl, if_pos (by simp), hn]
        unfold wd
        rw [if_pos rfl, Nat.add_comm]
    · rw [if_pos (by simp), if_pos (by simp)]
  · rw [if_pos (by simp), if_pos (by simp)]
end Go.Proofs.Ytcfkhhnkboealaa
namespace Go.Proofs.Ytcfkhhnkboealaa
open Go.RowKit
set_option linter.unusedVariables false
set_option linter.unusedSimpArgs false
set_option maxRecDepth 100000
set_option maxHeartbeats 1000000

theorem mval_step {s q : Nat} (h1 : 4503599627370496 ≤ q) (h2 : q ≤ 9007199254740992) : mval (s * 4503599627370496 + q) = q * 2 ^ s := by
  unfold mval
  rw [if_neg (by omega)]
  by_cases h : q = 9007199254740992
  · subst h
    rw [show (s * 4503599627370496 + 9007199254740992) % 4503599627370496 = 0 by omega, show (s * 4503599627370496 + 9007199254740992) / 4503599627370496 - 1 = s + 1 by omega, Nat.pow_succ, Nat.mul_comm (2 ^ s) 2, ← Nat.mul_assoc]
  · rw [show (s * 4503599627370496 + q) % 4503599627370496 = q - 4503599627370496 by omega, show (s * 4503599627370496 + q) / 4503599627370496 - 1 = s by omega, show 4503599627370496 + (q - 4503599627370496) = q by omega]
theorem mval_grid {r G : Nat} (h : (G + 1) * 4503599627370496 ≤ r) : 2 ^ G ∣ mval r := by
  unfold mval
  rw [if_neg (by omega)]
  exact Nat.dvd_trans (Nat.pow_dvd_pow 2 (by omega)) (Nat.dvd_mul_left _ _)
theorem rnd_grid {N G : Nat} (hG : G ≤ 2045) (hN : 2 ^ G ∣ N) (hf : rndN N < 9218868437227405312) : 2 ^ G ∣ mval (rndN N) := by
  obtain ⟨M, rfl⟩ := hN
  rw [Nat.mul_comm] at hf ⊢
  by_cases h : M < 9007199254740992
  · rw [(rnd_exact h hG).2]; exact Nat.dvd_mul_left _ _
  · have hM : M ≠ 0 := by omega
    have hl : 53 ≤ M.log2 := by
      have := (Nat.le_log2 hM (k := 53)).2 (by omega)
      exact this
    have hlog := log2_mul M G hM
    have h0 : M * 2 ^ G ≠ 0 := Nat.mul_ne_zero hM (Nat.pos_iff_ne_zero.1 (Nat.two_pow_pos G))
    unfold rndN rndQ at hf ⊢
    rw [if_neg h0, hlog] at hf
    rw [if_neg h0, hlog]
    have e1 : M.log2 + G - 52 - 0 = M.log2 + G - 52 := rfl
    rw [e1, Nat.zero_add] at hf ⊢
    have hs : G ≤ M.log2 + G - 52 := by omega
    have a1 := Nat.log2_self_le h0
    have a2 : M * 2 ^ G < 2 ^ ((M * 2 ^ G).log2 + 1) := Nat.lt_log2_self
    rw [hlog] at a1 a2
    have b1 : 2 ^ (M.log2 + G) = 4503599627370496 * 2 ^ (M.log2 + G - 52) := by
      rw [show (4503599627370496 : Nat) = 2 ^ 52 by decide, ← Nat.pow_add]; congr 1; omega
    have b2 : 2 ^ (M.log2 + G + 1) = 9007199254740992 * 2 ^ (M.log2 + G - 52) := by
      rw [show (9007199254740992 : Nat) = 2 ^ 53 by decide, ← Nat.pow_add]; congr 1; omega
    rw [b1] at a1
    rw [b2] at a2
    generalize M.log2 + G - 52 = s at *
    have q1 := le_rne_of (Nat.two_pow_pos s) a1
    have q2 := rne_le_of (Nat.two_pow_pos s) (Nat.le_of_lt a2)
    generalize rne (M * 2 ^ G) (2 ^ s) = q at *
    rw [show min (s * 4503599627370496 + q) 9218868437227405312 = s * 4503599627370496 + q by omega, mval_step q1 q2]
    exact Nat.dvd_trans (Nat.pow_dvd_pow 2 hs) (Nat.dvd_mul_left _ _)
theorem sval_dvd {f G : Nat} : ((2 ^ G : Nat) : Int) ∣ sval f ↔ 2 ^ G ∣ mval (rung f) := by
  rcases sval_cases f with ⟨_, e⟩ | ⟨_, e⟩ <;> rw [e]
  · exact Int.natCast_dvd_natCast
  · rw [Int.dvd_neg]; exact Int.natCast_dvd_natCast
theorem fsub_grid {f g G : Nat} (hG : G ≤ 2045) (hf : Proofs.Ytcfkhhnkboealaa.fin f = true) (hg : Proofs.Ytcfkhhnkboealaa.fin g = true) (hl : g < 18446744073709551616) (hr : Proofs.Ytcfkhhnkboealaa.fin (fsub f g) = true)
    (a : ((2 ^ G : Nat) : Int) ∣ sval f) (b : ((2 ^ G : Nat) : Int) ∣ sval g) : ((2 ^ G : Nat) : Int) ∣ sval (fsub f g) := by
  have h := fin_rung hr
  rw [sval_dvd]
  rw [fsub_fin hf hg hl, wd_rung (rndN_le _)] at h ⊢
  exact rnd_grid hG (Int.ofNat_dvd_left.1 (Int.dvd_sub a b)) h
theorem fsub_sval_turn {f g f' g' : Nat} (hf : Proofs.Ytcfkhhnkboealaa.fin f = true) (hg : Proofs.Ytcfkhhnkboealaa.fin g = true) (hl : g < 18446744073709551616) (hf' : Proofs.Ytcfkhhnkboealaa.fin f' = true) (hg' : Proofs.Ytcfkhhnkboealaa.fin g' = true) (hl' : g' < 18446744073709551616)
    (a : sval f' = -sval f) (b : sval g' = -sval g) : sval (fsub f' g') = -sval (fsub f g) := by
  rw [fsub_fin hf hg hl, fsub_fin hf' hg' hl', wd_sval (rndN_le _), wd_sval (rndN_le _), a, b, show -sval f - -sval g = -(sval f - sval g) by omega, Int.natAbs_neg]
  generalize sval f - sval g = d
  by_cases h0 : d = 0
  · subst h0
    have e : mval (rndN (0 : Int).natAbs) = 0 := by decide +kernel
    rw [e]; simp
  · rw [if_neg h0, if_neg (show ¬ -d = 0 by omega)]
    by_cases h : d < 0
    · rw [decide_eq_true h, decide_eq_false (show ¬ -d < 0 by omega)]; simp
    · rw [decide_eq_false h, decide_eq_true (show -d < 0 by omega)]; simp
theorem fsub_turn_ne {f g f' g' : Nat} (hf : Proofs.Ytcfkhhnkboealaa.fin f = true) (hg : Proofs.Ytcfkhhnkboealaa.fin g = true) (hl : g < 18446744073709551616) (hf' : Proofs.Ytcfkhhnkboealaa.fin f' = true) (hg' : Proofs.Ytcfkhhnkboealaa.fin g' = true) (hl' : g' < 18446744073709551616)
    (a : sval f' = -sval f) (b : sval g' = -sval g) (hne : sval f ≠ sval g) : fsub f' g' = fneg (fsub f g) := by
  rw [fsub_fin hf hg hl, fsub_fin hf' hg' hl', wd_neg (rndN_le _), a, b, show -sval f - -sval g = -(sval f - sval g) by omega, Int.natAbs_neg]
  have h0 : sval f - sval g ≠ 0 := by omega
  generalize sval f - sval g = d at h0
  rw [if_neg h0, if_neg (show ¬ -d = 0 by omega)]
  by_cases h : d < 0
  · rw [decide_eq_true h, decide_eq_false (show ¬ -d < 0 by omega)]; rfl
  · rw [decide_eq_false h, decide_eq_true (show -d < 0 by omega)]; rfl
theorem mulW {m M p Q k : Nat} (hm : Proofs.Ytcfkhhnkboealaa.fin m = true) (hM : mval (rung m) = M * U) (hp : p < 9218868437227405312) (hQ : mval p = Q * 2 ^ k) (hk : k ≤ 2045) (hb : M * Q < 9007199254740992) :
    Proofs.Ytcfkhhnkboealaa.fin (fmul m p) = true ∧ mval (rung (fmul m p)) = M * Q * 2 ^ k ∧ fmul m p < 18446744073709551616 := by
  rw [fmul_fin hm (p_fin hp), p_rung hp, hM, hQ]
  have e : M * U * (Q * 2 ^ k) = M * Q * 2 ^ k * U := by ac_rfl
  rw [e, ← e1_eq, rndQ_U]
  obtain ⟨h1, h2⟩ := rnd_exact hb hk
  refine ⟨?_, ?_, wd_lt (rndN_le _)⟩
  · unfold Proofs.Ytcfkhhnkboealaa.fin; rw [wd_rung (rndN_le _)]; simpa using h1
  · rw [wd_rung (rndN_le _)]; exact h2
def kA : Nat := 1044
def kB : Nat := 1009
def kC : Nat := 978
theorem piece0_ok : fmul 4607182418800017408 (piece 0) = 4609753056924401664 ∧ mval 4609753056924401664 = 1686629713 * 2 ^ kA := by decide +kernel
theorem piece1_ok : fmul 4607182418800017408 (piece 1) = 4454258360616747008 ∧ mval 4454258360616747008 = 2242054355 * 2 ^ kB := by decide +kernel
theorem piece2_ok : fmul 4607182418800017408 (piece 2) = 4297306550709518336 ∧ mval 4297306550709518336 = 160220439 * 2 ^ kC := by decide +kernel
theorem less_open (x m : Nat) : lessF x m 4607182418800017408 = fsub (fsub (fsub x (fmul m 4609753056924401664)) (fmul m 4454258360616747008)) (fmul m 4297306550709518336) := by
  show fsub (fsub (fsub x (fmul m (fmul 4607182418800017408 (piece 0)))) (fmul m (fmul 4607182418800017408 (piece 1)))) (fmul m (fmul 4607182418800017408 (piece 2))) = _
  rw [piece0_ok.1, piece1_ok.1, piece2_ok.1]
theorem dvd_no {M : Nat} (h0 : M ≠ 0) (hM2 : M ≤ 1048576) (h3 : 2 ^ 31 ∣ M * 160220439) : False := by
  have h4 : 2 ^ 31 ∣ M := Nat.Coprime.dvd_of_dvd_mul_right (show Nat.Coprime (2 ^ 31) 160220439 by decide +kernel) h3
  have h5 := Nat.le_of_dvd (Nat.pos_of_ne_zero h0) h4
  exact absurd (Nat.le_trans h5 hM2) (by decide)
theorem less_turn {x m M : Nat} (hx : Bd x 20) (hm : Bd m 20) (hM : mval (rung m) = M * U) (h0 : M ≠ 0) (hM2 : M ≤ 1048576) (hbig : 4602678819172646912 ≤ rung x) :
    lessF (fneg x) (fneg m) 4607182418800017408 = fneg (lessF x m 4607182418800017408) := by
  rw [less_open, less_open, fmul_turn hm.lt hm.fin (by decide +kernel), fmul_turn hm.lt hm.fin (by decide +kernel), fmul_turn hm.lt hm.fin (by decide +kernel)]
  obtain ⟨f0, v0, l0⟩ := mulW (p := 4609753056924401664) hm.fin hM (by decide) piece0_ok.2 (by decide) (by omega)
  obtain ⟨f1, v1, l1⟩ := mulW (p := 4454258360616747008) hm.fin hM (by decide) piece1_ok.2 (by decide) (by omega)
  obtain ⟨f2, v2, l2⟩ := mulW (p := 4297306550709518336) hm.fin hM (by decide) piece2_ok.2 (by decide) (by omega)
  have B0 : Bd (fmul m 4609753056924401664) 21 := hm.mul (Bd.mk_c (k := 1) (by decide +kernel)) (by decide)
  have B1 : Bd (fmul m 4454258360616747008) 21 := hm.mul (Bd.mk_c (k := 1) (by decide +kernel)) (by decide)
  have B2 : Bd (fmul m 4297306550709518336) 21 := hm.mul (Bd.mk_c (k := 1) (by decide +kernel)) (by decide)
  generalize fmul m 4609753056924401664 = d0 at *
  generalize fmul m 4454258360616747008 = d1 at *
  generalize fmul m 4297306550709518336 = d2 at *
  have Y1 := (hx.mono (show 20 ≤ 21 by decide)).sub B0 (by decide)
  have Y2 := Y1.sub (B1.mono (show 21 ≤ 22 by decide)) (by decide)
  have n0 : ∀ {d : Nat}, Bd d 21 → Proofs.Ytcfkhhnkboealaa.fin (fneg d) = true := fun h => by rw [fin_neg]; exact h.fin
  have s0 : ∀ {d k : Nat}, Bd d k → sval (fneg d) = -sval d := fun h => sval_neg h.lt h.notN
  have fx : Proofs.Ytcfkhhnkboealaa.fin (fneg x) = true := by rw [fin_neg]; exact hx.fin
  have t1 := fsub_sval_turn hx.fin B0.fin B0.lt fx (n0 B0) (fneg_lt B0.lt) (s0 hx) (s0 B0)
  have z1 : Proofs.Ytcfkhhnkboealaa.fin (fsub (fneg x) (fneg d0)) = true := by
    rw [fsub_fin fx (n0 B0) (fneg_lt B0.lt), s0 hx, s0 B0]
    have := Y1.fin
    rw [fsub_fin hx.fin B0.fin B0.lt] at this
    unfold Proofs.Ytcfkhhnkboealaa.fin at this ⊢
    rw [wd_rung (rndN_le _)] at this ⊢
    rw [show -sval x - -sval d0 = -(sval x - sval d0) by omega, Int.natAbs_neg]
    exact this
  have t2 := fsub_sval_turn Y1.fin B1.fin B1.lt z1 (n0 B1) (fneg_lt B1.lt) t1 (s0 B1)
  have z2 : Proofs.Ytcfkhhnkboealaa.fin (fsub (fsub (fneg x) (fneg d0)) (fneg d1)) = true := by
    rw [fsub_fin z1 (n0 B1) (fneg_lt B1.lt), t1, s0 B1]
    have := Y2.fin
    rw [fsub_fin Y1.fin B1.fin B1.lt] at this
    unfold Proofs.Ytcfkhhnkboealaa.fin at this ⊢
    rw [wd_rung (rndN_le _)] at this ⊢
    generalize sval (fsub x d0) = a at *
    rw [show -a - -sval d1 = -(a - sval d1) by omega, Int.natAbs_neg]
    exact this
  refine fsub_turn_ne Y2.fin B2.fin B2.lt z2 (n0 B2) (fneg_lt B2.lt) t2 (s0 B2) ?_
  have gx : ((2 ^ kB : Nat) : Int) ∣ sval x := sval_dvd.2 (mval_grid (by unfold kB; omega))
  have g0 : ((2 ^ kB : Nat) : Int) ∣ sval d0 := sval_dvd.2 (by rw [v0]; exact Nat.dvd_trans (Nat.pow_dvd_pow 2 (by decide)) (Nat.dvd_mul_left _ _))
  have g1 : ((2 ^ kB : Nat) : Int) ∣ sval d1 := sval_dvd.2 (by rw [v1]; exact Nat.dvd_mul_left _ _)
  have gy1 := fsub_grid (by decide) hx.fin B0.fin B0.lt Y1.fin gx g0
  have gy2 := fsub_grid (by decide) Y1.fin B1.fin B1.lt Y2.fin gy1 g1
  intro heq
  rw [heq, sval_dvd, v2] at gy2
  have h3 : 2 ^ 31 ∣ M * 160220439 := by
    rw [show kB = 31 + kC from rfl, Nat.pow_add] at gy2
    exact Nat.dvd_of_mul_dvd_mul_right (Nat.two_pow_pos kC) gy2
  exact dvd_no h0 hM2 h3
end Go.Proofs.Ytcfkhhnkboealaa
namespace Go.Proofs.Ytcfkhhnkboealaa
open Go.RowKit
set_option linter.unusedVariables false
set_option linter.unusedSimpArgs false
set_option maxRecDepth 100000
set_option maxHeartbeats 1000000

theorem aux_div {a P V G : Nat} (h : a ≤ P * V) (h2 : 2 * V ≤ G) : a * V * 1048577 ≤ P * V * G * 1048576 := by
  have h1 : a * V * 1048577 ≤ P * V * V * 1048577 := Nat.mul_le_mul_right _ (Nat.mul_le_mul_right _ h)
  have h3 : P * V * (2 * V) * 1048576 ≤ P * V * G * 1048576 := Nat.mul_le_mul_right _ (Nat.mul_le_mul_left _ h2)
  have h4 : P * V * (2 * V) * 1048576 = P * V * V * (2 * 1048576) := by ac_rfl
  rw [h4] at h3
  exact Nat.le_trans h1 (Nat.le_trans (Nat.mul_le_mul_left _ (by decide)) h3)
theorem Bd.div2 {f g k : Nat} (h : Bd f k) (hg : Proofs.Ytcfkhhnkboealaa.fin g = true) (h2 : 2 * U ≤ mval (rung g)) (hk : k ≤ 900) : Bd (fdiv f g) k := by
  obtain ⟨c1, c2⟩ := rnd_pow hk
  have hg0 : rung g ≠ 0 := by
    intro h0
    rw [h0, show mval 0 = 0 by decide +kernel] at h2
    have := U_pos
    omega
  obtain ⟨r, e, hr⟩ := fdiv_le h.fin hg hg0 c1 (by rw [c2]; exact aux_div h.le h2)
  rw [e]
  have hr2 : r ≤ 9218868437227405312 := by omega
  refine ⟨wd_lt hr2, ?_, ?_⟩
  · unfold Proofs.Ytcfkhhnkboealaa.fin; rw [wd_rung hr2]; simp; omega
  · rw [wd_rung hr2]; exact Nat.le_trans (mval_le_iff.2 hr) (Nat.le_of_eq c2)
theorem sin_c : ∀ j : Nat, j < 9 → Proofs.Ytcfkhhnkboealaa.fin (ofInt (2 * (9 - (j : Int)) * (2 * (9 - (j : Int)) + 1))) = true ∧ 2 * U ≤ mval (rung (ofInt (2 * (9 - (j : Int)) * (2 * (9 - (j : Int)) + 1)))) := by decide +kernel
theorem sin_bd {z : Nat} (hz : Bd z 52) : ∀ j : Nat, j ≤ 9 → Bd (sinSeq z j) (53 * j)
  | 0, _ => Bd.mk_c (c := 4607182418800017408) (k := 0) (by decide +kernel)
  | j + 1, h => by
    have h1 := sin_bd hz j (by omega)
    obtain ⟨a, b⟩ := sin_c j (by omega)
    have h2 := (hz.div2 a b (by decide)).mul h1 (by omega)
    have h3 : Bd 4607182418800017408 (52 + 53 * j) := (Bd.mk_c (c := 4607182418800017408) (k := 0) (by decide +kernel)).mono (by omega)
    have h4 := h3.sub h2 (by omega)
    exact h4.mono (by omega)
theorem sq_turn {y : Nat} (hl : y < 18446744073709551616) (hf : Proofs.Ytcfkhhnkboealaa.fin y = true) : fmul (fneg y) (fneg y) = fmul y y := by
  rw [fmul_turn hl hf (by rw [fin_neg]; exact hf), fmul_turn2 hl hf hf, fneg_fneg (f := fmul y y) (canon_map_lt _) (nrm_fmul _ _)]
theorem sine_turn {y : Nat} (h : Bd y 26) : sineF (fneg y) = fneg (sineF y) := by
  unfold sineF
  rw [sq_turn h.lt h.fin, fmul_turn h.lt h.fin (sin_bd (h.mul h (by decide)) 9 (by decide)).fin]
theorem cos_turn {y : Nat} (h : Bd y 26) : cosF (fneg y) = cosF y := by
  unfold cosF; rw [sq_turn h.lt h.fin]
theorem fit_neg (f : Nat) : fit (fneg f) = fit f := by unfold fit within; rw [fabs_neg]
theorem qG_bd {f : Nat} (hl : f < 18446744073709551616) (h : fit f = true) : Bd (fmul f 4603909380684499075) 20 := (fit_bd hl h).mul (Bd.mk_c (k := 0) (by decide +kernel)) (by decide)
theorem qM_turn {f : Nat} (hl : f < 18446744073709551616) (h : fit f = true) : quarterM (fneg f) = fneg (quarterM f) := by
  unfold quarterM
  rw [fmul_turn hl (fit_bd hl h).fin (by decide +kernel), whole_turn (qG_bd hl h).lt]
theorem closed5 : 2 * mval (fmul 4602678819172646912 4603909380684499075) < U := by decide +kernel
theorem quarterX_fit {f : Nat} (hl : f < 18446744073709551616) (h : fit f = true) : quarterX (fneg f) = fneg (quarterX f) ∧ Bd (quarterX f) 26 := by
  unfold quarterX
  rw [fit_neg, h, if_pos rfl, if_pos rfl, qM_turn hl h, feq_zero_neg (quarterM_bd hl h).notN]
  cases hz : feq (quarterM f) 0
  · rw [if_neg (by simp), if_neg (by simp)]
    have hg := qG_bd hl h
    have hM2 : wholeN (rung (fmul f 4603909380684499075)) ≤ 1048576 := (hg.whole (by decide)).2
    have hrg : rung (quarterM f) = rndN (wholeN (rung (fmul f 4603909380684499075)) * U) := by
      unfold quarterM
      rw [whole_eq hg.fin, wd_rung (rndN_le _)]
    have h0 : wholeN (rung (fmul f 4603909380684499075)) ≠ 0 := by
      intro h0
      rw [h0, Nat.zero_mul] at hrg
      rw [feq_zero (quarterM_bd hl h).notN, hrg] at hz
      exact absurd hz (by decide +kernel)
    have hbig : 4602678819172646912 ≤ rung f := by
      apply Nat.le_of_not_lt
      intro hlt
      obtain ⟨_, b⟩ := rungMul (x := f) (y := 4603909380684499075) (Nat.le_of_lt hlt) (G := 4603909380684499075) (by decide +kernel) (by decide) (by decide)
      apply h0
      unfold wholeN
      exact rne_small (Nat.lt_of_le_of_lt (Nat.mul_le_mul_left 2 (mval_le_iff.2 b)) closed5)
    refine ⟨less_turn (fit_bd hl h) (quarterM_bd hl h) (by rw [hrg]; exact (rnd_whole (by omega)).2) h0 hM2 hbig, ?_⟩
    exact less_bd (fit_bd hl h) (quarterM_bd hl h) (Bd.mk_c (by decide +kernel))
  · rw [if_pos rfl, if_pos rfl]
    exact ⟨rfl, (fit_bd hl h).mono (by decide)⟩
theorem wInt_turn {m : Nat} (hl : m < 18446744073709551616) (hn : isN m = false) : wInt (fneg m) = -wInt m := by
  unfold wInt
  rw [rung_neg' hn, sgn_neg hl hn]
  cases sgn m <;> simp
theorem neg_nan : fneg nanB = nanB := by decide +kernel
theorem quarterX_turn {f : Nat} (hl : f < 18446744073709551616) : quarterX (fneg f) = fneg (quarterX f) := by
  cases h : fit f
  · unfold quarterX
    rw [fit_neg, h, if_neg (by simp), if_neg (by simp), neg_nan]
  · exact (quarterX_fit hl h).1
theorem quarterN_turn {f : Nat} (hl : f < 18446744073709551616) : quarterN (fneg f) = (4 - quarterN f) % 4 := by
  unfold quarterN
  rw [fit_neg]
  cases h : fit f
  · rfl
  · rw [if_pos rfl, if_pos rfl, qM_turn hl h, feq_zero_neg (quarterM_bd hl h).notN, wInt_turn (quarterM_bd hl h).lt (quarterM_bd hl h).notN]
    cases feq (quarterM f) 0
    · rw [if_neg (by simp), if_neg (by simp)]; omega
    · rfl
theorem turn_turn {f : Nat} (hl : f < 18446744073709551616) : turnS (fneg f) = fneg (turnS f) ∧ turnC (fneg f) = turnC f := by
  cases h : fit f
  · obtain ⟨a, b⟩ := turn_unfit h
    obtain ⟨c, d⟩ := turn_unfit (f := fneg f) (by rw [fit_neg]; exact h)
    rw [a, b, c, d, neg_nan]; exact ⟨rfl, rfl⟩
  · obtain ⟨hx, hb⟩ := quarterX_fit hl h
    have hs := sine_turn hb
    have hc := cos_turn hb
    have hn := quarterN_turn hl
    unfold turnS turnC
    rw [hx, hs, hc, hn]
    have s2 := fneg_fneg (sineF_lt (quarterX f)) (sineF_nrm _)
    have c2 : fneg (fneg (cosF (quarterX f))) = cosF (quarterX f) := fneg_fneg (canon_map_lt _) (nrm_fsub _ _)
    rcases quarterN_cases f with e | e | e | e <;> rw [e]
    · exact ⟨rfl, rfl⟩
    · exact ⟨rfl, rfl⟩
    · exact ⟨rfl, rfl⟩
    · refine ⟨?_, ?_⟩
      · exact c2.symm
      · exact s2
theorem signed_wd2 {b y : Nat} (hb : b < 9218868437227405312) (hy : isN y = false) : signed b y = wd (sgn y) b := by
  unfold signed minus
  rw [fin_notN (p_fin hb), hy, if_neg (show ¬ (false = true) by decide), p_rung hb]
  cases sgn y
  · rfl
  · rw [if_pos (by simp)]; unfold wd; rw [if_pos rfl, Nat.add_comm]
theorem of_turn {y x : Nat} (hl : y < 18446744073709551616) (hy : isN y = false) (hx : isN x = false) : ofF (fneg y) x = fneg (ofF y x) := by
  have h := ofAbs_pos hy hx
  have d7 := closed4.2.2.2.2.2.2.1
  unfold ofF
  rw [isN_neg, hy, hx, if_neg (show ¬ ((false || false) = true) by decide), if_neg (show ¬ ((false || false) = true) by decide)]
  have e : ofAbs (fneg y) x = ofAbs y x := by unfold ofAbs; rw [fabs_neg]
  rw [e]
  generalize ofAbs y x = b at h
  have hb : b < 9218868437227405312 := by omega
  rw [signed_wd2 hb hy, signed_wd2 hb (by rw [isN_neg]; exact hy), sgn_neg hl hy, wd_neg (by omega)]
end Go.Proofs.Ytcfkhhnkboealaa
