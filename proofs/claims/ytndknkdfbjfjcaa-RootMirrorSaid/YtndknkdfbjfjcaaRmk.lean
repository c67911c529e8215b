/- Complex roots: sides and mirror images. Plain. -/
import Derived.Test.YtndknkdfbjfjcaaRmj
namespace Go.Proofs.Ytndknkdfbjfjcaa
set_option linter.unusedVariables false
set_option linter.unusedSimpArgs false
set_option maxRecDepth 100000
theorem copy_wd {a g : Nat} (h : a ≤ 9218868437227405312) : copyF a g = wd (sgn g) a := by
  unfold copyF
  rw [p_rung' h]
  have e : (a + if sgn g then 9223372036854775808 else 0) = wd (sgn g) a := by
    unfold wd; cases sgn g <;> simp <;> omega
  rw [e, nrm_of_not (wd_notN h)]
theorem fin_notInf {f : Nat} (h : fin f = true) : flt 9218868437227405311 f = false := by
  have hr := fin_rung h
  have hm := mval_le_iff.2 (show rung f ≤ 9218868437227405311 by omega)
  rw [flt_eq, fin_notN h, sval_max]
  rcases sval_cases f with ⟨_, e⟩ | ⟨_, e⟩ <;> rw [e] <;> simp <;> omega
theorem isInf1 {f : Nat} (h : fin f = true) : isInf f 1 = false := by
  unfold isInf; rw [if_neg (by decide), if_neg (by decide)]; exact fin_notInf h
theorem isInfM {f : Nat} (h : fin f = true) : isInf f (-1) = false := by
  unfold isInf; rw [if_neg (by decide), if_pos (by decide)]; exact fin_notInf (by rw [fin_neg]; exact h)
theorem infs_of {f : Nat} (hl : f < 18446744073709551616) (h : rung f = 9218868437227405312) : (f = 9218868437227405312 ∧ sgn f = false) ∨ (f = 18442240474082181120 ∧ sgn f = true) := by
  have := num_wd hl
  rw [h] at this
  cases hs : sgn f
  · left; rw [hs, wd_f0] at this; exact ⟨this, rfl⟩
  · right; rw [hs] at this; exact ⟨by rw [this]; rfl, rfl⟩
theorem fin_of {f : Nat} : fin f = decide (rung f < 9218868437227405312) := rfl
theorem rootS_same {f g h : Nat} (hg : Ok g) (hh : Ok h) (ff : fin f = true) (gf : fin g = true) (e : rung h = rung g) : rootS f h = rootS f g := by
  have hf : fin h = true := by rw [fin_of, e, ← fin_of]; exact gf
  have hgr := fin_rung gf
  unfold rootS rootK sqF
  rw [(great_max (fin_notN ff) (fin_notN gf)).1, (great_max (fin_notN ff) (fin_notN hf)).1, e]
  generalize clampN (-2 * (partE (max (rung f) (rung g)) / 2)) = n
  rw [scale_wd hg.lt gf, scale_wd hh.lt hf, e, mul_wd _ (rndE_le _ _), mul_wd _ (rndE_le _ _)]
theorem dbl_big (P m : Nat) (h : 0 < m) : P ≤ 2 * P * m := by
  calc P ≤ P * (2 * m) := Nat.le_mul_of_pos_right _ (by omega)
    _ = 2 * P * m := by rw [Nat.mul_left_comm, Nat.mul_assoc]
theorem double_pos {s : Nat} (h0 : 0 < s) (h : s ≤ 9218868437227405312) : 0 < fmul 4611686018427387904 s ∧ fmul 4611686018427387904 s ≤ 9218868437227405312 := by
  by_cases hi : s = 9218868437227405312
  · rw [hi, show fmul 4611686018427387904 9218868437227405312 = 9218868437227405312 by decide +kernel]; decide
  · rw [mul1074 (by decide) (by omega)]
    refine ⟨?_, rndQ_le _ _⟩
    apply le_rndQ_of (by decide)
    have e : mval 4611686018427387904 = 2 * 2 ^ e1 := by decide +kernel
    rw [e, show mval 1 = 1 by decide +kernel, Nat.one_mul]
    exact dbl_big _ _ (mval_pos h0)
/-- THE ROOT: not to the left, on the number's side, and mirrored. -/
theorem root_sides {f g : Nat} (hf : Ok f) (hg : Ok g) (nf : isN f = false) (ng : isN g = false) :
    ∃ a r, a ≤ 9218868437227405312 ∧ r ≤ 9218868437227405312 ∧ ∀ h, Ok h → rung h = rung g → rootX f h = a ∧ rootY f h = wd (sgn h) r := by
  have hfr := rung_le' nf
  have hgr := rung_le' ng
  have hnh : ∀ h, rung h = rung g → isN h = false := fun h e => (notN_iff h).2 (by rw [e]; exact hgr)
  have hwd : ∀ h, Ok h → rung h = rung g → h = wd (sgn h) (rung g) := fun h ho e => by have := num_wd ho.lt; rw [e] at this; exact this
  have eP : infP = 9218868437227405312 := rfl
  by_cases g1 : rung g = 9218868437227405312
  · refine ⟨9218868437227405312, 9218868437227405312, by decide, by decide, fun h ho e => ?_⟩
    have hi : isInf h 0 = true := by rw [isInf0 (hnh h e), fin_of, e, g1]; decide
    unfold rootX rootY edgeIs edgeX edgeY
    rw [hi]
    simp only [Bool.true_or, if_true]
    exact ⟨eP, by have := hwd h ho e; rw [g1] at this; exact this⟩
  · have gf : ∀ h, rung h = rung g → fin h = true := fun h e => by rw [fin_of, e]; exact decide_eq_true (by omega)
    have gi : ∀ h, rung h = rung g → isInf h 0 = false := fun h e => by rw [isInf0 (hnh h e), gf h e]; rfl
    by_cases f1 : rung f = 9218868437227405312
    · rcases infs_of hf.lt f1 with ⟨rfl, _⟩ | ⟨rfl, _⟩
      · refine ⟨9218868437227405312, 0, by decide, by decide, fun h ho e => ?_⟩
        unfold rootX rootY edgeIs edgeX edgeY
        rw [gi h e, show isInf 9218868437227405312 1 = true by decide +kernel, hnh h e]
        simp only [Bool.false_or, Bool.true_or, if_true, Bool.false_eq_true, if_false]
        exact ⟨eP, copy_wd (by decide)⟩
      · refine ⟨0, 9218868437227405312, by decide, by decide, fun h ho e => ?_⟩
        unfold rootX rootY edgeIs edgeX edgeY
        rw [gi h e, show isInf 18442240474082181120 1 = false by decide +kernel, show isInf 18442240474082181120 (-1) = true by decide +kernel, hnh h e]
        simp only [Bool.false_or, Bool.true_or, if_true, Bool.false_eq_true, if_false]
        exact ⟨trivial, copy_wd (by decide)⟩
    · have ff : fin f = true := by rw [fin_of]; exact decide_eq_true (by omega)
      by_cases h0 : max (rung f) (rung g) = 0
      · refine ⟨0, 0, by decide, by decide, fun h ho e => ?_⟩
        unfold rootX rootY edgeIs edgeX edgeY
        rw [gi h e, isInf1 ff, isInfM ff, nf, hnh h e, feq_zero nf, feq_zero (hnh h e), e, show rung f = 0 by omega, show rung g = 0 by omega]
        simp only [Bool.false_or, Bool.true_or, Bool.or_self, Bool.and_self, decide_true, if_true, Bool.false_eq_true, if_false]
        exact ⟨trivial, by have := hwd h ho e; rwa [show rung g = 0 by omega] at this⟩
      · have hE : ∀ h, rung h = rung g → edgeIs f h = false := fun h e => by
          unfold edgeIs
          rw [gi h e, isInf1 ff, isInfM ff, nf, hnh h e, feq_zero nf, feq_zero (hnh h e), e]
          simp; omega
        obtain ⟨s1, s2⟩ := rootS_pos hf hg ff (gf g rfl) (by omega)
        obtain ⟨d1, d2⟩ := double_pos s1 s2
        obtain ⟨r, hr, hq⟩ := fdiv_pos (gf g rfl) d1 d2
        cases hs : fle 0 f
        · have hgg : rung (rung g) = rung g := p_rung' hgr
          refine ⟨r, rootS f g, hr, s2, fun h ho e => ?_⟩
          unfold rootX rootY
          rw [hE h e, hs, rootS_same hg ho ff (gf g rfl) e]
          simp only [Bool.false_eq_true, if_false]
          refine ⟨?_, copy_wd s2⟩
          rw [fabs_of (hnh h e), e, hq _ hgg]
          have : sgn (rung g) = false := by have := wd_sgn (s := false) hgr; rwa [wd_f0] at this
          rw [this, wd_f0]
        · refine ⟨rootS f g, r, s2, hr, fun h ho e => ?_⟩
          unfold rootX rootY
          rw [hE h e, hs, rootS_same hg ho ff (gf g rfl) e]
          simp only [Bool.false_eq_true, if_false, if_true]
          exact ⟨trivial, hq _ e⟩
theorem root_mirror {f g : Nat} (hf : Ok f) (hg : Ok g) (nf : isN f = false) (ng : isN g = false) :
    rootX f (fneg g) = rootX f g ∧ rootY f (fneg g) = fneg (rootY f g) ∧ isN (rootX f g) = false ∧ sgn (rootX f g) = false ∧ isN (rootY f g) = false ∧ sgn (rootY f g) = sgn g := by
  obtain ⟨a, r, ha, hr, H⟩ := root_sides hf hg nf ng
  obtain ⟨a1, a2⟩ := H g hg rfl
  obtain ⟨b1, b2⟩ := H (fneg g) hg.neg (rung_neg' ng)
  rw [a1, a2, b1, b2, sgn_neg hg.lt ng, wd_neg hr]
  refine ⟨rfl, rfl, p_isN ha, ?_, wd_notN hr, wd_sgn hr⟩
  have := wd_sgn (s := false) ha; rwa [wd_f0] at this
/-- lengths: the parts may change places. -/
theorem len_turned {f g : Nat} (hf : Ok f) (hg : Ok g) : lenF (fneg g) f = lenF f g := by
  rw [len_negl hg]
  cases nf : isN f
  · cases ng : isN g
    · unfold lenF lenK
      rw [(great_max nf ng).1, (great_max ng nf).1, Nat.max_comm, Bool.or_comm (isInf g 0), nf, ng, Bool.or_self]
      unfold sqF
      rw [fadd_comm]
    · have h1 : isInf g 0 = false := by rw [hg.nan ng]; decide +kernel
      unfold lenF
      rw [h1, ng, nf]
      simp
  · cases ng : isN g
    · have h1 : isInf f 0 = false := by rw [hf.nan nf]; decide +kernel
      unfold lenF
      rw [h1, ng, nf]
      simp
    · have h1 : isInf f 0 = false := by rw [hf.nan nf]; decide +kernel
      have h2 : isInf g 0 = false := by rw [hg.nan ng]; decide +kernel
      unfold lenF
      rw [h1, h2, ng, nf]
      simp
end Go.Proofs.Ytndknkdfbjfjcaa
