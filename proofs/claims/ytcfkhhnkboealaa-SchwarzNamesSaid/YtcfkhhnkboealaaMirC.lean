/- Mirror images: what the program's complex functions answer with the imaginary part's sign turned. -/
import Derived.Test.YtcfkhhnkboealaaPow
import Derived.Test.YtcfkhhnkboealaaSym
import Derived.Test.YtcfkhhnkboealaaPosa
namespace Go.Proofs.Ytcfkhhnkboealaa
open Go.RowKit
set_option linter.unusedVariables false
set_option linter.unusedSimpArgs false
set_option maxRecDepth 100000

/-- a float's bits, of no number those of one. -/
structure Ok (f : Nat) : Prop where
  lt : f < 18446744073709551616
  nr : nrm f = f
theorem Rep.ok {x f : Nat} (h : Rep x f) : Ok f := ⟨h.flt, h.nrm⟩
theorem Ok.neg {f : Nat} (h : Ok f) : Ok (fneg f) := (Rep.self h.lt h.nr).neg.ok
theorem Ok.mul (f g : Nat) : Ok (fmul f g) := ⟨fmul_lt f g, nrm_fmul f g⟩
theorem Ok.add (f g : Nat) : Ok (fadd f g) := ⟨canon_map_lt _, nrm_fadd f g⟩
theorem Ok.sub (f g : Nat) : Ok (fsub f g) := ⟨canon_map_lt _, nrm_fsub f g⟩
theorem Ok.nn {f : Nat} (h : Ok f) : fneg (fneg f) = f := fneg_neg h.lt h.nr
theorem Ok.nan {f : Nat} (h : Ok f) (hn : isN f = true) : f = nanB := by have := h.nr; rw [nrm_of hn] at this; exact this.symm
theorem ofF_turn {y x : Nat} (hy : Ok y) : ofF (fneg y) x = fneg (ofF y x) := by
  cases h1 : isN y
  · cases h2 : isN x
    · exact of_turn hy.lt h1 h2
    · have e : ∀ z, ofF z x = nanB := fun z => by unfold ofF; rw [if_pos (by rw [h2]; simp)]
      rw [e, e, nan_neg]
  · rw [hy.nan h1, nan_neg]
    have : ofF nanB x = nanB := by unfold ofF; rw [if_pos (by rw [isN_nanB]; simp)]
    rw [this, nan_neg]
theorem feq0_neg (g : Nat) : feq (fneg g) 0 = feq g 0 := by
  cases h : isN g
  · exact feq_zero_neg h
  · rw [(flt_nan0 h 0).2.2.1, (flt_nan0 (show isN (fneg g) = true by rw [isN_neg]; exact h) 0).2.2.1]
theorem great_negr (f g : Nat) : greatF f (fneg g) = greatF f g := by unfold greatF; rw [fabs_neg]
theorem great_negl (f g : Nat) : greatF (fneg f) g = greatF f g := by unfold greatF; rw [fabs_neg]
theorem scN_neg {f : Nat} (h : Ok f) (k : Int) : scN (fneg f) k = fneg (scN f k) := scale_turn h.lt _ h.nr
theorem scale_ok {f : Nat} (h : Ok f) (n : Int) : Ok (scaleF f n) := by
  unfold scaleF
  split
  · exact h
  · split
    · exact ⟨by
        unfold copyF
        have := rung_lt 0
        unfold Proofs.Ytcfkhhnkboealaa.nrm
        split
        · decide +kernel
        · have e : rung 0 = 0 := by decide +kernel
          rw [e]; split <;> decide, by unfold copyF; exact nrm_nrm _⟩
    · split
      · split <;> exact ⟨by decide +kernel, by decide +kernel⟩
      · split <;> exact Ok.mul _ _
theorem scN_ok {f : Nat} (h : Ok f) (k : Int) : Ok (scN f k) := scale_ok h _
theorem sq_negr {f g : Nat} (hg : Ok g) : sqF f (fneg g) = sqF f g := by unfold sqF; rw [fmul_neg2 _ _ hg.lt hg.lt]
theorem sq_negl {f g : Nat} (hf : Ok f) : sqF (fneg f) g = sqF f g := by unfold sqF; rw [fmul_neg2 _ _ hf.lt hf.lt]
theorem len_negr {f g : Nat} (hg : Ok g) : lenF f (fneg g) = lenF f g := by
  have e1 : lenK f (fneg g) = lenK f g := by unfold lenK; rw [great_negr]
  rw [lenF.eq_1, lenF.eq_1 f g, isInf_neg, isN_neg, great_negr, e1, scN_neg hg, sq_negr (scN_ok hg _)]
theorem len_negl {f g : Nat} (hf : Ok f) : lenF (fneg f) g = lenF f g := by
  have e1 : lenK (fneg f) g = lenK f g := by unfold lenK; rw [great_negl]
  rw [lenF.eq_1, lenF.eq_1 f g, isInf_neg, isN_neg, great_negl, e1, scN_neg hf, sq_negl (scN_ok hf _)]
theorem clogX_conj {f g : Nat} (hg : Ok g) : clogX f (fneg g) = clogX f g := by unfold clogX; rw [len_negr hg]
theorem clogY_conj {f g : Nat} (hg : Ok g) : clogY f (fneg g) = fneg (clogY f g) := ofF_turn hg
theorem cexpX_conj {f g : Nat} (hg : Ok g) : cexpX f (fneg g) = cexpX f g := by
  rw [cexpX.eq_1, cexpX.eq_1 f g, feq0_neg, (turn_turn hg.lt).2]
theorem turnS_lt {g : Nat} (hg : Ok g) : turnS g < 18446744073709551616 := by
  have h := (turn_turn hg.neg.lt).1
  rw [hg.nn] at h
  unfold turnS
  split
  · exact sineF_lt _
  · split
    · exact canon_map_lt _
    · split
      · exact (Rep.self (sineF_lt _) (sineF_nrm _)).neg.flt
      · exact (Rep.self (f := cosF (quarterX g)) (canon_map_lt _) (nrm_fsub _ _)).neg.flt
theorem cexpY_conj {f g : Nat} (hg : Ok g) : cexpY f (fneg g) = fneg (cexpY f g) := by
  rw [cexpY.eq_1, cexpY.eq_1 f g, feq0_neg, (turn_turn hg.lt).1]
  cases feq g 0
  · simp only [Bool.false_eq_true, if_false]
    rw [fmul_negr _ (turnS_lt hg)]
  · simp only [if_true]
theorem ofF_lt {y x : Nat} (hy : Ok y) : ofF y x < 18446744073709551616 ∧ nrm (ofF y x) = ofF y x := by
  unfold ofF signed
  split
  · decide +kernel
  · split
    · decide +kernel
    · rename_i hn
      have hn' : isN (ofAbs y x) = false := by simpa using hn
      have hr := (notN_iff _).1 hn'
      split
      · exact ⟨by have := rung_lt (ofAbs y x); omega, nrm_of_not (by rw [Nat.add_comm]; exact num_neg hr)⟩
      · exact ⟨by have := rung_lt (ofAbs y x); omega, nrm_of_not (num_pos hr)⟩
theorem clogY_ok {f g : Nat} (hg : Ok g) : Ok (clogY f g) := ⟨(ofF_lt hg).1, (ofF_lt hg).2⟩
theorem creal_conj {f g : Nat} (hg : Ok g) (p : Nat) (hp : feq p 0 = false) : crealX f (fneg g) p = crealX f g p ∧ crealY f (fneg g) p = fneg (crealY f g p) := by
  have hY := clogY_ok (f := f) hg
  rw [crealX.eq_1, crealX.eq_1 f g, crealY.eq_1, crealY.eq_1 f g, hp, clogX_conj hg, clogY_conj hg, fmul_negl _ hY.lt]
  simp only [Bool.false_eq_true, if_false]
  exact ⟨cexpX_conj (Ok.mul _ _), cexpY_conj (Ok.mul _ _)⟩
theorem cosh_even {f : Nat} (hf : Ok f) : coshF (fneg f) = coshF f := by unfold coshF; rw [hf.nn, fadd_comm]
theorem lessE_lt {e f : Nat} (h : e = lessE f) (hf : f < 18446744073709551616) : e < 18446744073709551616 := by
  rw [h]; unfold lessE
  split
  · decide +kernel
  · split
    · decide +kernel
    · split
      · exact fmul_lt _ _
      · exact canon_map_lt _
theorem sinhH_lt {f : Nat} (hf : f < 18446744073709551616) : sinhH (lessE f) < 18446744073709551616 := by
  have := lessE_lt rfl hf
  unfold sinhH
  split
  · exact this
  · exact fmul_lt _ _
theorem sinh_odd {f : Nat} (hf : Ok f) : sinhF (fneg f) = fneg (sinhF f) := by
  cases hn : isN f
  · unfold sinhF
    rw [isN_neg, hn, fabs_neg]
    simp only [Bool.false_eq_true, if_false]
    refine signed_turn hf.lt hn (sinhH_lt ?_)
    rw [fabs_of hn]; have := rung_lt f; omega
  · unfold sinhF
    rw [isN_neg, hn]
    exact nan_neg.symm
theorem sinh_ok (f : Nat) : Ok (sinhF f) := by
  unfold sinhF signed
  split
  · exact ⟨by decide +kernel, by decide +kernel⟩
  · split
    · exact ⟨by decide +kernel, by decide +kernel⟩
    · rename_i hn
      have hr := (notN_iff _).1 (by simpa using hn)
      split
      · exact ⟨by have := rung_lt (sinhH (lessE (fabs f))); omega, nrm_of_not (by rw [Nat.add_comm]; exact num_neg hr)⟩
      · exact ⟨by have := rung_lt (sinhH (lessE (fabs f))); omega, nrm_of_not (num_pos hr)⟩
/-! powers by numbers. -/
theorem mulX_conj {f g h k : Nat} (hg : Ok g) (hk : Ok k) : mulX f (fneg g) h (fneg k) = mulX f g h k := by unfold mulX; rw [fmul_neg2 _ _ hg.lt hk.lt]
theorem mulY_conj {f g h k : Nat} (hg : Ok g) (hk : Ok k) : Opp (mulY f g h k) (mulY f (fneg g) h (fneg k)) := by
  unfold mulY
  rw [fmul_negr _ hk.lt, fmul_negl _ hg.lt]
  exact Opp.add (Opp.neg (fmul_lt _ _)) (Opp.neg (fmul_lt _ _))
theorem like_self (f : Nat) : likeF f f = true := by
  unfold likeF
  rw [feq_self]
  cases isN f <;> rfl
/-- exponentials of numbers whose imaginary parts are one's opposite, but for noughts. -/
theorem cexp_opp {f g k : Nat} (hg : Ok g) (hk : Ok k) (h : Opp g k) : likeF (cexpX f k) (cexpX f g) = true ∧ likeF (cexpY f k) (fneg (cexpY f g)) = true := by
  have key : k = fneg g → likeF (cexpX f k) (cexpX f g) = true ∧ likeF (cexpY f k) (fneg (cexpY f g)) = true := by
    intro e
    rw [e, cexpX_conj hg, cexpY_conj hg]
    exact ⟨like_self _, like_self _⟩
  rcases h with ⟨h1, h2⟩ | ⟨h1, h2, h3, h4⟩
  · exact key (by rw [hk.nan h2, hg.nan h1, nan_neg])
  · rcases h4 with h4 | h4
    · have z1 : feq g 0 = true := by rw [feq_zero h1, h4]; rfl
      have z2 : feq k 0 = true := by rw [feq_zero h2, ← h3, h4]; rfl
      rw [cexpX.eq_1, cexpX.eq_1 f g, cexpY.eq_1, cexpY.eq_1 f g, z1, z2]
      simp only [if_true]
      refine ⟨like_self _, ?_⟩
      have e1 : sval k = 0 := (sval_zero_iff k).2 (by omega)
      have e2 : sval (fneg g) = 0 := (sval_zero_iff _).2 (by rw [rung_neg' h1]; exact h4)
      unfold likeF
      rw [feq_eq, h2, isN_neg, h1, e1, e2]
      rfl
    · apply key
      rw [fneg_wd hg.lt h1, num_wd hk.lt, h4, h3]
theorem cpow_conj {f g h k : Nat} (hg : Ok g) (hk : Ok k) : likeF (cpowX f (fneg g) h (fneg k)) (cpowX f g h k) = true ∧ likeF (cpowY f (fneg g) h (fneg k)) (fneg (cpowY f g h k)) = true := by
  have hY := clogY_ok (f := f) hg
  rw [cpowX.eq_1, cpowX.eq_1 f g, cpowY.eq_1, cpowY.eq_1 f g, feq0_neg, clogX_conj hg, clogY_conj hg]
  cases feq h 0 && feq k 0
  · simp only [Bool.false_eq_true, if_false]
    rw [mulX_conj hk hY]
    exact cexp_opp (Ok.add _ _) (Ok.add _ _) (mulY_conj hk hY)
  · simp only [if_true]
    decide +kernel
/-! turned by i. -/
theorem len_ok (f g : Nat) : Ok (lenF f g) := by
  unfold lenF
  split
  · exact ⟨by decide +kernel, by decide +kernel⟩
  · split
    · exact ⟨by decide +kernel, by decide +kernel⟩
    · split
      · exact ⟨by decide +kernel, by decide +kernel⟩
      · exact scale_ok ⟨fsqrt_lt _, nrm_fsqrt _⟩ _
theorem log_ok {x : Nat} (h : Ok x) : Ok (logF x) := by
  unfold logF
  split
  · exact h
  · split
    · exact ⟨by decide +kernel, by decide +kernel⟩
    · split
      · exact ⟨by decide +kernel, by decide +kernel⟩
      · exact Ok.add _ _
theorem creal_one {f g : Nat} (hg : Ok g) : crealX f g 4607182418800017408 = cexpX (clogX f g) (clogY f g) ∧ crealY f g 4607182418800017408 = cexpY (clogX f g) (clogY f g) := by
  have hY := clogY_ok (f := f) hg
  have hX : Ok (clogX f g) := log_ok (len_ok f g)
  rw [crealX.eq_1, crealY.eq_1, show feq 4607182418800017408 0 = false by decide +kernel, fmul_one hX.lt hX.nr, fmul_one hY.lt hY.nr]
  simp only [Bool.false_eq_true, if_false]
  exact ⟨trivial, trivial⟩
end Go.Proofs.Ytcfkhhnkboealaa
