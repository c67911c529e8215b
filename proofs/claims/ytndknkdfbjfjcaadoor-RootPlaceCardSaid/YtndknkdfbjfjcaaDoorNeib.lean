/- The document's neighbours of floats are the program's. -/
import Derived.Test.YtndknkdfbjfjcaaDoorStra
import Derived.Test.YtndknkdfbjfjcaaDoorPara
namespace Go.Proofs.YtndknkdfbjfjcaaDoor
open Go.RowKit
set_option linter.unusedVariables false
set_option linter.unusedSimpArgs false
set_option maxRecDepth 100000
set_option maxHeartbeats 4000000
theorem sz_drew {w : World} {k : Nat} (n : Nat) (h : k < w.heap.size) : k < (w.drewN n).heap.size := h
theorem fneg_fneg {f : Nat} (hl : f < 18446744073709551616) (hn : nrm f = f) : fneg (fneg f) = f := by
  cases h : isN f
  · rw [fneg_wd hl h, wd_neg ((notN_iff f).1 h), Bool.not_not, wd_self hl]
  · rw [nrm_of h] at hn; subst hn; decide +kernel
theorem nrm_up {f : Nat} (hl : f < 18446744073709551616) (hn : nrm f = f) : nrm (upF f) = upF f ∧ nrm (downF f) = downF f ∧ downF f < 18446744073709551616 := by
  cases h : isN f
  · exact ⟨nrm_of_not (up_ok hl h).1, nrm_of_not (down_ok hl h).1, (down_ok hl h).2⟩
  · rw [nrm_of h] at hn; subst hn; decide +kernel
section
variable {x f : Nat} (hx : Rep x f) (w : World)
include hx
theorem refUp_c : Calls Tryd.prog 25 #[.float .f64 x] w (RetF (upF f) w) := by
  have h1 := hx.gt' Rep.cmax
  have h2 := hx.eq' Rep.c0
  have h3 := hx.gt' Rep.c0
  cases hN : isN f
  · have HN := Lib.hid hN
    have e := hx.eq_of hN
    subst e
    have hl := hx.lt
    have HU := Lib.hid (up_eq hl hN)
    have HK := Lib.hid (up_ok hl hN)
    have e1 : flt 9218868437227405311 x = decide (x = 9218868437227405312) := by
      have := infP_iff hl hN
      unfold isInf at this
      rwa [if_neg (by decide), if_neg (by decide)] at this
    have e2 := feq_zero hN
    have e3 : flt 0 x = (decide (rung x ≠ 0) && !sgn x) := by
      rw [flt_eq, hN, show isN 0 = false by decide +kernel, sval_zero]
      rcases sval_cases x with ⟨s, v⟩ | ⟨s, v⟩
      · rw [s, v, Bool.eq_iff_iff]; simp
        constructor
        · intro h h0; rw [h0, mval_zero] at h; omega
        · intro h; exact mval_pos (by omega)
      · rw [s, v, Bool.eq_iff_iff]; simp
    rw [e1] at h1
    rw [e2] at h2
    rw [e3] at h3
    by_cases c1 : x = 9218868437227405312
    · subst c1
      have HV : RowKit.Hid (upF 9218868437227405312 = 9218868437227405312) := Lib.hid (by decide +kernel)
      rw [decide_eq_true rfl] at h1
      clear e1 e2 e3 hN
      go_enter Tryd.func25, Tryd.ntmps25
      go_wp2_with (first | (go_at_call 64; (with_reducible refine (none_c hx _).mono ?_); rw [HN.out]; rintro e w' ⟨n, rfl, rfl⟩))
      go_ret
      exact RetF.mk _ (by rw [HV.out]; exact hx)
    · rw [decide_eq_false c1] at h1
      have C1 := Lib.hid c1
      by_cases c2 : rung x = 0
      · have C2 := Lib.hid c2
        rw [decide_eq_true c2] at h2
        clear e1 e2 e3 hN c1 c2
        go_enter Tryd.func25, Tryd.ntmps25
        go_wp2_with (first | (go_at_call 64; (with_reducible refine (none_c hx _).mono ?_); rw [HN.out]; rintro e w' ⟨n, rfl, rfl⟩))
        go_ret
        exact RetF.mk _ (by rw [HU.out, if_neg C1.out, if_pos C2.out]; exact Rep.c1)
      · have C2 := Lib.hid c2
        rw [decide_eq_false c2] at h2
        rw [decide_eq_true c2] at h3
        cases c3 : sgn x
        · rw [c3] at h3
          have C3 := Lib.hid c3
          have hb : (x : Int) + 1 ≤ 18446744073709551615 := by have := sgn_false c3 hl; have := (notN_iff x).1 hN; omega
          clear e1 e2 e3 hN c1 c2 c3
          go_enter Tryd.func25, Tryd.ntmps25
          go_wp2_with (first | (go_at_call 64; (with_reducible refine (none_c hx _).mono ?_); rw [HN.out]; rintro e w' ⟨n, rfl, rfl⟩))
          go_ret
          have e := HU.out
          rw [if_neg C1.out, if_neg C2.out, C3.out, if_neg (by decide)] at e
          have hk := HK.out
          rw [e] at hk
          exact RetF.mk _ (by rw [e]; exact Rep.self hk.2 (nrm_of_not hk.1))
        · rw [c3] at h3
          have C3 := Lib.hid c3
          have hb : 1 ≤ (x : Int) := by have := sgn_true c3 hl; omega
          clear e1 e2 e3 hN c1 c2 c3
          go_enter Tryd.func25, Tryd.ntmps25
          go_wp2_with (first | (go_at_call 64; (with_reducible refine (none_c hx _).mono ?_); rw [HN.out]; rintro e w' ⟨n, rfl, rfl⟩))
          go_ret
          have e := HU.out
          rw [if_neg C1.out, if_neg C2.out, C3.out, if_pos rfl] at e
          have hk := HK.out
          rw [e] at hk
          exact RetF.mk _ (by rw [e]; exact Rep.self hk.2 (nrm_of_not hk.1))
  · have HN := Lib.hid hN
    have hf : f = nanB := hx.nan_of hN
    have HV : RowKit.Hid (upF f = f) := Lib.hid (by rw [hf]; decide +kernel)
    clear hN
    go_enter Tryd.func25, Tryd.ntmps25
    go_wp2_with (first | (go_at_call 64; (with_reducible refine (none_c hx _).mono ?_); rw [HN.out]; rintro e w' ⟨n, rfl, rfl⟩))
    go_ret
    exact RetF.mk _ (by rw [HV.out]; exact hx)
theorem refDown_c : Calls Tryd.prog 27 #[.float .f64 x] w (RetF (downF f) w) := by
  have HV : RowKit.Hid (fneg (upF (fneg f)) = downF f) := Lib.hid (by
    cases h : isN f
    · rw [up_turn hx.flt h, fneg_fneg (nrm_up hx.flt hx.nrm).2.2 (nrm_up hx.flt hx.nrm).2.1]
    · rw [hx.nan_of h]; decide +kernel)
  go_enter Tryd.func27, Tryd.ntmps27
  go_wp2_with (first | (go_at_call 25; (with_reducible refine (refUp_c hx.neg _).mono ?_); rintro e w' ⟨r, n, rfl, hr, rfl⟩))
  go_ret
  exact RetF.mk _ (by rw [← HV.out]; exact hr.neg)
end
end Go.Proofs.YtndknkdfbjfjcaaDoor
