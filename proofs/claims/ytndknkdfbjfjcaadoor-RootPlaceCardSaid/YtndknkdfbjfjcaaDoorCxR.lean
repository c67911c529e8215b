/- The document's complex numbers: lengths, places, units, logarithms, exponentials, powers, sines are the program's. -/
import Derived.Test.YtndknkdfbjfjcaaDoorElemR
import Derived.Test.YtndknkdfbjfjcaaDoorMirC
import Derived.Test.YtndknkdfbjfjcaaDoorPlace
import Derived.Test.YtndknkdfbjfjcaaDoorAng8
import Derived.Test.YtndknkdfbjfjcaaDoorPow2
namespace Go.Proofs.YtndknkdfbjfjcaaDoor
open Go.RowKit
set_option linter.unusedVariables false
set_option linter.unusedSimpArgs false
set_option maxRecDepth 100000
set_option maxHeartbeats 4000000
theorem inf_ref {f : Nat} (hl : f < 18446744073709551616) : (flt 9218868437227405311 f || flt f 18442240474082181119) = isInf f 0 := by
  cases h : isN f
  · have e := fin_ref f hl
    rw [h] at e
    rw [isInf0 h, ← e]
    simp
  · rw [flt_eq, flt_eq, h]
    unfold isInf
    rw [if_pos rfl, flt_eq, isN_abs, h]
    simp
def lesserF (f g : Nat) : Nat := if flt (fabs f) (fabs g) then fabs f else fabs g
theorem fabs_ok {f : Nat} (h : Ok f) : Ok (fabs f) := by
  cases hn : isN f
  · refine ⟨by rw [fabs_of hn]; have := rung_lt f; omega, nrm_of_not (by rw [isN_abs, hn])⟩
  · rw [h.nan hn]; exact ⟨by decide +kernel, by decide +kernel⟩
theorem fabs_cases {f : Nat} (h : Ok f) : fabs f = f ∨ fabs f = fneg f := by
  cases hn : isN f
  · rw [fabs_of hn, fneg_of h.lt hn]
    cases hs : sgn f
    · left; exact (sgn_false hs h.lt).symm
    · right; simp
  · left; rw [h.nan hn]; decide +kernel
theorem sq_abs {f : Nat} (h : Ok f) (k : Int) : fmul (scN (fabs f) k) (scN (fabs f) k) = fmul (scN f k) (scN f k) := by
  rcases fabs_cases h with e | e
  · rw [e]
  · rw [e, scN_neg h, fmul_neg2 _ _ (scN_ok h k).lt (scN_ok h k).lt]
/-- the greater part first, and without signs: the same square. -/
theorem sq_great {f g : Nat} (hf : Ok f) (hg : Ok g) (k : Int) : sqF (scN (greatF f g) k) (scN (lesserF f g) k) = sqF (scN f k) (scN g k) := by
  unfold sqF greatF lesserF
  cases flt (fabs f) (fabs g)
  · simp only [Bool.false_eq_true, if_false]
    rw [sq_abs hf, sq_abs hg]
  · simp only [if_true]
    rw [sq_abs hf, sq_abs hg, fadd_comm]
section
variable {x y z t f g h k : Nat} (hx : Rep x f) (hy : Rep y g) (hz : Rep z h) (ht : Rep t k) (w : World)
include hx
theorem endless6_c : Calls Tryd.prog 103 #[.float .f64 x] w (RetB (isInf f 0) w) := by
  have q1 := hx.gt' Rep.cmax
  have q2 := hx.lt' Rep.cmin
  have HE := Lib.hid (inf_ref hx.flt)
  cases h1 : flt 9218868437227405311 f <;> cases h2 : flt f 18442240474082181119
  all_goals
    rw [h1] at q1
    rw [h2] at q2
    have H1 := Lib.hid h1
    have H2 := Lib.hid h2
    clear h1 h2
    go_enter Tryd.func103, Tryd.ntmps103
    go_wp2
    go_ret
    exact RetB.mk0 (by rw [← HE.out, H1.out, H2.out]; rfl)
theorem none6_c : Calls Tryd.prog 104 #[.float .f64 x] w (RetB (isN f) w) := by
  have q1 := hx.none'
  go_enter Tryd.func104, Tryd.ntmps104
  go_wp2
  go_ret
  exact RetB.mk0 rfl
include hy
theorem together_c : Calls Tryd.prog 100 #[.float .f64 x, .float .f64 y] w (RetF (fsqrt (sqF f g)) w) := by
  go_enter Tryd.func100, Tryd.ntmps100
  go_wp2_with (first | (go_at_call 98; (with_reducible refine (sqrt_c ((hx.mul hx).add (hy.mul hy)) _).mono ?_); rintro e w' ⟨r4, n, rfl, hr4, rfl⟩))
  go_ret
  exact RetF.mk _ hr4
theorem refSquare_c : Calls Tryd.prog 53 #[.complex .f64 x y] w (RetF (sqF f g) w) := by
  go_enter Tryd.func53, Tryd.ntmps53
  go_wp2
  go_ret
  exact RetF.mk _ ((hx.mul hx).add (hy.mul hy))
theorem refGreater_c : Calls Tryd.prog 99 #[.complex .f64 x y] w (RetFF (greatF f g) (lesserF f g) w) := by
  have HL := Lib.hid (greatF.eq_1 f g)
  have HM := Lib.hid (lesserF.eq_1 f g)
  cases h1 : flt (fabs f) (fabs g)
  all_goals
    have H1 := Lib.hid h1
    clear h1
    go_enter Tryd.func99, Tryd.ntmps99
    go_wp2_with (first | (go_at_call 68; (with_reducible refine (abs_c hx _).mono ?_); rintro e w' ⟨r1, n, rfl, hr1, rfl⟩) | (go_at_call 68; (with_reducible refine (abs_c hy _).mono ?_); rintro e w' ⟨r2, n, rfl, hr2, rfl⟩; have q3 := hr2.gt' hr1; rw [H1.out] at q3))
    go_ret2
    exact RetFF.mk _ (by rw [HL.out, H1.out]; first | exact hr1 | exact hr2) (by rw [HM.out, H1.out]; first | exact hr1 | exact hr2)
theorem refLength_c (hT : TabAt w) (htab : 1 < w.heap.size) : Calls Tryd.prog 51 #[.complex .f64 x y] w (RetFG (lenF f g) w) := by
  have hb := partE_bd (greatF f g)
  have HK : RowKit.Hid (partE (greatF f g) = lenK f g) := Lib.hid rfl
  have HL := Lib.hid (lenF.eq_1 f g)
  have HQ := Lib.hid (sq_great hx.ok hy.ok (lenK f g))
  have HT := Lib.hid hT
  clear hT
  cases h1 : isInf f 0
  · cases h2 : isInf g 0
    · cases h3 : isN f
      · cases h4 : isN g
        · cases h5 : feq (greatF f g) 0
          · have HE : RowKit.Hid (lenF f g = scaleF (fsqrt (sqF (scN f (lenK f g)) (scN g (lenK f g)))) (clampN (lenK f g))) := Lib.hid (by rw [HL.out, h1, h2, h3, h4, h5]; simp only [Bool.or_self, Bool.false_eq_true, if_false])
            have H1 := Lib.hid h1
            have H2 := Lib.hid h2
            have H3 := Lib.hid h3
            have H4 := Lib.hid h4
            have H5 := Lib.hid h5
            clear h1 h2 h3 h4 h5
            go_enter Tryd.func51, Tryd.ntmps51
            go_wp2_with (first | (go_at_call 103; (with_reducible refine (endless6_c hx _).mono ?_); rw [H1.out]; rintro e w' ⟨n1, rfl, rfl⟩) | (go_at_call 103; (with_reducible refine (endless6_c hy _).mono ?_); rw [H2.out]; rintro e w' ⟨n2, rfl, rfl⟩) | (go_at_call 104; (with_reducible refine (none6_c hx _).mono ?_); rw [H3.out]; rintro e w' ⟨n3, rfl, rfl⟩) | (go_at_call 104; (with_reducible refine (none6_c hy _).mono ?_); rw [H4.out]; rintro e w' ⟨n4, rfl, rfl⟩) | (go_at_call 99; (with_reducible refine (refGreater_c hx hy _).mono ?_); rintro e w' ⟨r, r0, n5, rfl, hr, hr0, rfl⟩; have q := hr.eq' Rep.c0; rw [H5.out] at q) | (go_at_call 23; (with_reducible refine (refParts_c hr _).mono ?_); rintro e w' ⟨r2, n6, rfl, hr2, rfl⟩) | (go_at_call 29; (with_reducible refine (refScale_c _ hr (tab_drew _ HT.out) (sz_drew _ htab)).mono ?_); rintro e w' ⟨r3, rfl, hr3, hg3⟩; have HT3 := Lib.hid (gr_tab hg3 (tab_drew _ HT.out) (sz_drew _ htab)); have ht3 := Nat.lt_of_lt_of_le (sz_drew _ htab) hg3.2.2; have HG3 := Lib.hid (gr_trans (gr_drewN _ (Grown.refl w)) hg3); clear hg3) | (go_at_call 29; (with_reducible refine (refScale_c _ hr0 HT3.out ht3).mono ?_); rintro e w' ⟨r4, rfl, hr4, hg4⟩; have HT4 := Lib.hid (gr_tab hg4 HT3.out ht3); have ht4 := Nat.lt_of_lt_of_le ht3 hg4.2.2; have HG4 := Lib.hid (gr_trans HG3.out hg4); clear hg4) | (go_at_call 100; (with_reducible refine (together_c hr3 hr4 _).mono ?_); rintro e w' ⟨r5, n7, rfl, hr5, rfl⟩) | (go_at_call 29; (with_reducible refine (refScale_c _ hr5 (tab_drew _ HT4.out) (sz_drew _ ht4)).mono ?_); rintro e w' ⟨r6, rfl, hr6, hg6⟩; have HG6 := Lib.hid (gr_trans (gr_drewN _ HG4.out) hg6); clear hg6))
            go_ret
            refine ⟨_, rfl, ?_, HG6.out⟩
            rw [HE.out, ← HQ.out]
            exact hr6
          · have HE : RowKit.Hid (lenF f g = 0) := Lib.hid (by rw [HL.out, h1, h2, h3, h4, h5]; simp only [Bool.or_self, Bool.false_eq_true, if_false, if_true])
            have H1 := Lib.hid h1
            have H2 := Lib.hid h2
            have H3 := Lib.hid h3
            have H4 := Lib.hid h4
            have H5 := Lib.hid h5
            clear h1 h2 h3 h4 h5
            go_enter Tryd.func51, Tryd.ntmps51
            go_wp2_with (first | (go_at_call 103; (with_reducible refine (endless6_c hx _).mono ?_); rw [H1.out]; rintro e w' ⟨n1, rfl, rfl⟩) | (go_at_call 103; (with_reducible refine (endless6_c hy _).mono ?_); rw [H2.out]; rintro e w' ⟨n2, rfl, rfl⟩) | (go_at_call 104; (with_reducible refine (none6_c hx _).mono ?_); rw [H3.out]; rintro e w' ⟨n3, rfl, rfl⟩) | (go_at_call 104; (with_reducible refine (none6_c hy _).mono ?_); rw [H4.out]; rintro e w' ⟨n4, rfl, rfl⟩) | (go_at_call 99; (with_reducible refine (refGreater_c hx hy _).mono ?_); rintro e w' ⟨r, r0, n5, rfl, hr, hr0, rfl⟩; have q := hr.eq' Rep.c0; rw [H5.out] at q))
            go_ret
            exact ⟨_, rfl, by rw [HE.out]; exact Rep.c0, gr_drewN _ (Grown.refl w)⟩
        · have HE : RowKit.Hid (lenF f g = nanB) := Lib.hid (by rw [HL.out, h1, h2, h3, h4]; simp only [Bool.or_self, Bool.or_true, Bool.false_eq_true, if_false, if_true])
          have H1 := Lib.hid h1
          have H2 := Lib.hid h2
          have H3 := Lib.hid h3
          have H4 := Lib.hid h4
          clear h1 h2 h3 h4
          go_enter Tryd.func51, Tryd.ntmps51
          go_wp2_with (first | (go_at_call 103; (with_reducible refine (endless6_c hx _).mono ?_); rw [H1.out]; rintro e w' ⟨n1, rfl, rfl⟩) | (go_at_call 103; (with_reducible refine (endless6_c hy _).mono ?_); rw [H2.out]; rintro e w' ⟨n2, rfl, rfl⟩) | (go_at_call 104; (with_reducible refine (none6_c hx _).mono ?_); rw [H3.out]; rintro e w' ⟨n3, rfl, rfl⟩) | (go_at_call 104; (with_reducible refine (none6_c hy _).mono ?_); rw [H4.out]; rintro e w' ⟨n4, rfl, rfl⟩) | (go_at_call 102; (with_reducible refine (nan_c _).mono ?_); rintro e w' ⟨r, n, rfl, hr, rfl⟩))
          go_ret
          exact ⟨_, rfl, by rw [HE.out]; exact hr, gr_drewN _ (Grown.refl w)⟩
      · have HE : RowKit.Hid (lenF f g = nanB) := Lib.hid (by rw [HL.out, h1, h2, h3]; simp only [Bool.or_self, Bool.true_or, Bool.false_eq_true, if_false, if_true])
        have H1 := Lib.hid h1
        have H2 := Lib.hid h2
        have H3 := Lib.hid h3
        clear h1 h2 h3
        go_enter Tryd.func51, Tryd.ntmps51
        go_wp2_with (first | (go_at_call 103; (with_reducible refine (endless6_c hx _).mono ?_); rw [H1.out]; rintro e w' ⟨n1, rfl, rfl⟩) | (go_at_call 103; (with_reducible refine (endless6_c hy _).mono ?_); rw [H2.out]; rintro e w' ⟨n2, rfl, rfl⟩) | (go_at_call 104; (with_reducible refine (none6_c hx _).mono ?_); rw [H3.out]; rintro e w' ⟨n3, rfl, rfl⟩) | (go_at_call 102; (with_reducible refine (nan_c _).mono ?_); rintro e w' ⟨r, n, rfl, hr, rfl⟩))
        go_ret
        exact ⟨_, rfl, by rw [HE.out]; exact hr, gr_drewN _ (Grown.refl w)⟩
    · have HE : RowKit.Hid (lenF f g = infP) := Lib.hid (by rw [HL.out, h1, h2]; simp only [Bool.or_true, if_true])
      have H1 := Lib.hid h1
      have H2 := Lib.hid h2
      clear h1 h2
      go_enter Tryd.func51, Tryd.ntmps51
      go_wp2_with (first | (go_at_call 103; (with_reducible refine (endless6_c hx _).mono ?_); rw [H1.out]; rintro e w' ⟨n1, rfl, rfl⟩) | (go_at_call 103; (with_reducible refine (endless6_c hy _).mono ?_); rw [H2.out]; rintro e w' ⟨n2, rfl, rfl⟩) | (go_at_call 62; (with_reducible refine (inf_c _ _).mono ?_); rw [if_pos (by decide)]; rintro e w' ⟨r, n, rfl, hr, rfl⟩))
      go_ret
      exact ⟨_, rfl, by rw [HE.out]; exact hr, gr_drewN _ (Grown.refl w)⟩
  · have HE : RowKit.Hid (lenF f g = infP) := Lib.hid (by rw [HL.out, h1]; simp only [Bool.true_or, if_true])
    have H1 := Lib.hid h1
    clear h1
    go_enter Tryd.func51, Tryd.ntmps51
    go_wp2_with (first | (go_at_call 103; (with_reducible refine (endless6_c hx _).mono ?_); rw [H1.out]; rintro e w' ⟨n1, rfl, rfl⟩) | (go_at_call 62; (with_reducible refine (inf_c _ _).mono ?_); rw [if_pos (by decide)]; rintro e w' ⟨r, n, rfl, hr, rfl⟩))
    go_ret
    exact ⟨_, rfl, by rw [HE.out]; exact hr, gr_drewN _ (Grown.refl w)⟩
theorem refMk_c : Calls Tryd.prog 84 #[.float .f64 x, .float .f64 y] w (RetC f g w) := by
  go_enter Tryd.func84, Tryd.ntmps84
  go_wp2
  go_ret
  exact RetC.mk0 hx hy
theorem refCFin_c : Calls Tryd.prog 91 #[.complex .f64 x y] w (RetB (fin f && fin g) w) := by
  cases h1 : fin f
  all_goals
    have H1 := Lib.hid h1
    clear h1
    go_enter Tryd.func91, Tryd.ntmps91
    go_wp2_with (first | (go_at_call 113; (with_reducible refine (refFinite_c hx _).mono ?_); rw [H1.out]; rintro e w' ⟨n, rfl, rfl⟩) | (go_at_call 113; (with_reducible refine (refFinite_c hy _).mono ?_); rintro e w' ⟨n, rfl, rfl⟩))
    go_ret
    exact RetB.mk _ (by simp)
theorem refClog_c (hT : TabAt w) (htab : 1 < w.heap.size) : Calls Tryd.prog 90 #[.complex .f64 x y] w (RetCG (clogX f g) (clogY f g) w) := by
  have HT := Lib.hid hT
  have HO : RowKit.Hid (ofR g f = clogY f g) := Lib.hid (by unfold clogY; exact ofR_eq g f)
  clear hT
  go_enter Tryd.func90, Tryd.ntmps90
  go_wp2_with (first | (go_at_call 51; (with_reducible refine (refLength_c hx hy _ HT.out htab).mono ?_); rintro e w' ⟨r, rfl, hr, hg⟩; have HG := Lib.hid hg; clear hg) | (go_at_call 132; (with_reducible refine (refLog_c hr _).mono ?_); rintro e w' ⟨r2, n, rfl, hr2, rfl⟩) | (go_at_call 95; (with_reducible refine (refOf_c hx hy _).mono ?_); rintro e w' ⟨r3, n3, rfl, hr3, rfl⟩) | (go_at_call 84; (with_reducible refine (refMk_c hr2 hr3 _).mono ?_); rintro e w' ⟨r4, r5, n4, rfl, hr4, hr5, rfl⟩))
  go_ret
  exact ⟨_, _, rfl, hr4, by rw [← HO.out]; exact hr5, gr_drewN _ HG.out⟩
end
end Go.Proofs.YtndknkdfbjfjcaaDoor
