/- The document's exponentials, half sums and half differences are the program's. -/
import Derived.Test.YtndknkdfbjfjcaaDoorElem
import Derived.Test.YtndknkdfbjfjcaaDoorNeib
import Derived.Test.YtndknkdfbjfjcaaDoorWde
import Derived.Test.YtndknkdfbjfjcaaDoorWhole
namespace Go.Proofs.YtndknkdfbjfjcaaDoor
open Go.RowKit
set_option linter.unusedVariables false
set_option linter.unusedSimpArgs false
set_option maxRecDepth 100000
set_option maxHeartbeats 4000000
section
variable {x y f g : Nat} (hx : Rep x f) (hy : Rep y g) (w : World)
include hx
theorem refRest_c : Calls Tryd.prog 66 #[.float .f64 x] w (RetFF (expN f) (expR f) w) := by
  go_enter Tryd.func66, Tryd.ntmps66
  go_wp2_with (first | (go_at_call 31; (with_reducible refine (refWhole_c (hx.mul Rep.cturned) _).mono ?_); rintro e w' ⟨r, n, rfl, hr1, rfl⟩))
  go_ret2
  exact RetFF.mk _ hr1 ((hx.sub (hr1.mul Rep.cH)).sub (hr1.mul Rep.cL))
theorem refRising_c (m : Nat) (hm : m ≤ 13) (j : Int) (hj : j = 14 - (m : Int)) : Calls Tryd.prog 67 #[.float .f64 x, .int .i64 j] w (RetF (riseSeq f m) w) := by
  subst hj
  go_enter Tryd.func67, Tryd.ntmps67
  go_wp2
  go_loopw [5, 6] (fun t i wr => ∃ k d v : Nat, i = .int .i64 (13 - (k : Int)) ∧ k ≤ m ∧ t = .float .f64 v ∧ Rep v (riseSeq f k) ∧ wr = w.drewN d) (fun _ i _ => (intOf i).toNat)
  case atStart => exact ⟨0, 0, _, rfl, by omega, rfl, Rep.cone, rfl⟩
  case round =>
    obtain ⟨k, d, v, rfl, hk, rfl, hv, rfl⟩ := hrel
    by_cases hlt : k < m
    · go_wp2
      go_roundw
      case rel =>
        refine ⟨k + 1, _, _, by congr 1; omega, by omega, rfl, ?_, rfl⟩
        exact Rep.cone.add ((hx.mul hv).quo (ofInt_rep _))
      case measure => simp [intOf]; omega
    · have hk2 : k = m := by omega
      subst hk2
      go_wp2
      go_ret
      exact RetF.mk _ hv
theorem refExp_c (hT : TabAt w) (htab : 1 < w.heap.size) : Calls Tryd.prog 13 #[.float .f64 x] w (RetFG (expF f) w) := by
  have q1 := hx.none'
  have q2 := hx.gt' Rep.cgreat
  have q3 := hx.lt' Rep.csmall
  have HT := Lib.hid hT
  clear hT
  cases h1 : isN f
  · cases h2 : flt 4649454594685214392 f
    · cases h3 : flt f 13873137573428325253
      · have HE : RowKit.Hid (expF f = scaleF (riseSeq (expR f) 13) (clampN (wInt (expN f)))) := Lib.hid (by unfold expF; rw [h1, h2, h3, if_neg (by simp), if_neg (by simp), if_neg (by simp)])
        have HB := Lib.hid ((((exp_bd hx.flt h1 h2 h3).mul (Bd.const' (c := 4609176140021203710) (k := 1) (by decide) (by decide +kernel) (by decide +kernel) (by decide)) (by decide)).whole (by decide)).1)
        rw [h1] at q1
        rw [h2] at q2
        rw [h3] at q3
        obtain ⟨m, hm⟩ : ∃ m, m = expN f := ⟨_, rfl⟩
        have HM := Lib.hid hm
        have hmB : Bd m (10 + 1) := by rw [hm]; exact HB.out
        have hmR : Rep m m := Rep.self hmB.lt (nrm_of_not hmB.notN)
        have HMB := Lib.hid hmB
        clear h1 h2 h3 hm hmB
        have wb := wInt_bd HMB.out
        have wb2 : -2048 ≤ wInt m ∧ wInt m ≤ 2048 := by
          have : (2 : Nat) ^ (10 + 1) = 2048 := by decide
          omega
        have k4 : ∀ w : World, (convert 23 3 (.float .f64 m)).run Tryd.prog w = .ok (.int .i64 (wInt m)) w := fun w =>
          run_convert_float_int w 23 3 .f64 .i64 _ _ (by kernel_rfl) (by kernel_rfl) (toIntVal_i64 (toInt_wInt HMB.out.fin) (by omega) (by omega))
        clear wb
        go_enter Tryd.func13, Tryd.ntmps13
        go_wp2_with (first
          | (go_at_call 66; (with_reducible refine (refRest_c hx _).mono ?_); rintro e w' ⟨r, s, n, rfl, hr1, hs, rfl⟩; obtain rfl : m = r := ((hr1.eq_of (by have := HMB.out.notN; rw [HM.out] at this; exact this)).trans HM.out.symm).symm)
          | (go_at_call 67; (with_reducible refine (refRising_c hs _ 13 (by decide) _ (by decide)).mono ?_); rintro e w' ⟨r2, n, rfl, hr2, rfl⟩)
          | (go_at_call 29; (with_reducible refine (refScale_c _ hr2 (tab_drew _ HT.out) (sz_drew _ htab)).mono ?_); rintro e w' ⟨r3, rfl, hr3, hg3⟩))
        go_ret
        exact ⟨_, rfl, by rw [HE.out, ← HM.out]; exact hr3, gr_trans (gr_drewN _ (Grown.refl w)) hg3⟩
      · have HE : RowKit.Hid (expF f = 0) := Lib.hid (by unfold expF; rw [h1, h2, h3, if_neg (by simp), if_neg (by simp), if_pos rfl])
        rw [h1] at q1
        rw [h2] at q2
        rw [h3] at q3
        go_enter Tryd.func13, Tryd.ntmps13
        go_wp2
        go_ret
        exact ⟨_, rfl, by rw [HE.out]; exact Rep.c0, Grown.refl w⟩
    · have HE : RowKit.Hid (expF f = infP) := Lib.hid (by unfold expF; rw [h1, h2, if_neg (by simp), if_pos rfl])
      rw [h1] at q1
      rw [h2] at q2
      go_enter Tryd.func13, Tryd.ntmps13
      go_wp2_with (first | (go_at_call 62; (refine (inf_c _ _).mono ?_; rw [if_pos (by decide)]; rintro e w' ⟨r, n, rfl, hr, rfl⟩)))
      go_ret
      exact ⟨_, rfl, by rw [HE.out]; exact hr, gr_drewN _ (Grown.refl w)⟩
  · have HE : RowKit.Hid (expF f = nanB) := Lib.hid (by unfold expF; rw [h1, if_pos rfl])
    have HF : RowKit.Hid (f = nanB) := Lib.hid (hx.nan_of h1)
    rw [h1] at q1
    go_enter Tryd.func13, Tryd.ntmps13
    go_wp2
    go_ret
    exact ⟨_, rfl, by rw [HE.out, ← HF.out]; exact hx, Grown.refl w⟩
theorem refELess_c (hT : TabAt w) (htab : 1 < w.heap.size) : Calls Tryd.prog 15 #[.float .f64 x] w (RetFG (lessE f) w) := by
  have q1 := hx.none'
  have q2 := hx.gt' Rep.cgreat
  have HT := Lib.hid hT
  clear hT
  cases h1 : isN f
  · cases h2 : flt 4649454594685214392 f
    · cases h3 : feq (expN f) 0
      · have HE : RowKit.Hid (lessE f = fsub (expF f) 4607182418800017408) := Lib.hid (by unfold lessE; rw [h1, h2, h3]; rfl)
        have H3 := Lib.hid h3
        rw [h1] at q1
        rw [h2] at q2
        clear h3
        go_enter Tryd.func15, Tryd.ntmps15
        go_wp2_with (first | (go_at_call 31; (with_reducible refine (refWhole_c (hx.mul Rep.cturned) _).mono ?_); rintro e w' ⟨r, n, rfl, hr1, rfl⟩; have q3 := hr1.eq' Rep.c0; rw [show feq (wholeF (fmul f 4609176140021203710)) 0 = false from H3.out] at q3) | (go_at_call 13; (with_reducible refine (refExp_c hx _ (tab_drew _ HT.out) (sz_drew _ htab)).mono ?_); rintro e w' ⟨r2, rfl, hr2, hg2⟩))
        go_ret
        exact ⟨_, rfl, by rw [HE.out]; exact hr2.sub Rep.cone, gr_drewN _ (gr_trans (gr_drewN _ (Grown.refl w)) hg2)⟩
      · have HE : RowKit.Hid (lessE f = fmul f (riseSeq f 12)) := Lib.hid (by unfold lessE; rw [h1, h2, h3]; rfl)
        have H3 := Lib.hid h3
        rw [h1] at q1
        rw [h2] at q2
        clear h3
        go_enter Tryd.func15, Tryd.ntmps15
        go_wp2_with (first | (go_at_call 31; (with_reducible refine (refWhole_c (hx.mul Rep.cturned) _).mono ?_); rintro e w' ⟨r, n, rfl, hr1, rfl⟩; have q3 := hr1.eq' Rep.c0; rw [show feq (wholeF (fmul f 4609176140021203710)) 0 = true from H3.out] at q3) | (go_at_call 67; (with_reducible refine (refRising_c hx _ 12 (by decide) _ (by decide)).mono ?_); rintro e w' ⟨r2, n, rfl, hr2, rfl⟩))
        go_ret
        exact ⟨_, rfl, by rw [HE.out]; exact hx.mul hr2, gr_drewN _ (Grown.refl w)⟩
    · have HE : RowKit.Hid (lessE f = infP) := Lib.hid (by unfold lessE; rw [h1, h2]; rfl)
      rw [h1] at q1
      rw [h2] at q2
      go_enter Tryd.func15, Tryd.ntmps15
      go_wp2_with (first | (go_at_call 62; (refine (inf_c _ _).mono ?_; rw [if_pos (by decide)]; rintro e w' ⟨r, n, rfl, hr, rfl⟩)))
      go_ret
      exact ⟨_, rfl, by rw [HE.out]; exact hr, gr_drewN _ (Grown.refl w)⟩
  · have HE : RowKit.Hid (lessE f = f) := Lib.hid (by unfold lessE; rw [h1, hx.nan_of h1]; rfl)
    rw [h1] at q1
    go_enter Tryd.func15, Tryd.ntmps15
    go_wp2
    go_ret
    exact ⟨_, rfl, by rw [HE.out]; exact hx, Grown.refl w⟩
theorem refCosh_c (hT : TabAt w) (htab : 1 < w.heap.size) : Calls Tryd.prog 18 #[.float .f64 x] w (RetFG (coshF f) w) := by
  have HT := Lib.hid hT
  clear hT
  go_enter Tryd.func18, Tryd.ntmps18
  go_wp2_with (first | (go_at_call 13; (with_reducible refine (refExp_c hx _ HT.out htab).mono ?_); rintro e w' ⟨r, rfl, hr, hg1⟩; have HT1 := Lib.hid (gr_tab hg1 HT.out htab); have ht1 := Nat.lt_of_lt_of_le htab hg1.2.2; have HG1 := Lib.hid hg1; clear hg1) | (go_at_call 13; (with_reducible refine (refExp_c hx.neg _ HT1.out ht1).mono ?_); rintro e w' ⟨r2, rfl, hr2, hg2⟩; have HG2 := Lib.hid (gr_trans HG1.out hg2); clear hg2))
  go_ret
  exact ⟨_, rfl, (hr.add hr2).mul Rep.half, gr_drewN _ HG2.out⟩
theorem refSinh_c (hT : TabAt w) (htab : 1 < w.heap.size) : Calls Tryd.prog 20 #[.float .f64 x] w (RetFG (sinhF f) w) := by
  have q1 := hx.none'
  have HT := Lib.hid hT
  clear hT
  cases h1 : isN f
  · have hmin : minus f = sgn f := by unfold minus; rw [h1]; rfl
    have HM := Lib.hid hmin
    have hA : RowKit.Hid (∀ s : Bool, sgn f = s → fabs f = if s then fneg f else f) := Lib.hid (fun s hs => by
      subst hs
      rw [fabs_of h1, fneg_of hx.flt h1]
      cases hs : sgn f
      · exact (sgn_false hs hx.flt).symm
      · simp)
    cases h2 : isInf (lessE (fabs f)) 1
    · have HE : RowKit.Hid (sinhF f = signed (fmul (fadd (lessE (fabs f)) (fdiv (lessE (fabs f)) (fadd (lessE (fabs f)) 4607182418800017408))) 4602678819172646912) f) := Lib.hid (by rw [sinhF_eq, h1, h2]; rfl)
      have H2 : RowKit.Hid (flt 9218868437227405311 (lessE (fabs f)) = false) := Lib.hid (by unfold isInf at h2; rwa [if_neg (by decide), if_neg (by decide)] at h2)
      rw [h1] at q1
      clear h2 hmin
      cases hs : sgn f
      · have HA : RowKit.Hid (Rep x (fabs f)) := Lib.hid (by rw [hA.out false hs, if_neg (by decide)]; exact hx)
        have HS := Lib.hid hs
        clear hs
        go_enter Tryd.func20, Tryd.ntmps20
        go_wp2_with (first | (go_at_call 71; (with_reducible refine (refMinus_c hx _).mono ?_); rw [HM.out, HS.out]; rintro e w' ⟨n0, rfl, rfl⟩) | (go_at_call 15; (with_reducible refine (refELess_c HA.out _ (tab_drew _ HT.out) (sz_drew _ htab)).mono ?_); rintro e w' ⟨r2, rfl, hr2, hg2⟩; have HG2 := Lib.hid (gr_trans (gr_drewN _ (Grown.refl w)) hg2); clear hg2; have q5 := hr2.gt' Rep.cmax; rw [H2.out] at q5) | (go_at_call 72; (with_reducible refine (refSigned_c ((hr2.add (hr2.quo (hr2.add Rep.cone))).mul Rep.half) hx _).mono ?_); rintro e w' ⟨r3, n4, rfl, hr3, rfl⟩))
        go_ret
        exact ⟨_, rfl, by rw [HE.out]; exact hr3, gr_drewN _ HG2.out⟩
      · have HA : RowKit.Hid (Rep (x ^^^ 9223372036854775808) (fabs f)) := Lib.hid (by rw [hA.out true hs, if_pos rfl]; exact hx.neg)
        have HS := Lib.hid hs
        clear hs
        go_enter Tryd.func20, Tryd.ntmps20
        go_wp2_with (first | (go_at_call 71; (with_reducible refine (refMinus_c hx _).mono ?_); rw [HM.out, HS.out]; rintro e w' ⟨n0, rfl, rfl⟩) | (go_at_call 15; (with_reducible refine (refELess_c HA.out _ (tab_drew _ HT.out) (sz_drew _ htab)).mono ?_); rintro e w' ⟨r2, rfl, hr2, hg2⟩; have HG2 := Lib.hid (gr_trans (gr_drewN _ (Grown.refl w)) hg2); clear hg2; have q5 := hr2.gt' Rep.cmax; rw [H2.out] at q5) | (go_at_call 72; (with_reducible refine (refSigned_c ((hr2.add (hr2.quo (hr2.add Rep.cone))).mul Rep.half) hx _).mono ?_); rintro e w' ⟨r3, n4, rfl, hr3, rfl⟩))
        go_ret
        exact ⟨_, rfl, by rw [HE.out]; exact hr3, gr_drewN _ HG2.out⟩
    · have HE : RowKit.Hid (sinhF f = signed (lessE (fabs f)) f) := Lib.hid (by rw [sinhF_eq, h1, h2]; rfl)
      have H2 : RowKit.Hid (flt 9218868437227405311 (lessE (fabs f)) = true) := Lib.hid (by unfold isInf at h2; rwa [if_neg (by decide), if_neg (by decide)] at h2)
      rw [h1] at q1
      clear h2 hmin
      cases hs : sgn f
      · have HA : RowKit.Hid (Rep x (fabs f)) := Lib.hid (by rw [hA.out false hs, if_neg (by decide)]; exact hx)
        have HS := Lib.hid hs
        clear hs
        go_enter Tryd.func20, Tryd.ntmps20
        go_wp2_with (first | (go_at_call 71; (with_reducible refine (refMinus_c hx _).mono ?_); rw [HM.out, HS.out]; rintro e w' ⟨n0, rfl, rfl⟩) | (go_at_call 15; (with_reducible refine (refELess_c HA.out _ (tab_drew _ HT.out) (sz_drew _ htab)).mono ?_); rintro e w' ⟨r2, rfl, hr2, hg2⟩; have HG2 := Lib.hid (gr_trans (gr_drewN _ (Grown.refl w)) hg2); clear hg2; have q5 := hr2.gt' Rep.cmax; rw [H2.out] at q5) | (go_at_call 72; (with_reducible refine (refSigned_c hr2 hx _).mono ?_); rintro e w' ⟨r3, n4, rfl, hr3, rfl⟩))
        go_ret
        exact ⟨_, rfl, by rw [HE.out]; exact hr3, gr_drewN _ HG2.out⟩
      · have HA : RowKit.Hid (Rep (x ^^^ 9223372036854775808) (fabs f)) := Lib.hid (by rw [hA.out true hs, if_pos rfl]; exact hx.neg)
        have HS := Lib.hid hs
        clear hs
        go_enter Tryd.func20, Tryd.ntmps20
        go_wp2_with (first | (go_at_call 71; (with_reducible refine (refMinus_c hx _).mono ?_); rw [HM.out, HS.out]; rintro e w' ⟨n0, rfl, rfl⟩) | (go_at_call 15; (with_reducible refine (refELess_c HA.out _ (tab_drew _ HT.out) (sz_drew _ htab)).mono ?_); rintro e w' ⟨r2, rfl, hr2, hg2⟩; have HG2 := Lib.hid (gr_trans (gr_drewN _ (Grown.refl w)) hg2); clear hg2; have q5 := hr2.gt' Rep.cmax; rw [H2.out] at q5) | (go_at_call 72; (with_reducible refine (refSigned_c hr2 hx _).mono ?_); rintro e w' ⟨r3, n4, rfl, hr3, rfl⟩))
        go_ret
        exact ⟨_, rfl, by rw [HE.out]; exact hr3, gr_drewN _ HG2.out⟩
  · have HE : RowKit.Hid (sinhF f = f) := Lib.hid (by unfold sinhF; rw [h1, hx.nan_of h1]; rfl)
    rw [h1] at q1
    go_enter Tryd.func20, Tryd.ntmps20
    go_wp2
    go_ret
    exact ⟨_, rfl, by rw [HE.out]; exact hx, Grown.refl w⟩
end
end Go.Proofs.YtndknkdfbjfjcaaDoor
