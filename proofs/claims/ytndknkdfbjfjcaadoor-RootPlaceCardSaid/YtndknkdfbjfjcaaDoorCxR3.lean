/- The document's square root is the program's. -/
import Derived.Test.YtndknkdfbjfjcaaDoorCxR2
namespace Go.Proofs.YtndknkdfbjfjcaaDoor
open Go.RowKit
set_option linter.unusedVariables false
set_option linter.unusedSimpArgs false
set_option maxRecDepth 100000
set_option maxHeartbeats 4000000
theorem inf1_of {f : Nat} (hl : f < 18446744073709551616) (h : isInf f 1 = true) : f = 9218868437227405312 := by
  cases hn : isN f
  · rw [infP_iff hl hn] at h; simpa using h
  · unfold isInf at h
    rw [if_neg (by decide), if_neg (by decide), flt_eq, hn] at h
    simp at h
theorem infm_of {f : Nat} (hl : f < 18446744073709551616) (h : isInf f (-1) = true) : f = 18442240474082181120 := by
  cases hn : isN f
  · rw [infN_iff hl hn] at h; simpa using h
  · unfold isInf at h
    rw [if_neg (by decide), if_pos (by decide), flt_eq, isN_neg, hn] at h
    simp at h
theorem inf_none {f : Nat} (hl : f < 18446744073709551616) (h1 : isInf f 1 = false) (h2 : isInf f (-1) = false) : isInf f 0 = false := by
  cases hn : isN f
  · rw [infP_iff hl hn] at h1
    rw [infN_iff hl hn] at h2
    rw [isInf0 hn]
    cases hf : fin f
    · have hi := inf_of hn hf
      have := num_wd hl
      rw [hi] at this
      unfold wd at this
      cases hs : sgn f
      · rw [hs, if_neg (by decide)] at this; simp at h1; exact absurd this h1
      · rw [hs, if_pos rfl] at this; simp at h2; exact absurd this h2
    · rfl
  · unfold isInf; rw [if_pos rfl, flt_eq, isN_abs, hn]; simp
theorem abs_scale_sq {g : Nat} (hg : Ok g) (n : Int) (a : Nat) : sqF a (scaleF (fabs g) n) = sqF a (scaleF g n) := by
  unfold sqF
  rcases fabs_cases hg with e | e
  · rw [e]
  · rw [e, scale_turn hg.lt n hg.nr, fmul_neg2 _ _ (scale_ok hg n).lt (scale_ok hg n).lt]
theorem fle_flt (f : Nat) : fle 0 f = (flt 0 f || feq f 0) := by
  rw [fle_eq, flt_eq, feq_eq, show isN 0 = false by decide +kernel, sval_zero]
  cases isN f
  · rw [Bool.eq_iff_iff]; simp; omega
  · simp
theorem halved_c (k : Int) (h1 : -2000 ≤ k) (h2 : k ≤ 2000) (w : World) : Calls Tryd.prog 107 #[.int .i64 k] w (RetI .i64 (k / 2) w) := by
  by_cases h : k < 0
  · have e : (1 - k).tdiv 2 = (1 - k) / 2 := Int.tdiv_eq_ediv_of_nonneg (by omega)
    go_enter Tryd.func107, Tryd.ntmps107
    go_wp2
    go_ret
    exact RetI.mk0 (by first | omega | (rw [e]; omega))
  · have e : k.tdiv 2 = k / 2 := Int.tdiv_eq_ediv_of_nonneg (by omega)
    go_enter Tryd.func107, Tryd.ntmps107
    go_wp2
    go_ret
    exact RetI.mk0 (by first | rfl | omega | (rw [e]))
section
variable {x y z t f g h k : Nat} (hx : Rep x f) (hy : Rep y g) (hz : Rep z h) (ht : Rep t k) (w : World)
include hx hy
theorem refRoot_edge (h1 : edgeIs f g = true) : Calls Tryd.prog 56 #[.complex .f64 x y] w (RetCG (edgeX f g) (edgeY f g) w) := by
  have q1 := hx.eq' Rep.c0
  have q2 := hy.eq' Rep.c0
  have q3 := hx.gt' Rep.c0
  have EX := Lib.hid (edgeX.eq_1 f g)
  have EY := Lib.hid (edgeY.eq_1 f g)
  have EI := Lib.hid ((edgeIs.eq_1 f g).symm.trans h1)
  have NF : RowKit.Hid (isN f = true → f = nanB) := Lib.hid hx.nan_of
  have NG : RowKit.Hid (isN g = true → g = nanB) := Lib.hid hy.nan_of
  have I1 : RowKit.Hid (isInf f 1 = true → isInf f 0 = true ∧ flt 0 f = true ∧ isN f = false) := Lib.hid (fun h => by rw [inf1_of hx.flt h]; decide +kernel)
  have I2 : RowKit.Hid (isInf f (-1) = true → isInf f 0 = true ∧ flt 0 f = false ∧ isN f = false) := Lib.hid (fun h => by rw [infm_of hx.flt h]; decide +kernel)
  have I3 : RowKit.Hid (isInf f 1 = false → isInf f (-1) = false → isInf f 0 = false) := Lib.hid (inf_none hx.flt)
  clear h1
  cases h1 : isInf g 0
  · cases h2 : isInf f 1
    · cases h3 : isInf f (-1)
      · have HI := Lib.hid (I3.out h2 h3)
        cases h4 : isN f
        · cases h5 : isN g
          · have e := EI.out
            rw [h1, h2, h3, h4, h5] at e
            simp only [Bool.false_or, Bool.and_eq_true] at e
            rw [e.1] at q1
            rw [e.2] at q2
            have H6 := Lib.hid e.1
            have H7 := Lib.hid e.2
            have H1 := Lib.hid h1
            have H2 := Lib.hid h2
            have H3 := Lib.hid h3
            have H4 := Lib.hid h4
            have H5 := Lib.hid h5
            clear h1 h2 h3 h4 h5 e
            go_enter Tryd.func56, Tryd.ntmps56
            go_wp2_with (first | (go_at_call 62; (with_reducible refine (inf_c _ _).mono ?_); rw [if_pos (by decide)]; rintro e w' ⟨r, n0, rfl, hr, rfl⟩) | (go_at_call 103; (with_reducible refine (endless6_c hy _).mono ?_); rw [H1.out]; rintro e w' ⟨n1, rfl, rfl⟩) | (go_at_call 103; (with_reducible refine (endless6_c hx _).mono ?_); rw [HI.out]; rintro e w' ⟨n2, rfl, rfl⟩) | (go_at_call 104; (with_reducible refine (none6_c hx _).mono ?_); rw [H4.out]; rintro e w' ⟨n4, rfl, rfl⟩) | (go_at_call 104; (with_reducible refine (none6_c hy _).mono ?_); rw [H5.out]; rintro e w' ⟨n5, rfl, rfl⟩))
            go_ret
            refine ⟨_, _, rfl, ?_, ?_, gr_drewN _ (Grown.refl w)⟩
            · rw [EX.out, H1.out, H2.out, H3.out, H4.out, H5.out]; exact Rep.c0
            · rw [EY.out, H1.out, H2.out, H3.out, H4.out, H5.out, H6.out, H7.out]; exact hy
          · have H1 := Lib.hid h1
            have H2 := Lib.hid h2
            have H3 := Lib.hid h3
            have H4 := Lib.hid h4
            have H5 := Lib.hid h5
            clear h1 h2 h3 h4 h5
            go_enter Tryd.func56, Tryd.ntmps56
            go_wp2_with (first | (go_at_call 62; (with_reducible refine (inf_c _ _).mono ?_); rw [if_pos (by decide)]; rintro e w' ⟨r, n0, rfl, hr, rfl⟩) | (go_at_call 103; (with_reducible refine (endless6_c hy _).mono ?_); rw [H1.out]; rintro e w' ⟨n1, rfl, rfl⟩) | (go_at_call 103; (with_reducible refine (endless6_c hx _).mono ?_); rw [HI.out]; rintro e w' ⟨n2, rfl, rfl⟩) | (go_at_call 104; (with_reducible refine (none6_c hx _).mono ?_); rw [H4.out]; rintro e w' ⟨n4, rfl, rfl⟩) | (go_at_call 104; (with_reducible refine (none6_c hy _).mono ?_); rw [H5.out]; rintro e w' ⟨n5, rfl, rfl⟩) | (go_at_call 102; (with_reducible refine (nan_c _).mono ?_); rintro e w' ⟨r2, n6, rfl, hr2, rfl⟩))
            go_ret
            refine ⟨_, _, rfl, ?_, ?_, gr_drewN _ (Grown.refl w)⟩
            · rw [EX.out, H1.out, H2.out, H3.out, H4.out, H5.out]; assumption
            · rw [EY.out, H1.out, H2.out, H3.out, H4.out, H5.out]; assumption
        · have H1 := Lib.hid h1
          have H2 := Lib.hid h2
          have H3 := Lib.hid h3
          have H4 := Lib.hid h4
          clear h1 h2 h3 h4
          go_enter Tryd.func56, Tryd.ntmps56
          go_wp2_with (first | (go_at_call 62; (with_reducible refine (inf_c _ _).mono ?_); rw [if_pos (by decide)]; rintro e w' ⟨r, n0, rfl, hr, rfl⟩) | (go_at_call 103; (with_reducible refine (endless6_c hy _).mono ?_); rw [H1.out]; rintro e w' ⟨n1, rfl, rfl⟩) | (go_at_call 103; (with_reducible refine (endless6_c hx _).mono ?_); rw [HI.out]; rintro e w' ⟨n2, rfl, rfl⟩) | (go_at_call 104; (with_reducible refine (none6_c hx _).mono ?_); rw [H4.out]; rintro e w' ⟨n4, rfl, rfl⟩) | (go_at_call 102; (with_reducible refine (nan_c _).mono ?_); rintro e w' ⟨r2, n6, rfl, hr2, rfl⟩))
          go_ret
          refine ⟨_, _, rfl, ?_, ?_, gr_drewN _ (Grown.refl w)⟩
          · rw [EX.out, H1.out, H2.out, H3.out, H4.out]; assumption
          · rw [EY.out, H1.out, H2.out, H3.out, H4.out]; assumption
      · have HI := Lib.hid (I2.out h3).1
        have hpos := (I2.out h3).2.1
        rw [hpos] at q3
        clear hpos
        cases h5 : isN g
        · have H1 := Lib.hid h1
          have H2 := Lib.hid h2
          have H3 := Lib.hid h3
          have H5 := Lib.hid h5
          clear h1 h2 h3 h5
          go_enter Tryd.func56, Tryd.ntmps56
          go_wp2_with (first | (go_at_call 62; (with_reducible refine (inf_c _ _).mono ?_); rw [if_pos (by decide)]; rintro e w' ⟨r, n0, rfl, hr, rfl⟩) | (go_at_call 103; (with_reducible refine (endless6_c hy _).mono ?_); rw [H1.out]; rintro e w' ⟨n1, rfl, rfl⟩) | (go_at_call 103; (with_reducible refine (endless6_c hx _).mono ?_); rw [HI.out]; rintro e w' ⟨n2, rfl, rfl⟩) | (go_at_call 104; (with_reducible refine (none6_c hy _).mono ?_); rw [H5.out]; rintro e w' ⟨n5, rfl, rfl⟩) | (go_at_call 93; (with_reducible refine (copysign_any _ hr hy H5.out).mono ?_); rintro e w' ⟨r2, n6, rfl, hr2, rfl⟩))
          go_ret
          refine ⟨_, _, rfl, ?_, ?_, gr_drewN _ (Grown.refl w)⟩
          · rw [EX.out, H1.out, H2.out, H3.out, H5.out]; exact Rep.c0
          · rw [EY.out, H1.out, H2.out, H3.out, H5.out]; assumption
        · have H1 := Lib.hid h1
          have H2 := Lib.hid h2
          have H3 := Lib.hid h3
          have H5 := Lib.hid h5
          have HN := Lib.hid (NG.out h5)
          clear h1 h2 h3 h5
          go_enter Tryd.func56, Tryd.ntmps56
          go_wp2_with (first | (go_at_call 62; (with_reducible refine (inf_c _ _).mono ?_); rw [if_pos (by decide)]; rintro e w' ⟨r, n0, rfl, hr, rfl⟩) | (go_at_call 103; (with_reducible refine (endless6_c hy _).mono ?_); rw [H1.out]; rintro e w' ⟨n1, rfl, rfl⟩) | (go_at_call 103; (with_reducible refine (endless6_c hx _).mono ?_); rw [HI.out]; rintro e w' ⟨n2, rfl, rfl⟩) | (go_at_call 104; (with_reducible refine (none6_c hy _).mono ?_); rw [H5.out]; rintro e w' ⟨n5, rfl, rfl⟩))
          go_ret
          refine ⟨_, _, rfl, ?_, ?_, gr_drewN _ (Grown.refl w)⟩
          · rw [EX.out, H1.out, H2.out, H3.out, H5.out]; show Rep y nanB; rw [← HN.out]; exact hy
          · rw [EY.out, H1.out, H2.out, H3.out, H5.out]; assumption
    · have HI := Lib.hid (I1.out h2).1
      have hpos := (I1.out h2).2.1
      rw [hpos] at q3
      clear hpos
      cases h5 : isN g
      · have H1 := Lib.hid h1
        have H2 := Lib.hid h2
        have H5 := Lib.hid h5
        clear h1 h2 h5
        go_enter Tryd.func56, Tryd.ntmps56
        go_wp2_with (first | (go_at_call 62; (with_reducible refine (inf_c _ _).mono ?_); rw [if_pos (by decide)]; rintro e w' ⟨r, n0, rfl, hr, rfl⟩) | (go_at_call 103; (with_reducible refine (endless6_c hy _).mono ?_); rw [H1.out]; rintro e w' ⟨n1, rfl, rfl⟩) | (go_at_call 103; (with_reducible refine (endless6_c hx _).mono ?_); rw [HI.out]; rintro e w' ⟨n2, rfl, rfl⟩) | (go_at_call 104; (with_reducible refine (none6_c hy _).mono ?_); rw [H5.out]; rintro e w' ⟨n5, rfl, rfl⟩) | (go_at_call 93; (with_reducible refine (copysign_any _ Rep.c0 hy H5.out).mono ?_); rintro e w' ⟨r2, n6, rfl, hr2, rfl⟩))
        go_ret
        refine ⟨_, _, rfl, ?_, ?_, gr_drewN _ (Grown.refl w)⟩
        · rw [EX.out, H1.out, H2.out]; assumption
        · rw [EY.out, H1.out, H2.out, H5.out]; assumption
      · have H1 := Lib.hid h1
        have H2 := Lib.hid h2
        have H5 := Lib.hid h5
        have HN := Lib.hid (NG.out h5)
        clear h1 h2 h5
        go_enter Tryd.func56, Tryd.ntmps56
        go_wp2_with (first | (go_at_call 62; (with_reducible refine (inf_c _ _).mono ?_); rw [if_pos (by decide)]; rintro e w' ⟨r, n0, rfl, hr, rfl⟩) | (go_at_call 103; (with_reducible refine (endless6_c hy _).mono ?_); rw [H1.out]; rintro e w' ⟨n1, rfl, rfl⟩) | (go_at_call 103; (with_reducible refine (endless6_c hx _).mono ?_); rw [HI.out]; rintro e w' ⟨n2, rfl, rfl⟩) | (go_at_call 104; (with_reducible refine (none6_c hy _).mono ?_); rw [H5.out]; rintro e w' ⟨n5, rfl, rfl⟩))
        go_ret
        refine ⟨_, _, rfl, ?_, ?_, gr_drewN _ (Grown.refl w)⟩
        · rw [EX.out, H1.out, H2.out]; assumption
        · rw [EY.out, H1.out, H2.out, H5.out]; show Rep y nanB; rw [← HN.out]; exact hy
  · have H1 := Lib.hid h1
    clear h1
    go_enter Tryd.func56, Tryd.ntmps56
    go_wp2_with (first | (go_at_call 62; (with_reducible refine (inf_c _ _).mono ?_); rw [if_pos (by decide)]; rintro e w' ⟨r, n0, rfl, hr, rfl⟩) | (go_at_call 103; (with_reducible refine (endless6_c hy _).mono ?_); rw [H1.out]; rintro e w' ⟨n1, rfl, rfl⟩))
    go_ret
    refine ⟨_, _, rfl, ?_, ?_, gr_drewN _ (Grown.refl w)⟩
    · rw [EX.out, H1.out]; assumption
    · rw [EY.out, H1.out]; assumption
theorem refRoot_c (hT : TabAt w) (htab : 1 < w.heap.size) : Calls Tryd.prog 56 #[.complex .f64 x y] w (RetCG (rootX f g) (rootY f g) w) := by
  have RX := Lib.hid (rootX.eq_1 f g)
  have RY := Lib.hid (rootY.eq_1 f g)
  have RS := Lib.hid (rootS.eq_1 f g)
  cases h1 : edgeIs f g
  · have q7 := hx.gt' Rep.c0
    have HFE : RowKit.Hid (fle 0 f = (flt 0 f || feq f 0)) := Lib.hid (fle_flt f)
    have hb := partE_bd (greatF f g)
    obtain ⟨K, hK⟩ : ∃ K, partE (greatF f g) = K := ⟨_, rfl⟩
    rw [hK] at hb
    have HK := Lib.hid hK
    have e := h1
    unfold edgeIs at e
    simp only [Bool.or_eq_false_iff] at e
    obtain ⟨e1, e2, e3, e4, e5, e6⟩ := e
    have E1 := Lib.hid e1
    have E2 := Lib.hid (inf_none hx.flt e2 e3)
    have E4 := Lib.hid e4
    have E5 := Lib.hid e5
    have HRK : RowKit.Hid (rootK f g = K / 2) := Lib.hid (by unfold rootK; rw [hK])
    have HQ := Lib.hid (abs_scale_sq hy.ok (clampN (-2 * (K / 2))) (scaleF (fabs f) (clampN (-2 * (K / 2)))))
    have H1 := Lib.hid h1
    have hw : IntKind.i64.wrap (-2 * (K / 2)) = -2 * (K / 2) := IntWalk.i64_in _ ⟨by omega, by omega⟩
    have HT := Lib.hid hT
    have q5 := hx.eq' Rep.c0
    have q6 := hy.eq' Rep.c0
    have e7 : ∃ a b : Bool, feq f 0 = a ∧ feq g 0 = b ∧ (a && b) = false := ⟨_, _, rfl, rfl, e6⟩
    obtain ⟨a, b, e8, e9, e10⟩ := e7
    rw [e8] at q5
    rw [e9] at q6
    have HA := Lib.hid e8
    clear hT e1 e2 e3 e4 e5 e6 e8 e9 hK h1
    cases h2 : fle 0 f
    · have H2 := Lib.hid h2
      cases h3 : flt 0 f <;> cases a <;> cases b
      all_goals first
        | (exfalso; revert e10; decide)
        | (exfalso; have k := HFE.out; rw [h2, h3, HA.out] at k; revert k; decide)
        | skip
      all_goals
         rw [h3] at q7
         clear h2 h3 e10
         go_enter Tryd.func56, Tryd.ntmps56
         go_wp2_with (first
           | (go_at_call 62; (with_reducible refine (inf_c _ _).mono ?_); rw [if_pos (by decide)]; rintro e w' ⟨r, n0, rfl, hr, rfl⟩)
           | (go_at_call 103; (with_reducible refine (endless6_c hy _).mono ?_); rw [E1.out]; rintro e w' ⟨n1, rfl, rfl⟩)
           | (go_at_call 103; (with_reducible refine (endless6_c hx _).mono ?_); rw [E2.out]; rintro e w' ⟨n2, rfl, rfl⟩)
           | (go_at_call 104; (with_reducible refine (none6_c hx _).mono ?_); rw [E4.out]; rintro e w' ⟨n4, rfl, rfl⟩)
           | (go_at_call 104; (with_reducible refine (none6_c hy _).mono ?_); rw [E5.out]; rintro e w' ⟨n5, rfl, rfl⟩)
           | (go_at_call 99; (with_reducible refine (refGreater_c hx hy _).mono ?_); rintro e w' ⟨r1, r0, n6, rfl, hr1, hr0, rfl⟩)
           | (go_at_call 23; (with_reducible refine (refParts_c hr1 _).mono ?_); rw [HK.out]; rintro e w' ⟨r2, n7, rfl, hr2, rfl⟩)
           | (go_at_call 107; (with_reducible refine (halved_c K hb.1 hb.2 _).mono ?_); rintro e w' ⟨n8, rfl, rfl⟩)
           | (go_at_call 68; (with_reducible refine (abs_c hx _).mono ?_); rintro e w' ⟨r3, n9, rfl, hr3, rfl⟩)
           | (go_at_call 29; (with_reducible refine (refScale_c _ hr3 (tab_drew _ HT.out) (sz_drew _ htab)).mono ?_); rintro e w4 ⟨r4, rfl, hr4, hg4⟩; have HT4 := Lib.hid (gr_tab hg4 (tab_drew _ HT.out) (sz_drew _ htab)); have ht4 := Nat.lt_of_lt_of_le (sz_drew _ htab) hg4.2.2; have HG4 := Lib.hid (gr_trans (gr_drewN _ (Grown.refl w)) hg4); clear hg4)
           | (go_at_call 68; (with_reducible refine (abs_c hy _).mono ?_); rintro e w' ⟨r5, n10, rfl, hr5, rfl⟩)
           | (go_at_call 29; (with_reducible refine (refScale_c _ hr5 (tab_drew _ HT4.out) (sz_drew _ ht4)).mono ?_); rintro e w6 ⟨r6, rfl, hr6, hg6⟩; have HT6 := Lib.hid (gr_tab hg6 (tab_drew _ HT4.out) (sz_drew _ ht4)); have ht6 := Nat.lt_of_lt_of_le (sz_drew _ ht4) hg6.2.2; have HG6 := Lib.hid (gr_trans (gr_drewN _ HG4.out) hg6); clear hg6)
           | (go_at_call 100; (with_reducible refine (together_c hr4 hr6 _).mono ?_); rw [HQ.out]; rintro e w' ⟨r7, n11, rfl, hr7, rfl⟩)
           | (go_at_call 98; (with_reducible refine (sqrt_c ((hr4.add hr7).quo Rep.two) _).mono ?_); rintro e w' ⟨r8, n12, rfl, hr8, rfl⟩)
           | (go_at_call 29; (with_reducible refine (refScale_c _ hr8 (tab_drew _ HT6.out) (sz_drew _ ht6)).mono ?_); rintro e w9 ⟨r9, rfl, hr9, hg9⟩; have HG9 := Lib.hid (gr_trans (gr_drewN _ HG6.out) hg9); clear hg9; have hr9' : Rep r9 (rootS f g) := by (rw [RS.out, HRK.out]; exact hr9))
           | (go_at_call 93; (with_reducible refine (copysign_any _ hr9' hy E5.out).mono ?_); rintro e w' ⟨r11, n14, rfl, hr11, rfl⟩)
           | fail)
         go_ret
         refine ⟨_, _, rfl, ?_, ?_, by first | exact HG9.out | exact gr_drewN _ HG9.out⟩
         · rw [RX.out, H1.out, H2.out]; exact hr5.quo (Rep.two.mul hr9')
         · rw [RY.out, H1.out, H2.out]; exact hr11
    · have H2 := Lib.hid h2
      cases h3 : flt 0 f <;> cases a <;> cases b
      all_goals first
        | (exfalso; revert e10; decide)
        | (exfalso; have k := HFE.out; rw [h2, h3, HA.out] at k; revert k; decide)
        | skip
      all_goals
         rw [h3] at q7
         clear h2 h3 e10
         go_enter Tryd.func56, Tryd.ntmps56
         go_wp2_with (first
           | (go_at_call 62; (with_reducible refine (inf_c _ _).mono ?_); rw [if_pos (by decide)]; rintro e w' ⟨r, n0, rfl, hr, rfl⟩)
           | (go_at_call 103; (with_reducible refine (endless6_c hy _).mono ?_); rw [E1.out]; rintro e w' ⟨n1, rfl, rfl⟩)
           | (go_at_call 103; (with_reducible refine (endless6_c hx _).mono ?_); rw [E2.out]; rintro e w' ⟨n2, rfl, rfl⟩)
           | (go_at_call 104; (with_reducible refine (none6_c hx _).mono ?_); rw [E4.out]; rintro e w' ⟨n4, rfl, rfl⟩)
           | (go_at_call 104; (with_reducible refine (none6_c hy _).mono ?_); rw [E5.out]; rintro e w' ⟨n5, rfl, rfl⟩)
           | (go_at_call 99; (with_reducible refine (refGreater_c hx hy _).mono ?_); rintro e w' ⟨r1, r0, n6, rfl, hr1, hr0, rfl⟩)
           | (go_at_call 23; (with_reducible refine (refParts_c hr1 _).mono ?_); rw [HK.out]; rintro e w' ⟨r2, n7, rfl, hr2, rfl⟩)
           | (go_at_call 107; (with_reducible refine (halved_c K hb.1 hb.2 _).mono ?_); rintro e w' ⟨n8, rfl, rfl⟩)
           | (go_at_call 68; (with_reducible refine (abs_c hx _).mono ?_); rintro e w' ⟨r3, n9, rfl, hr3, rfl⟩)
           | (go_at_call 29; (with_reducible refine (refScale_c _ hr3 (tab_drew _ HT.out) (sz_drew _ htab)).mono ?_); rintro e w4 ⟨r4, rfl, hr4, hg4⟩; have HT4 := Lib.hid (gr_tab hg4 (tab_drew _ HT.out) (sz_drew _ htab)); have ht4 := Nat.lt_of_lt_of_le (sz_drew _ htab) hg4.2.2; have HG4 := Lib.hid (gr_trans (gr_drewN _ (Grown.refl w)) hg4); clear hg4)
           | (go_at_call 68; (with_reducible refine (abs_c hy _).mono ?_); rintro e w' ⟨r5, n10, rfl, hr5, rfl⟩)
           | (go_at_call 29; (with_reducible refine (refScale_c _ hr5 (tab_drew _ HT4.out) (sz_drew _ ht4)).mono ?_); rintro e w6 ⟨r6, rfl, hr6, hg6⟩; have HT6 := Lib.hid (gr_tab hg6 (tab_drew _ HT4.out) (sz_drew _ ht4)); have ht6 := Nat.lt_of_lt_of_le (sz_drew _ ht4) hg6.2.2; have HG6 := Lib.hid (gr_trans (gr_drewN _ HG4.out) hg6); clear hg6)
           | (go_at_call 100; (with_reducible refine (together_c hr4 hr6 _).mono ?_); rw [HQ.out]; rintro e w' ⟨r7, n11, rfl, hr7, rfl⟩)
           | (go_at_call 98; (with_reducible refine (sqrt_c ((hr4.add hr7).quo Rep.two) _).mono ?_); rintro e w' ⟨r8, n12, rfl, hr8, rfl⟩)
           | (go_at_call 29; (with_reducible refine (refScale_c _ hr8 (tab_drew _ HT6.out) (sz_drew _ ht6)).mono ?_); rintro e w9 ⟨r9, rfl, hr9, hg9⟩; have HG9 := Lib.hid (gr_trans (gr_drewN _ HG6.out) hg9); clear hg9; have hr9' : Rep r9 (rootS f g) := by (rw [RS.out, HRK.out]; exact hr9))
           | (go_at_call 93; (with_reducible refine (copysign_any _ hr9' hy E5.out).mono ?_); rintro e w' ⟨r11, n14, rfl, hr11, rfl⟩)
           | fail)
         go_ret
         refine ⟨_, _, rfl, ?_, ?_, by first | exact HG9.out | exact gr_drewN _ HG9.out⟩
         · rw [RX.out, H1.out, H2.out]; exact hr9'
         · rw [RY.out, H1.out, H2.out]; exact hy.quo (Rep.two.mul hr9')
  · rw [RX.out, RY.out, h1]
    exact refRoot_edge hx hy w h1
theorem refCsin_c (hT : TabAt w) (htab : 1 < w.heap.size) : Calls Tryd.prog 35 #[.complex .f64 x y] w (RetCG (fmul (turnS f) (coshF g)) (fmul (turnC f) (sinhF g)) w) := by
  have HT := Lib.hid hT
  clear hT
  go_enter Tryd.func35, Tryd.ntmps35
  go_wp2_with (first | (go_at_call 83; (with_reducible refine (refTurn_c hx _).mono ?_); rintro e w' ⟨r, s, n, rfl, hr, hs, rfl⟩) | (go_at_call 18; (with_reducible refine (refCosh_c hy _ (tab_drew _ HT.out) (sz_drew _ htab)).mono ?_); rintro e w' ⟨r2, rfl, hr2, hg2⟩; have HT2 := Lib.hid (gr_tab hg2 (tab_drew _ HT.out) (sz_drew _ htab)); have ht2 := Nat.lt_of_lt_of_le (sz_drew _ htab) hg2.2.2; have HG2 := Lib.hid (gr_trans (gr_drewN _ (Grown.refl w)) hg2); clear hg2) | (go_at_call 20; (with_reducible refine (refSinh_c hy _ (tab_drew _ HT2.out) (sz_drew _ ht2)).mono ?_); rintro e w' ⟨r3, rfl, hr3, hg3⟩; have HG3 := Lib.hid (gr_trans (gr_drewN _ HG2.out) hg3); clear hg3) | (go_at_call 84; (with_reducible refine (refMk_c (hr.mul hr2) (hs.mul hr3) _).mono ?_); rintro e w' ⟨r4, r5, n4, rfl, hr4, hr5, rfl⟩))
  go_ret
  exact ⟨_, _, rfl, hr4, hr5, gr_drewN _ HG3.out⟩
theorem refCcos_c (hT : TabAt w) (htab : 1 < w.heap.size) : Calls Tryd.prog 37 #[.complex .f64 x y] w (RetCG (fmul (turnC f) (coshF g)) (fneg (fmul (turnS f) (sinhF g))) w) := by
  have HT := Lib.hid hT
  clear hT
  go_enter Tryd.func37, Tryd.ntmps37
  go_wp2_with (first | (go_at_call 83; (with_reducible refine (refTurn_c hx _).mono ?_); rintro e w' ⟨r, s, n, rfl, hr, hs, rfl⟩) | (go_at_call 18; (with_reducible refine (refCosh_c hy _ (tab_drew _ HT.out) (sz_drew _ htab)).mono ?_); rintro e w' ⟨r2, rfl, hr2, hg2⟩; have HT2 := Lib.hid (gr_tab hg2 (tab_drew _ HT.out) (sz_drew _ htab)); have ht2 := Nat.lt_of_lt_of_le (sz_drew _ htab) hg2.2.2; have HG2 := Lib.hid (gr_trans (gr_drewN _ (Grown.refl w)) hg2); clear hg2) | (go_at_call 20; (with_reducible refine (refSinh_c hy _ (tab_drew _ HT2.out) (sz_drew _ ht2)).mono ?_); rintro e w' ⟨r3, rfl, hr3, hg3⟩; have HG3 := Lib.hid (gr_trans (gr_drewN _ HG2.out) hg3); clear hg3) | (go_at_call 86; (with_reducible refine (turned_c (hr.mul hr3) _).mono ?_); rintro e w' ⟨r6, n6, rfl, hr6, rfl⟩) | (go_at_call 84; (with_reducible refine (refMk_c (hs.mul hr2) hr6 _).mono ?_); rintro e w' ⟨r4, r5, n4, rfl, hr4, hr5, rfl⟩))
  go_ret
  exact ⟨_, _, rfl, hr4, hr5, gr_drewN _ HG3.out⟩
theorem refCsinh_c (hT : TabAt w) (htab : 1 < w.heap.size) : Calls Tryd.prog 39 #[.complex .f64 x y] w (RetCG (fmul (turnC g) (sinhF f)) (fmul (turnS g) (coshF f)) w) := by
  have HT := Lib.hid hT
  have C1 := Lib.hid (fmul_comm (turnC g) (sinhF f))
  have C2 := Lib.hid (fmul_comm (turnS g) (coshF f))
  clear hT
  go_enter Tryd.func39, Tryd.ntmps39
  go_wp2_with (first | (go_at_call 83; (with_reducible refine (refTurn_c hy _).mono ?_); rintro e w' ⟨r, s, n, rfl, hr, hs, rfl⟩) | (go_at_call 20; (with_reducible refine (refSinh_c hx _ (tab_drew _ HT.out) (sz_drew _ htab)).mono ?_); rintro e w' ⟨r2, rfl, hr2, hg2⟩; have HT2 := Lib.hid (gr_tab hg2 (tab_drew _ HT.out) (sz_drew _ htab)); have ht2 := Nat.lt_of_lt_of_le (sz_drew _ htab) hg2.2.2; have HG2 := Lib.hid (gr_trans (gr_drewN _ (Grown.refl w)) hg2); clear hg2) | (go_at_call 18; (with_reducible refine (refCosh_c hx _ (tab_drew _ HT2.out) (sz_drew _ ht2)).mono ?_); rintro e w' ⟨r3, rfl, hr3, hg3⟩; have HG3 := Lib.hid (gr_trans (gr_drewN _ HG2.out) hg3); clear hg3) | (go_at_call 84; (with_reducible refine (refMk_c (hr2.mul hs) (hr3.mul hr) _).mono ?_); rintro e w' ⟨r4, r5, n4, rfl, hr4, hr5, rfl⟩))
  go_ret
  exact ⟨_, _, rfl, by rw [C1.out]; exact hr4, by rw [C2.out]; exact hr5, gr_drewN _ HG3.out⟩
theorem refCcosh_c (hT : TabAt w) (htab : 1 < w.heap.size) : Calls Tryd.prog 41 #[.complex .f64 x y] w (RetCG (fmul (turnC g) (coshF f)) (fmul (turnS g) (sinhF f)) w) := by
  have HT := Lib.hid hT
  have C1 := Lib.hid (fmul_comm (turnC g) (coshF f))
  have C2 := Lib.hid (fmul_comm (turnS g) (sinhF f))
  clear hT
  go_enter Tryd.func41, Tryd.ntmps41
  go_wp2_with (first | (go_at_call 83; (with_reducible refine (refTurn_c hy _).mono ?_); rintro e w' ⟨r, s, n, rfl, hr, hs, rfl⟩) | (go_at_call 18; (with_reducible refine (refCosh_c hx _ (tab_drew _ HT.out) (sz_drew _ htab)).mono ?_); rintro e w' ⟨r2, rfl, hr2, hg2⟩; have HT2 := Lib.hid (gr_tab hg2 (tab_drew _ HT.out) (sz_drew _ htab)); have ht2 := Nat.lt_of_lt_of_le (sz_drew _ htab) hg2.2.2; have HG2 := Lib.hid (gr_trans (gr_drewN _ (Grown.refl w)) hg2); clear hg2) | (go_at_call 20; (with_reducible refine (refSinh_c hx _ (tab_drew _ HT2.out) (sz_drew _ ht2)).mono ?_); rintro e w' ⟨r3, rfl, hr3, hg3⟩; have HG3 := Lib.hid (gr_trans (gr_drewN _ HG2.out) hg3); clear hg3) | (go_at_call 84; (with_reducible refine (refMk_c (hr2.mul hs) (hr3.mul hr) _).mono ?_); rintro e w' ⟨r4, r5, n4, rfl, hr4, hr5, rfl⟩))
  go_ret
  exact ⟨_, _, rfl, by rw [C1.out]; exact hr4, by rw [C2.out]; exact hr5, gr_drewN _ HG3.out⟩
end
end Go.Proofs.YtndknkdfbjfjcaaDoor
