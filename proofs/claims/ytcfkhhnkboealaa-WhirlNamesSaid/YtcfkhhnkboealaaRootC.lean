/- Complex roots, units, places, nearness: what the program's functions come to. -/
import Derived.Test.YtcfkhhnkboealaaPow2
import Derived.Test.YtcfkhhnkboealaaMirC
namespace Go.Proofs.Ytcfkhhnkboealaa
open Go.RowKit
set_option linter.unusedVariables false
set_option linter.unusedSimpArgs false
set_option maxRecDepth 100000
set_option maxHeartbeats 4000000
def rootK (f g : Nat) : Int := partE (greatF f g) / 2
def rootS (f g : Nat) : Nat := scaleF (fsqrt (fdiv (fadd (scaleF (fabs f) (clampN (-2 * rootK f g))) (fsqrt (sqF (scaleF (fabs f) (clampN (-2 * rootK f g))) (scaleF g (clampN (-2 * rootK f g)))))) 4611686018427387904)) (clampN (rootK f g))
def edgeIs (f g : Nat) : Bool := isInf g 0 || (isInf f 1 || (isInf f (-1) || (isN f || (isN g || (feq f 0 && feq g 0)))))
def edgeX (f g : Nat) : Nat := if isInf g 0 then infP else if isInf f 1 then infP else if isInf f (-1) then (if isN g then nanB else 0) else if isN f || isN g then nanB else 0
def edgeY (f g : Nat) : Nat := if isInf g 0 then g else if isInf f 1 then (if isN g then nanB else copyF 0 g) else if isInf f (-1) then (if isN g then infP else copyF infP g) else if isN f || isN g then nanB else if feq f 0 && feq g 0 then g else 0
def rootX (f g : Nat) : Nat := if edgeIs f g then edgeX f g else if fle 0 f then rootS f g else fdiv (fabs g) (fmul 4611686018427387904 (rootS f g))
def rootY (f g : Nat) : Nat := if edgeIs f g then edgeY f g else if fle 0 f then fdiv g (fmul 4611686018427387904 (rootS f g)) else copyF (rootS f g) g
def unitX (f g : Nat) : Nat := fdiv (scN f (lenK f g)) (fsqrt (sqF (scN f (lenK f g)) (scN g (lenK f g))))
def unitY (f g : Nat) : Nat := fdiv (scN g (lenK f g)) (fsqrt (sqF (scN f (lenK f g)) (scN g (lenK f g))))
section
variable {x y z t f g h k : Nat} (hx : Rep x f) (hy : Rep y g) (hz : Rep z h) (ht : Rep t k) (w : World)
theorem copysign_any (hx : Rep x f) (hy : Rep y g) (hg : isN g = false) : Calls Try.prog 84 #[.float .f64 x, .float .f64 y] w (RetF (copyF f g) w) := by
  have h1 := Lib.hid (copy_bits x y)
  have h3 := Lib.hid (hy.sgn_of hg)
  have h4 : RowKit.Hid (nrm (rung x + if sgn g then 9223372036854775808 else 0) = copyF f g) := Lib.hid (by
    cases hf : isN f
    · rw [hx.rung_of hf]; rfl
    · have hxn : isN x = true := by rw [hx.of_isN, hf]
      have a := (isN_iff x).1 hxn
      have hr : rung x = x % 9223372036854775808 := rfl
      have e1 : isN (rung x + if sgn g then 9223372036854775808 else 0) = true := by rw [isN_iff]; split <;> omega
      have e2 : copyF f g = nanB := by
        rw [hx.nan_of hf]
        unfold copyF
        cases sgn g <;> decide +kernel
      rw [nrm_of e1, e2])
  go_enter Try.func84, Try.ntmps84
  go_wp2
  go_ret
  refine RetF.mk0 ⟨?_, ?_⟩
  · rw [h1.out]; have := rung_lt x; split <;> omega
  · rw [h1.out, h3.out, h4.out]
include hx
theorem nought6_c : Calls Try.prog 153 #[.float .f64 x] w (RetF (if isN f then nanB else copyF 0 f) w) := by
  cases h1 : isN f
  · have H1 := Lib.hid h1
    go_enter Try.func153, Try.ntmps153
    go_wp2_with (first | (go_at_call 94; (with_reducible refine (isNaN_c hx _).mono ?_); rw [H1.out]; rintro e w' ⟨n, rfl, rfl⟩) | (go_at_call 84; (with_reducible refine (copysign_c Rep.c0 hx _ (by decide +kernel) H1.out).mono ?_); rintro e w' ⟨r, n, rfl, hr, rfl⟩))
    go_ret
    exact RetF.mk _ hr
  · have H1 := Lib.hid h1
    have HN := Lib.hid (hx.nan_of h1)
    clear h1
    go_enter Try.func153, Try.ntmps153
    go_wp2_with (first | (go_at_call 94; (with_reducible refine (isNaN_c hx _).mono ?_); rw [H1.out]; rintro e w' ⟨n, rfl, rfl⟩))
    go_ret
    exact RetF.mk _ (by rw [← HN.out]; exact hx)
include hy
theorem edge_c : Calls Try.prog 110 #[.float .f64 x, .float .f64 y] w (RetCB (edgeX f g) (edgeY f g) (edgeIs f g) w) := by
  have q1 := hx.eq' Rep.c0
  have q2 := hy.eq' Rep.c0
  have EX := Lib.hid (edgeX.eq_1 f g)
  have EY := Lib.hid (edgeY.eq_1 f g)
  have EI := Lib.hid (edgeIs.eq_1 f g)
  have e0 : Rep infP infP := Rep.cinf
  have NF : RowKit.Hid (isN f = true → f = nanB) := Lib.hid hx.nan_of
  have NG : RowKit.Hid (isN g = true → g = nanB) := Lib.hid hy.nan_of
  cases h1 : isInf g 0
  · cases h2 : isInf f 1
    · cases h3 : isInf f (-1)
      · cases h4 : isN f
        · cases h5 : isN g
          · cases h6 : feq f 0 <;> cases h7 : feq g 0
            all_goals
              rw [h6] at q1
              rw [h7] at q2
              have H1 := Lib.hid h1
              have H2 := Lib.hid h2
              have H3 := Lib.hid h3
              have H4 := Lib.hid h4
              have H5 := Lib.hid h5
              have H6 := Lib.hid h6
              have H7 := Lib.hid h7
              clear h1 h2 h3 h4 h5 h6 h7
              go_enter Try.func110, Try.ntmps110
              go_wp2_with (first | (go_at_call 75; (with_reducible refine (inf_c _ _).mono ?_); rw [if_pos (by decide)]; rintro e w' ⟨r, n0, rfl, hr, rfl⟩) | (go_at_call 104; (with_reducible refine (isInf_c hy _ 0).mono ?_); rw [H1.out]; rintro e w' ⟨n1, rfl, rfl⟩) | (go_at_call 104; (with_reducible refine (isInf_c hx _ 1).mono ?_); rw [H2.out]; rintro e w' ⟨n2, rfl, rfl⟩) | (go_at_call 104; (with_reducible refine (isInf_c hx _ (-1)).mono ?_); rw [H3.out]; rintro e w' ⟨n3, rfl, rfl⟩) | (go_at_call 94; (with_reducible refine (isNaN_c hx _).mono ?_); rw [H4.out]; rintro e w' ⟨n4, rfl, rfl⟩) | (go_at_call 94; (with_reducible refine (isNaN_c hy _).mono ?_); rw [H5.out]; rintro e w' ⟨n5, rfl, rfl⟩))
              go_ret2
              refine RetCB.mk _ ?_ ?_ ?_
              · rw [EX.out, H1.out, H2.out, H3.out, H4.out, H5.out]; exact Rep.c0
              · rw [EY.out, H1.out, H2.out, H3.out, H4.out, H5.out, H6.out, H7.out]; first | exact hy | exact Rep.c0
              · rw [EI.out, H1.out, H2.out, H3.out, H4.out, H5.out, H6.out, H7.out]; rfl
          · have H1 := Lib.hid h1
            have H2 := Lib.hid h2
            have H3 := Lib.hid h3
            have H4 := Lib.hid h4
            have H5 := Lib.hid h5
            clear h1 h2 h3 h4 h5
            go_enter Try.func110, Try.ntmps110
            go_wp2_with (first | (go_at_call 75; (with_reducible refine (inf_c _ _).mono ?_); rw [if_pos (by decide)]; rintro e w' ⟨r, n0, rfl, hr, rfl⟩) | (go_at_call 104; (with_reducible refine (isInf_c hy _ 0).mono ?_); rw [H1.out]; rintro e w' ⟨n1, rfl, rfl⟩) | (go_at_call 104; (with_reducible refine (isInf_c hx _ 1).mono ?_); rw [H2.out]; rintro e w' ⟨n2, rfl, rfl⟩) | (go_at_call 104; (with_reducible refine (isInf_c hx _ (-1)).mono ?_); rw [H3.out]; rintro e w' ⟨n3, rfl, rfl⟩) | (go_at_call 94; (with_reducible refine (isNaN_c hx _).mono ?_); rw [H4.out]; rintro e w' ⟨n4, rfl, rfl⟩) | (go_at_call 94; (with_reducible refine (isNaN_c hy _).mono ?_); rw [H5.out]; rintro e w' ⟨n5, rfl, rfl⟩) | (go_at_call 67; (with_reducible refine (nan_c _).mono ?_); rintro e w' ⟨r2, n6, rfl, hr2, rfl⟩))
            go_ret2
            refine RetCB.mk _ ?_ ?_ ?_
            · rw [EX.out, H1.out, H2.out, H3.out, H4.out, H5.out]; assumption
            · rw [EY.out, H1.out, H2.out, H3.out, H4.out, H5.out]; assumption
            · rw [EI.out, H1.out, H2.out, H3.out, H4.out, H5.out]; rfl
        · have H1 := Lib.hid h1
          have H2 := Lib.hid h2
          have H3 := Lib.hid h3
          have H4 := Lib.hid h4
          clear h1 h2 h3 h4
          go_enter Try.func110, Try.ntmps110
          go_wp2_with (first | (go_at_call 75; (with_reducible refine (inf_c _ _).mono ?_); rw [if_pos (by decide)]; rintro e w' ⟨r, n0, rfl, hr, rfl⟩) | (go_at_call 104; (with_reducible refine (isInf_c hy _ 0).mono ?_); rw [H1.out]; rintro e w' ⟨n1, rfl, rfl⟩) | (go_at_call 104; (with_reducible refine (isInf_c hx _ 1).mono ?_); rw [H2.out]; rintro e w' ⟨n2, rfl, rfl⟩) | (go_at_call 104; (with_reducible refine (isInf_c hx _ (-1)).mono ?_); rw [H3.out]; rintro e w' ⟨n3, rfl, rfl⟩) | (go_at_call 94; (with_reducible refine (isNaN_c hx _).mono ?_); rw [H4.out]; rintro e w' ⟨n4, rfl, rfl⟩) | (go_at_call 67; (with_reducible refine (nan_c _).mono ?_); rintro e w' ⟨r2, n6, rfl, hr2, rfl⟩))
          go_ret2
          refine RetCB.mk _ ?_ ?_ ?_
          · rw [EX.out, H1.out, H2.out, H3.out, H4.out]; assumption
          · rw [EY.out, H1.out, H2.out, H3.out, H4.out]; assumption
          · rw [EI.out, H1.out, H2.out, H3.out, H4.out]; rfl
      · cases h5 : isN g
        · have H1 := Lib.hid h1
          have H2 := Lib.hid h2
          have H3 := Lib.hid h3
          have H5 := Lib.hid h5
          clear h1 h2 h3 h5
          go_enter Try.func110, Try.ntmps110
          go_wp2_with (first | (go_at_call 75; (with_reducible refine (inf_c _ _).mono ?_); rw [if_pos (by decide)]; rintro e w' ⟨r, n0, rfl, hr, rfl⟩) | (go_at_call 104; (with_reducible refine (isInf_c hy _ 0).mono ?_); rw [H1.out]; rintro e w' ⟨n1, rfl, rfl⟩) | (go_at_call 104; (with_reducible refine (isInf_c hx _ 1).mono ?_); rw [H2.out]; rintro e w' ⟨n2, rfl, rfl⟩) | (go_at_call 104; (with_reducible refine (isInf_c hx _ (-1)).mono ?_); rw [H3.out]; rintro e w' ⟨n3, rfl, rfl⟩) | (go_at_call 94; (with_reducible refine (isNaN_c hy _).mono ?_); rw [H5.out]; rintro e w' ⟨n5, rfl, rfl⟩) | (go_at_call 84; (with_reducible refine (copysign_c hr hy _ (by decide +kernel) H5.out).mono ?_); rintro e w' ⟨r2, n6, rfl, hr2, rfl⟩))
          go_ret2
          refine RetCB.mk _ ?_ ?_ ?_
          · rw [EX.out, H1.out, H2.out, H3.out, H5.out]; exact Rep.c0
          · rw [EY.out, H1.out, H2.out, H3.out, H5.out]; assumption
          · rw [EI.out, H1.out, H2.out, H3.out]; rfl
        · have H1 := Lib.hid h1
          have H2 := Lib.hid h2
          have H3 := Lib.hid h3
          have H5 := Lib.hid h5
          have HN := Lib.hid (NG.out h5)
          clear h1 h2 h3 h5
          go_enter Try.func110, Try.ntmps110
          go_wp2_with (first | (go_at_call 75; (with_reducible refine (inf_c _ _).mono ?_); rw [if_pos (by decide)]; rintro e w' ⟨r, n0, rfl, hr, rfl⟩) | (go_at_call 104; (with_reducible refine (isInf_c hy _ 0).mono ?_); rw [H1.out]; rintro e w' ⟨n1, rfl, rfl⟩) | (go_at_call 104; (with_reducible refine (isInf_c hx _ 1).mono ?_); rw [H2.out]; rintro e w' ⟨n2, rfl, rfl⟩) | (go_at_call 104; (with_reducible refine (isInf_c hx _ (-1)).mono ?_); rw [H3.out]; rintro e w' ⟨n3, rfl, rfl⟩) | (go_at_call 94; (with_reducible refine (isNaN_c hy _).mono ?_); rw [H5.out]; rintro e w' ⟨n5, rfl, rfl⟩))
          go_ret2
          refine RetCB.mk _ ?_ ?_ ?_
          · rw [EX.out, H1.out, H2.out, H3.out, H5.out]; show Rep y nanB; rw [← HN.out]; exact hy
          · rw [EY.out, H1.out, H2.out, H3.out, H5.out]; assumption
          · rw [EI.out, H1.out, H2.out, H3.out]; rfl
    · have H1 := Lib.hid h1
      have H2 := Lib.hid h2
      clear h1 h2
      go_enter Try.func110, Try.ntmps110
      go_wp2_with (first | (go_at_call 75; (with_reducible refine (inf_c _ _).mono ?_); rw [if_pos (by decide)]; rintro e w' ⟨r, n0, rfl, hr, rfl⟩) | (go_at_call 104; (with_reducible refine (isInf_c hy _ 0).mono ?_); rw [H1.out]; rintro e w' ⟨n1, rfl, rfl⟩) | (go_at_call 104; (with_reducible refine (isInf_c hx _ 1).mono ?_); rw [H2.out]; rintro e w' ⟨n2, rfl, rfl⟩) | (go_at_call 153; (with_reducible refine (nought6_c hy _).mono ?_); rintro e w' ⟨r2, n3, rfl, hr2, rfl⟩))
      go_ret2
      refine RetCB.mk _ ?_ ?_ ?_
      · rw [EX.out, H1.out, H2.out]; assumption
      · rw [EY.out, H1.out, H2.out]; assumption
      · rw [EI.out, H1.out, H2.out]; rfl
  · have H1 := Lib.hid h1
    clear h1
    go_enter Try.func110, Try.ntmps110
    go_wp2_with (first | (go_at_call 75; (with_reducible refine (inf_c _ _).mono ?_); rw [if_pos (by decide)]; rintro e w' ⟨r, n0, rfl, hr, rfl⟩) | (go_at_call 104; (with_reducible refine (isInf_c hy _ 0).mono ?_); rw [H1.out]; rintro e w' ⟨n1, rfl, rfl⟩))
    go_ret2
    refine RetCB.mk _ ?_ ?_ ?_
    · rw [EX.out, H1.out]; assumption
    · rw [EY.out, H1.out]; assumption
    · rw [EI.out, H1.out]; rfl
theorem root_c : Calls Try.prog 44 #[.complex .f64 x y] w (RetC (rootX f g) (rootY f g) w) := by
  have RX := Lib.hid (rootX.eq_1 f g)
  have RY := Lib.hid (rootY.eq_1 f g)
  have RS := Lib.hid (rootS.eq_1 f g)
  cases h1 : edgeIs f g
  · have q1 := hx.ge' Rep.c0
    have hb := partE_bd (greatF f g)
    obtain ⟨K, hK⟩ : ∃ K, partE (greatF f g) = K := ⟨_, rfl⟩
    rw [hK] at hb
    have HK := Lib.hid hK
    have HN2 : RowKit.Hid (isN g = false) := Lib.hid (by
      cases h : isN g
      · rfl
      · unfold edgeIs at h1; rw [h] at h1; simp at h1)
    have HRK : RowKit.Hid (rootK f g = K / 2) := Lib.hid (by unfold rootK; rw [hK])
    have H1 := Lib.hid h1
    have hw : IntKind.i64.wrap (-2 * (K / 2)) = -2 * (K / 2) := IntWalk.i64_in _ ⟨by omega, by omega⟩
    cases h2 : fle 0 f
    all_goals
      rw [h2] at q1
      have H2 := Lib.hid h2
      clear h2
      first | clear h1 | skip
      go_enter Try.func44, Try.ntmps44
      go_wp2_with (first | (go_at_call 110; (with_reducible refine (edge_c hx hy _).mono ?_); rw [H1.out]; rintro e w' ⟨r, s, n, rfl, hr, hs, rfl⟩) | (go_at_call 105; (with_reducible refine (greatest_c hx hy _).mono ?_); rintro e w' ⟨r1, n1, rfl, hr1, rfl⟩) | (go_at_call 26; (with_reducible refine (parts_c hr1 _).mono ?_); rw [HK.out]; rintro e w' ⟨r2, n2, rfl, hr2, rfl⟩) | (go_at_call 23; (with_reducible refine (abs_c hx _).mono ?_); rintro e w' ⟨r3, n3, rfl, hr3, rfl⟩) | (go_at_call 28; (with_reducible refine (scale_c hr3 _ _).mono ?_); rintro e w' ⟨r4, n4, rfl, hr4, rfl⟩) | (go_at_call 28; (with_reducible refine (scale_c hy _ _).mono ?_); rintro e w' ⟨r5, n5, rfl, hr5, rfl⟩) | (go_at_call 51; (with_reducible refine (square_c hr4 hr5 _).mono ?_); rintro e w' ⟨r6, n6, rfl, hr6, rfl⟩) | (go_at_call 107; (with_reducible refine (sqrt_c hr6 _).mono ?_); rintro e w' ⟨r7, n7, rfl, hr7, rfl⟩) | (go_at_call 107; (with_reducible refine (sqrt_c ((hr4.add hr7).quo Rep.two) _).mono ?_); rintro e w' ⟨r8, n8, rfl, hr8, rfl⟩) | (go_at_call 28; (with_reducible refine (scale_c hr8 _ _).mono ?_); rintro e w' ⟨r9, n9, rfl, hr9, rfl⟩) | (go_at_call 23; (with_reducible refine (abs_c hy _).mono ?_); rintro e w' ⟨r10, n10, rfl, hr10, rfl⟩) | (go_at_call 84; (with_reducible refine (copysign_any _ hr9 hy HN2.out).mono ?_); rintro e w' ⟨r11, n11, rfl, hr11, rfl⟩))
      go_ret
      have hr9' : Rep r9 (rootS f g) := by rw [RS.out, HRK.out]; exact hr9
      refine RetC.mk _ ?_ ?_
      · rw [RX.out, H1.out, H2.out]
        first
          | exact hr9'
          | exact hr10.quo (Rep.two.mul hr9')
      · rw [RY.out, H1.out, H2.out]
        first
          | exact hy.quo (Rep.two.mul hr9')
          | (have e := hr11; rw [show copyF (scaleF (fsqrt (fdiv (fadd (scaleF (fabs f) (clampN (-2 * (K / 2)))) (fsqrt (sqF (scaleF (fabs f) (clampN (-2 * (K / 2)))) (scaleF g (clampN (-2 * (K / 2))))))) 4611686018427387904)) (clampN (K / 2))) g = copyF (rootS f g) g by rw [RS.out, HRK.out]] at e; exact e)
  · have H1 := Lib.hid h1
    clear h1
    go_enter Try.func44, Try.ntmps44
    go_wp2_with (first | (go_at_call 110; (with_reducible refine (edge_c hx hy _).mono ?_); rw [H1.out]; rintro e w' ⟨r, s, n, rfl, hr, hs, rfl⟩))
    go_ret
    exact RetC.mk _ (by rw [RX.out, H1.out]; exact hr) (by rw [RY.out, H1.out]; exact hs)
end
end Go.Proofs.Ytcfkhhnkboealaa
