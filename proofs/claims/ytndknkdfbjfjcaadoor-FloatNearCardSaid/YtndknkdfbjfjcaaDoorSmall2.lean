/- What sameness, signs and bounds of floats come to, of the program and of the document's answer. No condition. -/
import Derived.Test.YtndknkdfbjfjcaaDoorSmall
namespace Go.Proofs.YtndknkdfbjfjcaaDoor
set_option linter.unusedVariables false
set_option maxRecDepth 100000

theorem Rep.same {x y f g : Nat} (hx : Rep x f) (hy : Rep y g) (h1 : isN f = false) (h2 : isN g = false) : (((x : Int)) == (y : Int)) = (f == g) := by
  rw [hx.eq_of h1, hy.eq_of h2, Bool.eq_iff_iff]
  simp
  omega
theorem grown_drewN (w : World) (n : Nat) : RowKit.Grown w (w.drewN n) := RowKit.Grown.refl w
theorem cast_beq (f g : Nat) : (((f : Int)) == (g : Int)) = (f == g) := by
  rw [Bool.eq_iff_iff]
  simp
  omega
theorem Rep.nan_of {x f : Nat} (hx : Rep x f) (h : isN f = true) : f = nanB := by rw [← hx.eq, nrm_of (hx.of_isN.trans h)]
theorem isN_eq {x y f g : Nat} (hx : Rep x f) (hy : Rep y g) : (if isN f || isN g then isN f && isN g else f == g) = (f == g) := by
  cases h1 : isN f
  · cases h2 : isN g
    · rfl
    · have : ¬ f = g := by intro e; rw [e, h2] at h1; cases h1
      simp [this]
  · cases h2 : isN g
    · have : ¬ f = g := by intro e; rw [e, h2] at h1; cases h1
      simp [this]
    · rw [hx.nan_of h1, hy.nan_of h2]; simp
theorem fneg_of {f : Nat} (hl : f < 18446744073709551616) (h : isN f = false) : fneg f = if sgn f then rung f else rung f + 9223372036854775808 := by
  unfold fneg; rw [h]; exact xor_sign hl
theorem fabs_of {f : Nat} (h : isN f = false) : fabs f = rung f := by unfold fabs; rw [h]; rfl
theorem sgn_rung {f : Nat} (h : f < 9223372036854775808) : sgn f = false := by unfold sgn; simp; omega
theorem rung_rung (f : Nat) : rung (rung f) = rung f := by unfold rung; omega
theorem rung_lt (f : Nat) : rung f < 9223372036854775808 := by unfold rung; omega
theorem signed_prog (f g : Nat) : (if minus g then fneg (fabs f) else fabs f) = signed f g := by
  unfold signed
  cases h : isN f
  · rw [fneg_of (by rw [fabs_of h]; have := rung_lt f; omega) (by rw [isN_abs, h]), fabs_of h, sgn_rung (rung_lt f), rung_rung]
    cases minus g <;> simp
  · have e : fabs f = nanB := by unfold fabs; rw [h]; rfl
    rw [e, show fneg nanB = nanB by decide +kernel]
    cases minus g <;> simp
theorem signed_ref {x y f g : Nat} (hx : Rep x f) (hy : Rep y g) : (if (minus f != minus g) && !isN f then fneg f else f) = signed f g := by
  unfold signed
  cases h : isN f
  · rw [fneg_of hx.flt h]
    have hm : minus f = sgn f := by unfold minus; rw [h]; rfl
    rw [hm]
    cases hs : sgn f
    · have := sgn_false hs hx.flt
      cases minus g <;> simp <;> omega
    · have := sgn_true hs hx.flt
      cases minus g <;> simp <;> omega
  · rw [hx.nan_of h]; simp

section
variable {x y f g : Nat} (hx : Rep x f) (hy : Rep y g) (w : World)
include hx
theorem minus_c : Calls Tryd.prog 110 #[.float .f64 x] w (RetB (minus f) w) := by
  have h1 := hx.some'
  have h2 := Lib.hid hx.of_isN
  cases hn : isN f
  · have e := Lib.hid (hx.eq_of hn)
    have h3 : (FloatKind.f64.format.order x x == some Ordering.eq) = true := by rw [h1, hn]; rfl
    clear h1
    have hn' := Lib.hid hn
    clear hn
    go_enter Tryd.func110, Tryd.ntmps110
    go_wp2_with (go_at_call 137; refine (signbit_c (by assumption) _).mono ?_; rintro e w' ⟨n, rfl, rfl⟩)
    go_ret
    exact RetB.mk _ (by unfold minus; rw [hn'.out, e.out]; rfl)
  · have h3 : (FloatKind.f64.format.order x x == some Ordering.eq) = false := by rw [h1, hn]; rfl
    clear h1
    have hn' := Lib.hid hn
    clear hn
    go_enter Tryd.func110, Tryd.ntmps110
    go_wp2_with fail
    go_ret
    exact RetB.mk0 (by unfold minus; rw [hn'.out]; rfl)
theorem refMinus_c : Calls Tryd.prog 71 #[.float .f64 x] w (RetB (minus f) w) := by
  have hs := Lib.hid (shr_sign x hx.lt)
  cases hn : isN f
  · have e := Lib.hid (hx.eq_of hn)
    have hn' := Lib.hid hn
    go_enter Tryd.func71, Tryd.ntmps71
    go_wp2_with (go_at_call 64; refine (none_c (by assumption) _).mono ?_; rintro e w' ⟨n, rfl, rfl⟩)
    go_ret
    exact RetB.mk _ (by unfold minus; rw [hn'.out, ← e.out, ← hs.out]; rfl)
  · have hn' := Lib.hid hn
    go_enter Tryd.func71, Tryd.ntmps71
    go_wp2_with (go_at_call 64; refine (none_c (by assumption) _).mono ?_; rintro e w' ⟨n, rfl, rfl⟩)
    go_ret
    exact RetB.mk _ (by unfold minus; rw [hn'.out]; rfl)
include hy
theorem refSame_c : Calls Tryd.prog 12 #[.float .f64 x, .float .f64 y] w (RetB (f == g) w) := by
  have hq := Lib.hid (isN_eq hx hy)
  have hc := Lib.hid (fun h1 h2 => hx.same hy h1 h2)
  cases h1 : isN f <;> cases h2 : isN g
  all_goals
    have h1' := Lib.hid h1
    have h2' := Lib.hid h2
    go_enter Tryd.func12, Tryd.ntmps12
    go_wp2_with (go_at_call 64; refine (none_c (by assumption) _).mono ?_; rintro e w' ⟨n, rfl, rfl⟩)
    all_goals go_ret
  · exact RetB.mk _ (hc.out h1'.out h2'.out)
  all_goals exact RetB.mk _ (by rw [← hq.out, h1'.out, h2'.out]; rfl)
theorem within_c : Calls Tryd.prog 163 #[.float .f64 x, .float .f64 y] w (RetB (within f g) w) := by
  go_enter Tryd.func163, Tryd.ntmps163
  go_wp2_with (go_at_call 68; refine (abs_c hx _).mono ?_; rintro e w' ⟨r, n, rfl, hr, rfl⟩)
  all_goals go_ret
  exact RetB.mk n (hr.le' hy)
theorem signed_c : Calls Tryd.prog 70 #[.float .f64 x, .float .f64 y] w (RetF (signed f g) w) := by
  have h3 := Lib.hid (signed_prog f g)
  cases hm : minus g
  all_goals
    have hm' := Lib.hid hm
    go_enter Tryd.func70, Tryd.ntmps70
    go_wp2_with (first | (go_at_call 68; refine (abs_c hx _).mono ?_; rintro e w' ⟨r, n, rfl, hr, rfl⟩) | (go_at_call 110; refine (minus_c (by assumption) _).mono ?_; rintro e w' ⟨n, rfl, rfl⟩))
    all_goals go_ret
  · exact RetF.mk _ (by rw [← h3.out, hm'.out]; exact hr)
  · exact RetF.mk _ (by rw [← h3.out, hm'.out]; exact hr.neg)
theorem refSigned_c : Calls Tryd.prog 72 #[.float .f64 x, .float .f64 y] w (RetF (signed f g) w) := by
  have h3 := Lib.hid (signed_ref hx hy)
  cases hm : minus f <;> cases hk : minus g <;> cases hn : isN f
  all_goals
    have hm' := Lib.hid hm
    have hk' := Lib.hid hk
    have hn' := Lib.hid hn
    go_enter Tryd.func72, Tryd.ntmps72
    go_wp2_with (first | (go_at_call 64; refine (none_c (by assumption) _).mono ?_; rintro e w' ⟨n, rfl, rfl⟩) | (go_at_call 71; refine (refMinus_c (by assumption) _).mono ?_; rintro e w' ⟨n, rfl, rfl⟩))
    all_goals go_ret
  all_goals exact RetF.mk _ (by rw [← h3.out, hm'.out, hk'.out, hn'.out]; first | exact hx | exact hx.neg)
end
end Go.Proofs.YtndknkdfbjfjcaaDoor
