/- What sameness, signs and bounds of floats come to, of the program and of the document's answer. No condition. -/
import Derived.Test.YtojldamhdnmdpaaSmall
namespace Go.Proofs.Ytojldamhdnmdpaa
set_option linter.unusedVariables false
set_option maxRecDepth 100000

theorem Rep.same {x y f g : Nat} (hx : Rep x f) (hy : Rep y g) (h1 : isN f = false) (h2 : isN g = false) : (((x : Int)) == (y : Int)) = (f == g) := by
  rw [hx.eq_of h1, hy.eq_of h2, Bool.eq_iff_iff]
  simp
  omega
theorem grown_drewN (w : World) (n : Nat) : RowKit.Grown w (w.drewN n) := RowKit.Grown.refl w
theorem cast_beq (f g : Nat) : (((f : Int)) == (g : Int)) = (f == g) := by
  rw [Bool.eq_iff_iff]
  simp
  omega
theorem Rep.nan_of {x f : Nat} (hx : Rep x f) (h : isN f = true) : f = nanB := by rw [← hx.eq, nrm_of (hx.of_isN.trans h)]
theorem isN_eq {x y f g : Nat} (hx : Rep x f) (hy : Rep y g) : (if isN f || isN g then isN f && isN g else f == g) = (f == g) := by
  cases h1 : isN f
  · cases h2 : isN g
    · rfl
    · have : ¬ f = g := by intro e; rw [e, h2] at h1; cases h1
      simp [this]
  · cases h2 : isN g
    · have : ¬ f = g := by intro e; rw [e, h2] at h1; cases h1
      simp [this]
    · rw [hx.nan_of h1, hy.nan_of h2]; simp
theorem fneg_of {f : Nat} (hl : f < 18446744073709551616) (h : isN f = false) : fneg f = if sgn f then rung f else rung f + 9223372036854775808 := by
  unfold fneg; rw [h]; exact xor_sign hl
theorem fabs_of {f : Nat} (h : isN f = false) : fabs f = rung f := by unfold fabs; rw [h]; rfl
theorem sgn_rung {f : Nat} (h : f < 9223372036854775808) : sgn f = false := by unfold sgn; simp; omega
theorem rung_rung (f : Nat) : rung (rung f) = rung f := by unfold rung; omega
theorem rung_lt (f : Nat) : rung f < 9223372036854775808 := by unfold rung; omega
theorem signed_prog (f g : Nat) : (if minus g then fneg (fabs f) else fabs f) = signed f g := by
  unfold signed
  cases h : isN f
  · rw [fneg_of (by rw [fabs_of h]; have := rung_lt f; omega) (by rw [isN_abs, h]), fabs_of h, sgn_rung (rung_lt f), rung_rung]
    cases minus g <;> simp
  · have e : fabs f = nanB := by unfold fabs; rw [h]; rfl
    rw [e, show fneg nanB = nanB by decide +kernel]
    cases minus g <;> simp
theorem signed_ref {x y f g : Nat} (hx : Rep x f) (hy : Rep y g) : (if (minus f != minus g) && !isN f then fneg f else f) = signed f g := by
  unfold signed
  cases h : isN f
  · rw [fneg_of hx.flt h]
    have hm : minus f = sgn f := by unfold minus; rw [h]; rfl
    rw [hm]
    cases hs : sgn f
    · have := sgn_false hs hx.flt
      cases minus g <;> simp <;> omega
    · have := sgn_true hs hx.flt
      cases minus g <;> simp <;> omega
  · rw [hx.nan_of h]; simp

section
variable {x y f g : Nat} (hx : Rep x f) (hy : Rep y g) (w : World)
include hx
theorem minus_c : Calls Try.prog 65 #[.float .f64 x] w (RetB (minus f) w) := by
  have h1 := hx.some'
  have h2 := Lib.hid hx.of_isN
  cases hn : isN f
  · have e := Lib.hid (hx.eq_of hn)
    have h3 : (FloatKind.f64.format.order x x == some Ordering.eq) = true := by rw [h1, hn]; rfl
    clear h1
    have hn' := Lib.hid hn
    clear hn
    go_enter Try.func65, Try.ntmps65
    go_wp2_with (go_at_call 50; refine (signbit_c (by assumption) _).mono ?_; rintro e w' ⟨n, rfl, rfl⟩)
    go_ret
    exact RetB.mk _ (by unfold minus; rw [hn'.out, e.out]; rfl)
  · have h3 : (FloatKind.f64.format.order x x == some Ordering.eq) = false := by rw [h1, hn]; rfl
    clear h1
    have hn' := Lib.hid hn
    clear hn
    go_enter Try.func65, Try.ntmps65
    go_wp2_with fail
    go_ret
    exact RetB.mk0 (by unfold minus; rw [hn'.out]; rfl)
include hy
theorem same_c : Calls Try.prog 67 #[.float .f64 x, .float .f64 y] w (RetB (f == g) w) := by
  have hc := Lib.hid (cast_beq f g)
  go_enter Try.func67, Try.ntmps67
  go_wp2_with (go_at_call 74; refine (bits_c (by assumption) _).mono ?_; rintro e w' ⟨n, rfl, rfl⟩)
  go_ret
  exact RetB.mk _ hc.out
theorem within_c : Calls Try.prog 72 #[.float .f64 x, .float .f64 y] w (RetB (within f g) w) := by
  go_enter Try.func72, Try.ntmps72
  go_wp2_with (go_at_call 11; refine (abs_c hx _).mono ?_; rintro e w' ⟨r, n, rfl, hr, rfl⟩)
  all_goals go_ret
  exact RetB.mk n (hr.le' hy)
theorem signed_c : Calls Try.prog 66 #[.float .f64 x, .float .f64 y] w (RetF (signed f g) w) := by
  have h3 := Lib.hid (signed_prog f g)
  cases hm : minus g
  all_goals
    have hm' := Lib.hid hm
    go_enter Try.func66, Try.ntmps66
    go_wp2_with (first | (go_at_call 11; refine (abs_c hx _).mono ?_; rintro e w' ⟨r, n, rfl, hr, rfl⟩) | (go_at_call 65; refine (minus_c (by assumption) _).mono ?_; rintro e w' ⟨n, rfl, rfl⟩))
    all_goals go_ret
  · exact RetF.mk _ (by rw [← h3.out, hm'.out]; exact hr)
  · exact RetF.mk _ (by rw [← h3.out, hm'.out]; exact hr.neg)
end
end Go.Proofs.Ytojldamhdnmdpaa
