/- Complex numbers by their parts: what the program's small functions come to. No condition. -/
import Derived.Test.YtcfkhhnkboealaaRmz
import Derived.Test.YtcfkhhnkboealaaAngb
import Derived.Test.YtcfkhhnkboealaaExl
import Derived.Laws.Cover3
namespace Go.Proofs.Ytcfkhhnkboealaa
open Go.RowKit
set_option linter.unusedVariables false
set_option linter.unusedSimpArgs false
set_option maxRecDepth 100000
set_option maxHeartbeats 4000000

def RetC (f g : Nat) (w : World) (e : Ending) (w' : World) : Prop := ∃ r s n, e = .returned (.complex .f64 r s) ∧ Rep r f ∧ Rep s g ∧ w' = w.drewN n
def RetCG (f g : Nat) (w : World) (e : Ending) (w' : World) : Prop := ∃ r s, e = .returned (.complex .f64 r s) ∧ Rep r f ∧ Rep s g ∧ Grown w w'
def RetCB (f g : Nat) (b : Bool) (w : World) (e : Ending) (w' : World) : Prop := ∃ r s n, e = .returned (.tuple #[.complex .f64 r s, .bool b]) ∧ Rep r f ∧ Rep s g ∧ w' = w.drewN n
def RetCI (f g : Nat) (i : Int) (w : World) (e : Ending) (w' : World) : Prop := ∃ r s n, e = .returned (.tuple #[.complex .f64 r s, .int .i64 i]) ∧ Rep r f ∧ Rep s g ∧ w' = w.drewN n
theorem RetC.mk {r s f g : Nat} {w : World} (n : Nat) (h : Rep r f) (k : Rep s g) : RetC f g w (.returned (.complex .f64 r s)) (w.drewN n) := ⟨r, s, n, rfl, h, k, rfl⟩
theorem RetC.mk0 {r s f g : Nat} {w : World} (h : Rep r f) (k : Rep s g) : RetC f g w (.returned (.complex .f64 r s)) w := ⟨r, s, 0, rfl, h, k, rfl⟩
theorem RetCI.mk {r s f g : Nat} {i j : Int} {w : World} (n : Nat) (h : Rep r f) (k : Rep s g) (e : i = j) : RetCI f g j w (.returned (.tuple #[.complex .f64 r s, .int .i64 i])) (w.drewN n) := ⟨r, s, n, by rw [e], h, k, rfl⟩
theorem RetCB.mk {r s f g : Nat} {b c : Bool} {w : World} (n : Nat) (h : Rep r f) (k : Rep s g) (e : b = c) : RetCB f g c w (.returned (.tuple #[.complex .f64 r s, .bool b])) (w.drewN n) := ⟨r, s, n, by rw [e], h, k, rfl⟩
theorem RetCB.mk0 {r s f g : Nat} {b c : Bool} {w : World} (h : Rep r f) (k : Rep s g) (e : b = c) : RetCB f g c w (.returned (.tuple #[.complex .f64 r s, .bool b])) w := ⟨r, s, 0, by rw [e], h, k, rfl⟩

def likeF (f g : Nat) : Bool := feq f g || (isN f && isN g)
def greatF (f g : Nat) : Nat := if flt (fabs f) (fabs g) then fabs g else fabs f
def sqF (f g : Nat) : Nat := fadd (fmul f f) (fmul g g)
def lenK (f g : Nat) : Int := partE (greatF f g)
def scN (f : Nat) (k : Int) : Nat := scaleF f (clampN (-k))
def lenF (f g : Nat) : Nat :=
  if isInf f 0 || isInf g 0 then infP else if isN f || isN g then nanB else if feq (greatF f g) 0 then 0
  else scaleF (fsqrt (sqF (scN f (lenK f g)) (scN g (lenK f g)))) (clampN (lenK f g))
section
variable {x y z t f g h k : Nat} (hx : Rep x f) (hy : Rep y g) (hz : Rep z h) (ht : Rep t k) (w : World)
include hx hy
theorem conj_c : Calls Try.prog 131 #[.complex .f64 x y] w (RetC f (fneg g) w) := by
  go_enter Try.func131, Try.ntmps131
  go_wp2
  go_ret
  exact RetC.mk0 hx hy.neg
theorem cfinite_c : Calls Try.prog 61 #[.complex .f64 x y] w (RetB (fin f && fin g) w) := by
  cases h1 : fin f
  all_goals
    have H1 := Lib.hid h1
    clear h1
    go_enter Try.func61, Try.ntmps61
    go_wp2_with (first | (go_at_call 88; (with_reducible refine (finite_c hx _).mono ?_); rw [H1.out]; rintro e w' ⟨n, rfl, rfl⟩) | (go_at_call 88; (with_reducible refine (finite_c hy _).mono ?_); rintro e w' ⟨n, rfl, rfl⟩))
    go_ret
    exact RetB.mk _ (by simp)
theorem greatest_c : Calls Try.prog 105 #[.complex .f64 x y] w (RetF (greatF f g) w) := by
  have q1 := hx.abs
  have q2 := hy.abs
  have HL := Lib.hid (greatF.eq_1 f g)
  cases h1 : flt (fabs f) (fabs g)
  all_goals
    have H1 := Lib.hid h1
    clear h1
    go_enter Try.func105, Try.ntmps105
    go_wp2_with (first | (go_at_call 23; (with_reducible refine (abs_c hx _).mono ?_); rintro e w' ⟨r1, n, rfl, hr1, rfl⟩) | (go_at_call 23; (with_reducible refine (abs_c hy _).mono ?_); rintro e w' ⟨r2, n, rfl, hr2, rfl⟩; have q3 := hr2.gt' hr1; rw [H1.out] at q3))
    go_ret
    exact RetF.mk _ (by rw [HL.out, H1.out]; first | exact hr1 | exact hr2)
theorem square_c : Calls Try.prog 51 #[.complex .f64 x y] w (RetF (sqF f g) w) := by
  go_enter Try.func51, Try.ntmps51
  go_wp2
  go_ret
  exact RetF.mk _ ((hx.mul hx).add (hy.mul hy))
theorem scaled_c : Calls Try.prog 106 #[.complex .f64 x y] w (RetCI (scN f (lenK f g)) (scN g (lenK f g)) (lenK f g) w) := by
  have hb := Lib.hid (partE_bd (greatF f g))
  have e := hb.out
  have HK : RowKit.Hid (lenK f g = partE (greatF f g)) := Lib.hid rfl
  go_enter Try.func106, Try.ntmps106
  go_wp2_with (first | (go_at_call 105; (with_reducible refine (greatest_c hx hy _).mono ?_); rintro e w' ⟨r, n, rfl, hr, rfl⟩) | (go_at_call 26; (with_reducible refine (parts_c hr _).mono ?_); rintro e w' ⟨r2, n, rfl, hr2, rfl⟩) | (go_at_call 28; (with_reducible refine (scale_c hx _ _).mono ?_); rintro e w' ⟨r3, n, rfl, hr3, rfl⟩) | (go_at_call 28; (with_reducible refine (scale_c hy _ _).mono ?_); rintro e w' ⟨r4, n, rfl, hr4, rfl⟩))
  go_ret2
  exact RetCI.mk _ (by unfold scN; rw [HK.out]; exact hr3) (by unfold scN; rw [HK.out]; exact hr4) rfl
theorem length_c : Calls Try.prog 39 #[.complex .f64 x y] w (RetF (lenF f g) w) := by
  have hb := partE_bd (greatF f g)
  have HK : RowKit.Hid (lenK f g = partE (greatF f g)) := Lib.hid rfl
  have HL := Lib.hid (lenF.eq_1 f g)
  cases h1 : isInf f 0
  · cases h2 : isInf g 0
    · cases h3 : isN f
      · cases h4 : isN g
        · cases h5 : feq (greatF f g) 0
          · have HE : RowKit.Hid (lenF f g = scaleF (fsqrt (sqF (scN f (lenK f g)) (scN g (lenK f g)))) (clampN (lenK f g))) := Lib.hid (by rw [HL.out, h1, h2, h3, h4, h5]; simp only [Bool.or_self, Bool.false_eq_true, if_false])
            have H1 := Lib.hid h1
            have H2 := Lib.hid h2
            have H3 := Lib.hid h3
            have H4 := Lib.hid h4
            have H5 := Lib.hid h5
            clear h1 h2 h3 h4 h5
            go_enter Try.func39, Try.ntmps39
            go_wp2_with (first | (go_at_call 104; (with_reducible refine (isInf_c hx _ _).mono ?_); rw [H1.out]; rintro e w' ⟨n, rfl, rfl⟩) | (go_at_call 104; (with_reducible refine (isInf_c hy _ _).mono ?_); rw [H2.out]; rintro e w' ⟨n, rfl, rfl⟩) | (go_at_call 94; (with_reducible refine (isNaN_c hx _).mono ?_); rw [H3.out]; rintro e w' ⟨n, rfl, rfl⟩) | (go_at_call 94; (with_reducible refine (isNaN_c hy _).mono ?_); rw [H4.out]; rintro e w' ⟨n, rfl, rfl⟩) | (go_at_call 105; (with_reducible refine (greatest_c hx hy _).mono ?_); rintro e w' ⟨r, n, rfl, hr, rfl⟩; have q := hr.eq' Rep.c0; rw [H5.out] at q) | (go_at_call 106; (with_reducible refine (scaled_c hx hy _).mono ?_); rintro e w' ⟨r1, r2, n, rfl, hr1, hr2, rfl⟩) | (go_at_call 51; (with_reducible refine (square_c hr1 hr2 _).mono ?_); rintro e w' ⟨r3, n, rfl, hr3, rfl⟩) | (go_at_call 107; (with_reducible refine (sqrt_c hr3 _).mono ?_); rintro e w' ⟨r4, n, rfl, hr4, rfl⟩) | (go_at_call 28; (with_reducible refine (scale_c hr4 _ _).mono ?_); rintro e w' ⟨r5, n, rfl, hr5, rfl⟩))
            go_ret
            exact RetF.mk _ (by rw [HE.out]; exact hr5)
          · have HE : RowKit.Hid (lenF f g = 0) := Lib.hid (by rw [HL.out, h1, h2, h3, h4, h5]; simp only [Bool.or_self, Bool.false_eq_true, if_false, if_true])
            have H1 := Lib.hid h1
            have H2 := Lib.hid h2
            have H3 := Lib.hid h3
            have H4 := Lib.hid h4
            have H5 := Lib.hid h5
            clear h1 h2 h3 h4 h5
            go_enter Try.func39, Try.ntmps39
            go_wp2_with (first | (go_at_call 104; (with_reducible refine (isInf_c hx _ _).mono ?_); rw [H1.out]; rintro e w' ⟨n, rfl, rfl⟩) | (go_at_call 104; (with_reducible refine (isInf_c hy _ _).mono ?_); rw [H2.out]; rintro e w' ⟨n, rfl, rfl⟩) | (go_at_call 94; (with_reducible refine (isNaN_c hx _).mono ?_); rw [H3.out]; rintro e w' ⟨n, rfl, rfl⟩) | (go_at_call 94; (with_reducible refine (isNaN_c hy _).mono ?_); rw [H4.out]; rintro e w' ⟨n, rfl, rfl⟩) | (go_at_call 105; (with_reducible refine (greatest_c hx hy _).mono ?_); rintro e w' ⟨r, n, rfl, hr, rfl⟩; have q := hr.eq' Rep.c0; rw [H5.out] at q) | (go_at_call 106; (with_reducible refine (scaled_c hx hy _).mono ?_); rintro e w' ⟨r1, r2, n, rfl, hr1, hr2, rfl⟩) | (go_at_call 51; (with_reducible refine (square_c hr1 hr2 _).mono ?_); rintro e w' ⟨r3, n, rfl, hr3, rfl⟩) | (go_at_call 107; (with_reducible refine (sqrt_c hr3 _).mono ?_); rintro e w' ⟨r4, n, rfl, hr4, rfl⟩) | (go_at_call 28; (with_reducible refine (scale_c hr4 _ _).mono ?_); rintro e w' ⟨r5, n, rfl, hr5, rfl⟩))
            go_ret
            exact RetF.mk _ (by rw [HE.out]; exact Rep.c0)
        · have HE : RowKit.Hid (lenF f g = nanB) := Lib.hid (by rw [HL.out, h1, h2, h3, h4]; simp only [Bool.or_self, Bool.or_true, Bool.false_eq_true, if_false, if_true])
          have H1 := Lib.hid h1
          have H2 := Lib.hid h2
          have H3 := Lib.hid h3
          have H4 := Lib.hid h4
          clear h1 h2 h3 h4
          go_enter Try.func39, Try.ntmps39
          go_wp2_with (first | (go_at_call 104; (with_reducible refine (isInf_c hx _ _).mono ?_); rw [H1.out]; rintro e w' ⟨n, rfl, rfl⟩) | (go_at_call 104; (with_reducible refine (isInf_c hy _ _).mono ?_); rw [H2.out]; rintro e w' ⟨n, rfl, rfl⟩) | (go_at_call 94; (with_reducible refine (isNaN_c hx _).mono ?_); rw [H3.out]; rintro e w' ⟨n, rfl, rfl⟩) | (go_at_call 94; (with_reducible refine (isNaN_c hy _).mono ?_); rw [H4.out]; rintro e w' ⟨n, rfl, rfl⟩) | (go_at_call 67; (with_reducible refine (nan_c _).mono ?_); rintro e w' ⟨r, n, rfl, hr, rfl⟩))
          go_ret
          exact RetF.mk _ (by rw [HE.out]; exact hr)
      · have HE : RowKit.Hid (lenF f g = nanB) := Lib.hid (by rw [HL.out, h1, h2, h3]; simp only [Bool.or_self, Bool.true_or, Bool.false_eq_true, if_false, if_true])
        have H1 := Lib.hid h1
        have H2 := Lib.hid h2
        have H3 := Lib.hid h3
        clear h1 h2 h3
        go_enter Try.func39, Try.ntmps39
        go_wp2_with (first | (go_at_call 104; (with_reducible refine (isInf_c hx _ _).mono ?_); rw [H1.out]; rintro e w' ⟨n, rfl, rfl⟩) | (go_at_call 104; (with_reducible refine (isInf_c hy _ _).mono ?_); rw [H2.out]; rintro e w' ⟨n, rfl, rfl⟩) | (go_at_call 94; (with_reducible refine (isNaN_c hx _).mono ?_); rw [H3.out]; rintro e w' ⟨n, rfl, rfl⟩) | (go_at_call 67; (with_reducible refine (nan_c _).mono ?_); rintro e w' ⟨r, n, rfl, hr, rfl⟩))
        go_ret
        exact RetF.mk _ (by rw [HE.out]; exact hr)
    · have HE : RowKit.Hid (lenF f g = infP) := Lib.hid (by rw [HL.out, h1, h2]; simp only [Bool.or_true, if_true])
      have H1 := Lib.hid h1
      have H2 := Lib.hid h2
      clear h1 h2
      go_enter Try.func39, Try.ntmps39
      go_wp2_with (first | (go_at_call 104; (with_reducible refine (isInf_c hx _ _).mono ?_); rw [H1.out]; rintro e w' ⟨n, rfl, rfl⟩) | (go_at_call 104; (with_reducible refine (isInf_c hy _ _).mono ?_); rw [H2.out]; rintro e w' ⟨n, rfl, rfl⟩) | (go_at_call 75; (with_reducible refine (inf_c _ _).mono ?_); rw [if_pos (by decide)]; rintro e w' ⟨r, n, rfl, hr, rfl⟩))
      go_ret
      exact RetF.mk _ (by rw [HE.out]; exact hr)
  · have HE : RowKit.Hid (lenF f g = infP) := Lib.hid (by rw [HL.out, h1]; simp only [Bool.true_or, if_true])
    have H1 := Lib.hid h1
    clear h1
    go_enter Try.func39, Try.ntmps39
    go_wp2_with (first | (go_at_call 104; (with_reducible refine (isInf_c hx _ _).mono ?_); rw [H1.out]; rintro e w' ⟨n, rfl, rfl⟩) | (go_at_call 75; (with_reducible refine (inf_c _ _).mono ?_); rw [if_pos (by decide)]; rintro e w' ⟨r, n, rfl, hr, rfl⟩))
    go_ret
    exact RetF.mk _ (by rw [HE.out]; exact hr)
include hz
theorem cscale_c : Calls Try.prog 48 #[.complex .f64 x y, .float .f64 z] w (RetC (fmul f h) (fmul g h) w) := by
  go_enter Try.func48, Try.ntmps48
  go_wp2
  go_ret
  exact RetC.mk _ (hx.mul hz) (hy.mul hz)
include ht
theorem cmul_c : Calls Try.prog 62 #[.complex .f64 x y, .complex .f64 z t] w (RetC (fsub (fmul f h) (fmul g k)) (fadd (fmul f k) (fmul g h)) w) := by
  go_enter Try.func62, Try.ntmps62
  go_wp2
  go_ret
  exact RetC.mk _ ((hx.mul hz).sub (hy.mul ht)) ((hx.mul ht).add (hy.mul hz))
theorem csub_c : Calls Try.prog 116 #[.complex .f64 x y, .complex .f64 z t] w (RetC (fsub f h) (fsub g k) w) := by
  go_enter Try.func116, Try.ntmps116
  go_wp2
  go_ret
  exact RetC.mk _ (hx.sub hz) (hy.sub ht)
end
end Go.Proofs.Ytcfkhhnkboealaa
