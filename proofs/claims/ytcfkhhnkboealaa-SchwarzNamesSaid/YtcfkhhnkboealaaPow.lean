/- Complex exponentials, logarithms and powers: what the program's functions come to. No condition. -/
import Derived.Test.YtcfkhhnkboealaaCx
import Derived.Test.YtcfkhhnkboealaaExl
import Derived.Test.YtcfkhhnkboealaaAngb
namespace Go.Proofs.Ytcfkhhnkboealaa
open Go.RowKit
set_option linter.unusedVariables false
set_option linter.unusedSimpArgs false
set_option maxRecDepth 100000
set_option maxHeartbeats 4000000

def cexpX (f g : Nat) : Nat := if feq g 0 then expF f else fmul (expF f) (turnC g)
def cexpY (f g : Nat) : Nat := if feq g 0 then g else fmul (expF f) (turnS g)
def clogX (f g : Nat) : Nat := logF (lenF f g)
def clogY (f g : Nat) : Nat := ofF g f
def crealX (f g p : Nat) : Nat := if feq p 0 then 4607182418800017408 else cexpX (fmul (clogX f g) p) (fmul (clogY f g) p)
def crealY (f g p : Nat) : Nat := if feq p 0 then 0 else cexpY (fmul (clogX f g) p) (fmul (clogY f g) p)
def mulX (f g h k : Nat) : Nat := fsub (fmul f h) (fmul g k)
def mulY (f g h k : Nat) : Nat := fadd (fmul f k) (fmul g h)
def cpowX (f g h k : Nat) : Nat := if feq h 0 && feq k 0 then 4607182418800017408 else cexpX (mulX h k (clogX f g) (clogY f g)) (mulY h k (clogX f g) (clogY f g))
def cpowY (f g h k : Nat) : Nat := if feq h 0 && feq k 0 then 0 else cexpY (mulX h k (clogX f g) (clogY f g)) (mulY h k (clogX f g) (clogY f g))
section
variable {x y z t f g h k : Nat} (hx : Rep x f) (hy : Rep y g) (hz : Rep z h) (ht : Rep t k) (w : World)
include hx hy
theorem cexp_c : Calls Try.prog 58 #[.complex .f64 x y] w (RetCG (cexpX f g) (cexpY f g) w) := by
  have q := hy.eq' Rep.c0
  have HX := Lib.hid (cexpX.eq_1 f g)
  have HY := Lib.hid (cexpY.eq_1 f g)
  cases h1 : feq g 0
  all_goals
    rw [h1] at q
    have H1 := Lib.hid h1
    clear h1
    go_enter Try.func58, Try.ntmps58
    go_wp2_with (first | (go_at_call 119; (with_reducible refine (exp_c hx _).mono ?_); rintro e w' ⟨r, n, rfl, hr, rfl⟩) | (go_at_call 115; (with_reducible refine (turn_c hy _).mono ?_); rintro e w' ⟨s, c, rfl, hs, hc, hg⟩))
    go_ret
  · exact ⟨_, _, rfl, by rw [HX.out, H1.out]; exact hr.mul hc, by rw [HY.out, H1.out]; exact hr.mul hs, grown_drewN' _ hg⟩
  · exact ⟨_, _, rfl, by rw [HX.out, H1.out]; exact hr, by rw [HY.out, H1.out]; exact hy, grown_drewN _ _⟩
theorem clog_c : Calls Try.prog 57 #[.complex .f64 x y] w (RetC (clogX f g) (clogY f g) w) := by
  go_enter Try.func57, Try.ntmps57
  go_wp2_with (first | (go_at_call 39; (with_reducible refine (length_c hx hy _).mono ?_); rintro e w' ⟨r, n, rfl, hr, rfl⟩) | (go_at_call 120; (with_reducible refine (log_c hr _).mono ?_); rintro e w' ⟨r2, n, rfl, hr2, rfl⟩) | (go_at_call 114; (with_reducible refine (of_c hx hy _).mono ?_); rintro e w' ⟨r3, n, rfl, hr3, rfl⟩))
  go_ret
  exact RetC.mk _ hr2 hr3
include hz
theorem creal_c : Calls Try.prog 60 #[.complex .f64 x y, .float .f64 z] w (RetCG (crealX f g h) (crealY f g h) w) := by
  have q := hz.eq' Rep.c0
  have HX := Lib.hid (crealX.eq_1 f g h)
  have HY := Lib.hid (crealY.eq_1 f g h)
  cases h1 : feq h 0
  all_goals
    rw [h1] at q
    have H1 := Lib.hid h1
    clear h1
    go_enter Try.func60, Try.ntmps60
    go_wp2_with (first | (go_at_call 57; (with_reducible refine (clog_c hx hy _).mono ?_); rintro e w' ⟨r, s, n, rfl, hr, hs, rfl⟩) | (go_at_call 48; (with_reducible refine (cscale_c hr hs hz _).mono ?_); rintro e w' ⟨r2, s2, n, rfl, hr2, hs2, rfl⟩) | (go_at_call 58; (with_reducible refine (cexp_c hr2 hs2 _).mono ?_); rintro e w' ⟨r3, s3, rfl, hr3, hs3, hg⟩))
    go_ret
  · exact ⟨_, _, rfl, by rw [HX.out, H1.out]; exact hr3, by rw [HY.out, H1.out]; exact hs3, hg⟩
  · exact ⟨_, _, rfl, by rw [HX.out, H1.out]; exact Rep.cone, by rw [HY.out, H1.out]; exact Rep.c0, Grown.refl _⟩
include ht
end
end Go.Proofs.Ytcfkhhnkboealaa
