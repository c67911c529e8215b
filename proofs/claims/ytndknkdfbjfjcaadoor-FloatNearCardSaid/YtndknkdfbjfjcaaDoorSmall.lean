/- What the least functions on floats come to: signs, sameness, finiteness, of the program and of the document's answer. No condition. -/
import Derived.Test.YtndknkdfbjfjcaaDoorBase
import Derived.Test.YtndknkdfbjfjcaaDoorIe
import Derived.Lib.Hide
namespace Go.Proofs.YtndknkdfbjfjcaaDoor
set_option linter.unusedVariables false
set_option maxRecDepth 100000

theorem toNat_of {b : Int} {n : Nat} (h : b = (n : Int)) : b.toNat = n := by subst h; exact Int.toNat_natCast n
@[go_sem] theorem andNot_nat (x : Nat) : (bits .andNot .u64 (x : Int) 9223372036854775808).toNat = x % 9223372036854775808 := by
  have h := bits_andNot_sign x
  generalize bits .andNot .u64 (x : Int) 9223372036854775808 = b at h
  generalize x % 9223372036854775808 = n at h
  exact toNat_of h
theorem wrap64_sgn (x : Nat) (h : x < 18446744073709551616) : decide (RowKit.wrap64 (x : Int) < 0) = sgn x := by
  unfold RowKit.wrap64
  unfold sgn
  rw [Bool.eq_iff_iff]
  simp
  omega
theorem shr_sign (x : Nat) (h : x < 18446744073709551616) : (((x : Int) / 9223372036854775808) == 1) = sgn x := by
  unfold sgn
  rw [Bool.eq_iff_iff]
  simp
  omega
def maxF : Nat := 9218868437227405311
def fin (f : Nat) : Bool := decide (rung f < 9218868437227405312)
def within (f m : Nat) : Bool := fle (fabs f) m
def minus (f : Nat) : Bool := !isN f && sgn f
def signed (f g : Nat) : Nat := if isN f then nanB else if minus g then rung f + 9223372036854775808 else rung f

theorem isN_max : isN 9218868437227405311 = false := by decide +kernel
theorem fin_abs (f : Nat) : fle (fabs f) 9218868437227405311 = fin f := by
  rw [fle_eq, isN_abs, isN_max]
  unfold fin
  cases h : isN f
  · rw [sval_abs h]
    have e : sval 9218868437227405311 = ((mval 9218868437227405311 : Nat) : Int) := by
      unfold sval; rw [show sgn 9218868437227405311 = false by decide +kernel, show rung 9218868437227405311 = 9218868437227405311 by decide +kernel]; rfl
    rw [e, Bool.eq_iff_iff]
    have := @mval_le_iff (rung f) 9218868437227405311
    simp only [Bool.not_false, Bool.true_and, decide_eq_true_eq, Int.ofNat_le, this]
    omega
  · rw [isN_iff] at h
    unfold rung
    rw [Bool.eq_iff_iff]; simp; omega
theorem fin_ref (f : Nat) (hl : f < 18446744073709551616) : (!(isN f) && !(flt 9218868437227405311 f || flt f 18442240474082181119)) = fin f := by
  rw [← fin_abs, flt_eq, flt_eq, fle_eq, isN_abs, isN_max, show isN 18442240474082181119 = false by decide +kernel]
  have e : sval 9218868437227405311 = ((mval 9218868437227405311 : Nat) : Int) := by
    unfold sval; rw [show sgn 9218868437227405311 = false by decide +kernel, show rung 9218868437227405311 = 9218868437227405311 by decide +kernel]; rfl
  have e2 : sval 18442240474082181119 = -((mval 9218868437227405311 : Nat) : Int) := by
    unfold sval; rw [show sgn 18442240474082181119 = true by decide +kernel, show rung 18442240474082181119 = 9218868437227405311 by decide +kernel]; rfl
  cases h : isN f
  · rw [sval_abs h, e, e2, Bool.eq_iff_iff]
    rcases sval_cases f with ⟨_, h⟩ | ⟨_, h⟩ <;> rw [h] <;> simp <;> omega
  · simp
theorem within_ref (f m : Nat) (hl : f < 18446744073709551616) : (fle f m && fle (fneg f) m) = within f m := by
  unfold within
  rw [fle_eq, fle_eq, fle_eq, isN_abs, isN_neg]
  cases h : isN f
  · rw [sval_abs h, sval_neg hl h]
    rw [Bool.eq_iff_iff]
    rcases sval_cases f with ⟨_, h⟩ | ⟨_, h⟩ <;> rw [h] <;> cases isN m <;> simp <;> omega
  · simp

theorem RetB.mk {b c : Bool} {w : World} (n : Nat) (h : b = c) : RetB c w (.returned (.bool b)) (w.drewN n) := ⟨n, by rw [h], rfl⟩
theorem RetB.mk0 {b c : Bool} {w : World} (h : b = c) : RetB c w (.returned (.bool b)) w := ⟨0, by rw [h], rfl⟩
theorem RetF.mk {r f : Nat} {w : World} (n : Nat) (h : Rep r f) : RetF f w (.returned (.float .f64 r)) (w.drewN n) := ⟨r, n, rfl, h, rfl⟩
theorem RetF.mk0 {r f : Nat} {w : World} (h : Rep r f) : RetF f w (.returned (.float .f64 r)) w := ⟨r, 0, rfl, h, rfl⟩
theorem RetI.mk {k : IntKind} {b c : Int} {w : World} (n : Nat) (h : b = c) : RetI k c w (.returned (.int k b)) (w.drewN n) := ⟨n, by rw [h], rfl⟩
theorem RetI.mk0 {k : IntKind} {b c : Int} {w : World} (h : b = c) : RetI k c w (.returned (.int k b)) w := ⟨0, by rw [h], rfl⟩
theorem Rep.c0 : Rep 0 0 := Rep.self (by decide) (by decide +kernel)
theorem Rep.cmax : Rep 9218868437227405311 9218868437227405311 := Rep.self (by decide) (by decide +kernel)
theorem Rep.cmin : Rep 18442240474082181119 18442240474082181119 := Rep.self (by decide) (by decide +kernel)
theorem Rep.lt' {x y f g : Nat} (hx : Rep x f) (hy : Rep y g) : (FloatKind.f64.format.order x y == some .lt) = Proofs.YtndknkdfbjfjcaaDoor.flt f g := by
  show (Ieee.double.order x y == some .lt) = _
  rw [hx.order hy]; rfl
theorem Rep.le' {x y f g : Nat} (hx : Rep x f) (hy : Rep y g) : (FloatKind.f64.format.order x y == some .lt || FloatKind.f64.format.order x y == some .eq) = fle f g := by
  show (Ieee.double.order x y == some .lt || Ieee.double.order x y == some .eq) = _
  rw [hx.order hy]; rfl
theorem Rep.eq' {x y f g : Nat} (hx : Rep x f) (hy : Rep y g) : (FloatKind.f64.format.order x y == some .eq) = feq f g := by
  show (Ieee.double.order x y == some .eq) = _
  rw [hx.order hy]; rfl
theorem Rep.ne' {x y f g : Nat} (hx : Rep x f) (hy : Rep y g) : (FloatKind.f64.format.order x y != some .eq) = !feq f g := by
  show (Ieee.double.order x y != some .eq) = _
  rw [hx.order hy]; rfl
theorem Rep.gt' {x y f g : Nat} (hx : Rep x f) (hy : Rep y g) : (FloatKind.f64.format.order x y == some .gt) = Proofs.YtndknkdfbjfjcaaDoor.flt g f := by
  show (Ieee.double.order x y == some .gt) = _
  rw [hx.order hy, fgt_eq]
theorem Rep.ge' {x y f g : Nat} (hx : Rep x f) (hy : Rep y g) : (FloatKind.f64.format.order x y == some .gt || FloatKind.f64.format.order x y == some .eq) = fle g f := by
  show (Ieee.double.order x y == some .gt || Ieee.double.order x y == some .eq) = _
  rw [hx.order hy, fge_eq]
theorem Rep.none' {x f : Nat} (hx : Rep x f) : (FloatKind.f64.format.order x x != some .eq) = isN f := by
  rw [hx.ne' hx, feq_self, Bool.not_not]
theorem Rep.some' {x f : Nat} (hx : Rep x f) : (FloatKind.f64.format.order x x == some .eq) = !isN f := by
  rw [hx.eq' hx, feq_self]

section
variable {x y f g : Nat} (hx : Rep x f) (hy : Rep y g) (w : World)
include hx
theorem abs_c : Calls Tryd.prog 68 #[.float .f64 x] w (RetF (fabs f) w) := by
  go_enter Tryd.func68, Tryd.ntmps68
  go_wp2
  go_ret
  exact RetF.mk0 hx.abs
theorem signbit_c : Calls Tryd.prog 137 #[.float .f64 x] w (RetB (sgn x) w) := by
  have hs := Lib.hid (wrap64_sgn x hx.lt)
  go_enter Tryd.func137, Tryd.ntmps137
  go_wp2
  go_ret
  exact RetB.mk0 hs.out
theorem finite_c : Calls Tryd.prog 130 #[.float .f64 x] w (RetB (fin f) w) := by
  go_enter Tryd.func130, Tryd.ntmps130
  go_wp2_with (go_at_call 68; refine (abs_c hx _).mono ?_; rintro e w' ⟨r, n, rfl, hr, rfl⟩)
  all_goals go_ret
  exact RetB.mk n ((hr.le' Rep.cmax).trans (fin_abs f))
theorem none_c : Calls Tryd.prog 64 #[.float .f64 x] w (RetB (isN f) w) := by
  go_enter Tryd.func64, Tryd.ntmps64
  go_wp2
  all_goals go_ret
  exact RetB.mk0 hx.none'
theorem endless_c : Calls Tryd.prog 141 #[.float .f64 x] w (RetB (flt 9218868437227405311 f || flt f 18442240474082181119) w) := by
  have h1 := Lib.hid (hx.gt' Rep.cmax)
  have h2 := Lib.hid (hx.lt' Rep.cmin)
  go_enter Tryd.func141, Tryd.ntmps141
  go_wp2
  all_goals go_ret
  · rename_i h
    refine RetB.mk0 ?_
    rw [← h1.out, ← h2.out]
    rw [h]; rfl
  · rename_i h
    refine RetB.mk0 ?_
    rw [← h1.out, ← h2.out]
theorem refFinite_c : Calls Tryd.prog 113 #[.float .f64 x] w (RetB (fin f) w) := by
  have hf := Lib.hid (fin_ref f hx.flt)
  cases hn : isN f
  all_goals
    have hn' := Lib.hid hn
    clear hn
    go_enter Tryd.func113, Tryd.ntmps113
    go_wp2_with (first | (go_at_call 64; refine (none_c hx _).mono ?_; rw [hn'.out]; rintro e w' ⟨n, rfl, rfl⟩) | (go_at_call 141; refine (endless_c hx _).mono ?_; rintro e w' ⟨n2, rfl, rfl⟩))
    all_goals go_ret
    exact RetB.mk _ (by rw [← hf.out, hn'.out]; simp)
end
end Go.Proofs.YtndknkdfbjfjcaaDoor
