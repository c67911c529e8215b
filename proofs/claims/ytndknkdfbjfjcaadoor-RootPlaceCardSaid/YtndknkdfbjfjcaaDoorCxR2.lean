/- The document's roots, units, places, sines, sheets, powers are the program's. -/
import Derived.Test.YtndknkdfbjfjcaaDoorCxR
import Derived.Test.YtndknkdfbjfjcaaDoorRootC
namespace Go.Proofs.YtndknkdfbjfjcaaDoor
open Go.RowKit
set_option linter.unusedVariables false
set_option linter.unusedSimpArgs false
set_option maxRecDepth 100000
set_option maxHeartbeats 4000000
def RetFFG (f g : Nat) (w : World) (e : Ending) (w' : World) : Prop := ∃ r s, e = .returned (.tuple #[.float .f64 r, .float .f64 s]) ∧ Rep r f ∧ Rep s g ∧ Grown w w'
def RetCBG (f g : Nat) (b : Bool) (w : World) (e : Ending) (w' : World) : Prop := ∃ r s, e = .returned (.tuple #[.complex .f64 r s, .bool b]) ∧ Rep r f ∧ Rep s g ∧ Grown w w'
def RetBG (b : Bool) (w : World) (e : Ending) (w' : World) : Prop := e = .returned (.bool b) ∧ Grown w w'
theorem xor_bits (x : Nat) (h : x < 18446744073709551616) : bits .xor .u64 (x : Int) 9223372036854775808 = ((x ^^^ 9223372036854775808 : Nat) : Int) := by
  have hlt : x ^^^ 9223372036854775808 < 18446744073709551616 := Nat.xor_lt_two_pow (n := 64) h (by decide)
  show IntKind.u64.wrap ((BitVec.ofInt 64 (x : Int) ^^^ BitVec.ofInt 64 (9223372036854775808 : Int)).toNat : Int) = _
  rw [BitVec.toNat_xor, BitVec.ofInt_natCast, BitVec.toNat_ofNat, show (BitVec.ofInt 64 9223372036854775808).toNat = 9223372036854775808 from by decide +kernel, IntKind.wrap_u64]
  rw [Nat.mod_eq_of_lt (a := x) (by simpa using h)]
  generalize x ^^^ 9223372036854775808 = y at *
  omega
section
variable {x y z t f g h k : Nat} (hx : Rep x f) (hy : Rep y g) (hz : Rep z h) (ht : Rep t k) (w : World)
include hx
theorem turned_c : Calls Tryd.prog 86 #[.float .f64 x] w (RetF (fneg f) w) := by
  have HB := Lib.hid (xor_bits x hx.lt)
  go_enter Tryd.func86, Tryd.ntmps86
  go_wp2_with (simp only [HB.out])
  go_ret
  exact RetF.mk0 hx.neg
include hy
theorem unitYes_c (h1 : (fin f && fin g) = true) (h2 : feq (greatF f g) 0 = false) : Calls Tryd.prog 48 #[.complex .f64 x y] w (RetCB (unitX f g) (unitY f g) true w) := by
  have H1 := Lib.hid h1
  have H2 := Lib.hid h2
  have UX := Lib.hid (unitX.eq_1 f g)
  have UY := Lib.hid (unitY.eq_1 f g)
  clear h1 h2
  go_enter Tryd.func48, Tryd.ntmps48
  go_wp2_with (first | (go_at_call 88; (with_reducible refine (cfinite_c hx hy _).mono ?_); rw [H1.out]; rintro e w' ⟨n1, rfl, rfl⟩) | (go_at_call 96; (with_reducible refine (greatest_c hx hy _).mono ?_); rintro e w' ⟨r, n, rfl, hr, rfl⟩; have q := hr.eq' Rep.c0; rw [H2.out] at q) | (go_at_call 97; (with_reducible refine (scaled_c hx hy _).mono ?_); rintro e w' ⟨r1, r2, n, rfl, hr1, hr2, rfl⟩) | (go_at_call 52; (with_reducible refine (square_c hr1 hr2 _).mono ?_); rintro e w' ⟨r3, n, rfl, hr3, rfl⟩) | (go_at_call 98; (with_reducible refine (sqrt_c hr3 _).mono ?_); rintro e w' ⟨r4, n, rfl, hr4, rfl⟩))
  go_ret2
  exact RetCB.mk _ (by rw [UX.out]; exact hr1.quo hr4) (by rw [UY.out]; exact hr2.quo hr4) rfl
theorem unitNo1_c (h1 : (fin f && fin g) = false) : Calls Tryd.prog 48 #[.complex .f64 x y] w (RetCB 0 0 false w) := by
  have H1 := Lib.hid h1
  clear h1
  go_enter Tryd.func48, Tryd.ntmps48
  go_wp2_with (first | (go_at_call 88; (with_reducible refine (cfinite_c hx hy _).mono ?_); rw [H1.out]; rintro e w' ⟨n1, rfl, rfl⟩))
  go_ret2
  exact RetCB.mk _ Rep.c0 Rep.c0 rfl
theorem unitNo2_c (h1 : (fin f && fin g) = true) (h2 : feq (greatF f g) 0 = true) : Calls Tryd.prog 48 #[.complex .f64 x y] w (RetCB 0 0 false w) := by
  have H1 := Lib.hid h1
  have H2 := Lib.hid h2
  clear h1 h2
  go_enter Tryd.func48, Tryd.ntmps48
  go_wp2_with (first | (go_at_call 88; (with_reducible refine (cfinite_c hx hy _).mono ?_); rw [H1.out]; rintro e w' ⟨n1, rfl, rfl⟩) | (go_at_call 96; (with_reducible refine (greatest_c hx hy _).mono ?_); rintro e w' ⟨r, n, rfl, hr, rfl⟩; have q := hr.eq' Rep.c0; rw [H2.out] at q))
  go_ret2
  exact RetCB.mk _ Rep.c0 Rep.c0 rfl
/-- where a number has a unit. -/
def unitB (f g : Nat) : Bool := fin f && fin g && !feq (greatF f g) 0
theorem unit_c : Calls Tryd.prog 48 #[.complex .f64 x y] w (RetCB (if unitB f g then unitX f g else 0) (if unitB f g then unitY f g else 0) (unitB f g) w) := by
  have e : unitB f g = (fin f && fin g && !feq (greatF f g) 0) := rfl
  cases h1 : fin f && fin g
  · rw [e, h1]; exact unitNo1_c hx hy w h1
  · cases h2 : feq (greatF f g) 0
    · rw [e, h1, h2]; exact unitYes_c hx hy w h1 h2
    · rw [e, h1, h2]; exact unitNo2_c hx hy w h1 h2
theorem polar_c : Calls Tryd.prog 46 #[.complex .f64 x y] w (RetFF (lenF f g) (clogY f g) w) := by
  go_enter Tryd.func46, Tryd.ntmps46
  go_wp2_with (first | (go_at_call 50; (with_reducible refine (length_c hx hy _).mono ?_); rintro e w' ⟨r, n, rfl, hr, rfl⟩) | (go_at_call 94; (with_reducible refine (of_c hx hy _).mono ?_); rintro e w' ⟨r1, n1, rfl, hr1, rfl⟩))
  go_ret2
  exact RetFF.mk _ hr hr1
theorem place_c : Calls Tryd.prog 58 #[.float .f64 x, .float .f64 y] w (RetCG (fmul f (turnC g)) (fmul f (turnS g)) w) := by
  go_enter Tryd.func58, Tryd.ntmps58
  go_wp2_with (first | (go_at_call 81; (with_reducible refine (turn_c hy _).mono ?_); rintro e w' ⟨r, s, rfl, hr, hs, hg⟩))
  go_ret
  exact ⟨_, _, rfl, hx.mul hs, hx.mul hr, gr_drewN _ hg⟩
theorem refPlace_c : Calls Tryd.prog 59 #[.float .f64 x, .float .f64 y] w (RetC (fmul f (turnC g)) (fmul f (turnS g)) w) := by
  go_enter Tryd.func59, Tryd.ntmps59
  go_wp2_with (first | (go_at_call 83; (with_reducible refine (refTurn_c hy _).mono ?_); rintro e w' ⟨r, s, n, rfl, hr, hs, rfl⟩))
  go_ret
  exact RetC.mk _ (hx.mul hs) (hx.mul hr)
theorem refPolar_c (hT : TabAt w) (htab : 1 < w.heap.size) : Calls Tryd.prog 47 #[.complex .f64 x y] w (RetFFG (lenF f g) (clogY f g) w) := by
  have HT := Lib.hid hT
  have HO : RowKit.Hid (ofR g f = clogY f g) := Lib.hid (by unfold clogY; exact ofR_eq g f)
  clear hT
  go_enter Tryd.func47, Tryd.ntmps47
  go_wp2_with (first | (go_at_call 51; (with_reducible refine (refLength_c hx hy _ HT.out htab).mono ?_); rintro e w' ⟨r, rfl, hr, hg⟩; have HG := Lib.hid hg; clear hg) | (go_at_call 95; (with_reducible refine (refOf_c hx hy _).mono ?_); rintro e w' ⟨r3, n3, rfl, hr3, rfl⟩))
  go_ret2
  exact ⟨_, _, rfl, hr, by rw [← HO.out]; exact hr3, gr_drewN _ HG.out⟩
theorem refUnitYes_c (h1 : (fin f && fin g) = true) (h2 : feq (greatF f g) 0 = false) (hT : TabAt w) (htab : 1 < w.heap.size) : Calls Tryd.prog 49 #[.complex .f64 x y] w (RetCBG (unitX f g) (unitY f g) true w) := by
  have hb := partE_bd (greatF f g)
  have HK : RowKit.Hid (partE (greatF f g) = lenK f g) := Lib.hid rfl
  have H1 := Lib.hid h1
  have H2 := Lib.hid h2
  have UX := Lib.hid (unitX.eq_1 f g)
  have UY := Lib.hid (unitY.eq_1 f g)
  have HT := Lib.hid hT
  clear h1 h2 hT
  go_enter Tryd.func49, Tryd.ntmps49
  go_wp2_with (first | (go_at_call 99; (with_reducible refine (refGreater_c hx hy _).mono ?_); rintro e w' ⟨r, r0, n5, rfl, hr, hr0, rfl⟩; have q := hr.eq' Rep.c0; rw [H2.out] at q) | (go_at_call 91; (with_reducible refine (refCFin_c hx hy _).mono ?_); rw [H1.out]; rintro e w' ⟨n1, rfl, rfl⟩) | (go_at_call 23; (with_reducible refine (refParts_c hr _).mono ?_); rintro e w' ⟨r2, n6, rfl, hr2, rfl⟩) | (go_at_call 29; (with_reducible refine (refScale_c _ hx (tab_drew _ HT.out) (sz_drew _ htab)).mono ?_); rintro e w' ⟨r3, rfl, hr3, hg3⟩; have HT3 := Lib.hid (gr_tab hg3 (tab_drew _ HT.out) (sz_drew _ htab)); have ht3 := Nat.lt_of_lt_of_le (sz_drew _ htab) hg3.2.2; have HG3 := Lib.hid (gr_trans (gr_drewN _ (Grown.refl w)) hg3); clear hg3) | (go_at_call 29; (with_reducible refine (refScale_c _ hy HT3.out ht3).mono ?_); rintro e w' ⟨r4, rfl, hr4, hg4⟩; have HG4 := Lib.hid (gr_trans HG3.out hg4); clear hg4) | (go_at_call 100; (with_reducible refine (together_c hr3 hr4 _).mono ?_); rintro e w' ⟨r5, n7, rfl, hr5, rfl⟩))
  go_ret2
  exact ⟨_, _, rfl, by rw [UX.out]; exact hr3.quo hr5, by rw [UY.out]; exact hr4.quo hr5, gr_drewN _ HG4.out⟩
theorem refUnitNo1_c (h1 : (fin f && fin g) = false) : Calls Tryd.prog 49 #[.complex .f64 x y] w (RetCBG 0 0 false w) := by
  have H1 := Lib.hid h1
  clear h1
  go_enter Tryd.func49, Tryd.ntmps49
  go_wp2_with (first | (go_at_call 99; (with_reducible refine (refGreater_c hx hy _).mono ?_); rintro e w' ⟨r, r0, n5, rfl, hr, hr0, rfl⟩) | (go_at_call 91; (with_reducible refine (refCFin_c hx hy _).mono ?_); rw [H1.out]; rintro e w' ⟨n1, rfl, rfl⟩))
  go_ret2
  exact ⟨_, _, rfl, Rep.c0, Rep.c0, gr_drewN _ (Grown.refl w)⟩
theorem refUnitNo2_c (h1 : (fin f && fin g) = true) (h2 : feq (greatF f g) 0 = true) : Calls Tryd.prog 49 #[.complex .f64 x y] w (RetCBG 0 0 false w) := by
  have H1 := Lib.hid h1
  have H2 := Lib.hid h2
  clear h1 h2
  go_enter Tryd.func49, Tryd.ntmps49
  go_wp2_with (first | (go_at_call 99; (with_reducible refine (refGreater_c hx hy _).mono ?_); rintro e w' ⟨r, r0, n5, rfl, hr, hr0, rfl⟩; have q := hr.eq' Rep.c0; rw [H2.out] at q) | (go_at_call 91; (with_reducible refine (refCFin_c hx hy _).mono ?_); rw [H1.out]; rintro e w' ⟨n1, rfl, rfl⟩))
  go_ret2
  exact ⟨_, _, rfl, Rep.c0, Rep.c0, gr_drewN _ (Grown.refl w)⟩
theorem refUnit_c (hT : TabAt w) (htab : 1 < w.heap.size) : Calls Tryd.prog 49 #[.complex .f64 x y] w (RetCBG (if unitB f g then unitX f g else 0) (if unitB f g then unitY f g else 0) (unitB f g) w) := by
  have e : unitB f g = (fin f && fin g && !feq (greatF f g) 0) := rfl
  cases h1 : fin f && fin g
  · rw [e, h1]; exact refUnitNo1_c hx hy w h1
  · cases h2 : feq (greatF f g) 0
    · rw [e, h1, h2]; exact refUnitYes_c hx hy w h1 h2 hT htab
    · rw [e, h1, h2]; exact refUnitNo2_c hx hy w h1 h2
include hz ht
theorem refCSub_c : Calls Tryd.prog 109 #[.complex .f64 x y, .complex .f64 z t] w (RetC (fsub f h) (fsub g k) w) := by
  go_enter Tryd.func109, Tryd.ntmps109
  go_wp2_with (first | (go_at_call 84; (with_reducible refine (refMk_c (hx.sub hz) (hy.sub ht) _).mono ?_); rintro e w' ⟨r4, r5, n4, rfl, hr4, hr5, rfl⟩))
  go_ret
  exact RetC.mk _ hr4 hr5
theorem refCSame_c : Calls Tryd.prog 105 #[.complex .f64 x y, .complex .f64 z t] w (RetB ((f == h) && (g == k)) w) := by
  cases h1 : (f == h)
  all_goals
    have H1 := Lib.hid h1
    clear h1
    go_enter Tryd.func105, Tryd.ntmps105
    go_wp2_with (first | (go_at_call 12; (with_reducible refine (refSame_c hx hz _).mono ?_); rw [H1.out]; rintro e w' ⟨n, rfl, rfl⟩) | (go_at_call 12; (with_reducible refine (refSame_c hy ht _).mono ?_); rintro e w' ⟨n, rfl, rfl⟩))
    go_ret
    exact RetB.mk _ (by simp)
theorem refSame7_c : Calls Tryd.prog 33 #[.complex .f64 x y, .complex .f64 z t] w (RetB ((f == h) && (g == k)) w) := by
  cases h1 : (f == h)
  all_goals
    have H1 := Lib.hid h1
    clear h1
    go_enter Tryd.func33, Tryd.ntmps33
    go_wp2_with (first | (go_at_call 12; (with_reducible refine (refSame_c hx hz _).mono ?_); rw [H1.out]; rintro e w' ⟨n, rfl, rfl⟩) | (go_at_call 12; (with_reducible refine (refSame_c hy ht _).mono ?_); rintro e w' ⟨n, rfl, rfl⟩))
    go_ret
    exact RetB.mk _ (by simp)
theorem near_c {v m : Nat} (hv : Rep v m) : Calls Tryd.prog 60 #[.complex .f64 x y, .complex .f64 z t, .float .f64 v] w (RetB (fle (lenF (fsub f h) (fsub g k)) m) w) := by
  cases h1 : fle (lenF (fsub f h) (fsub g k)) m
  all_goals
    have H1 := Lib.hid h1
    clear h1
    go_enter Tryd.func60, Tryd.ntmps60
    go_wp2_with (first | (go_at_call 108; (with_reducible refine (csub_c hx hy hz ht _).mono ?_); rintro e w' ⟨r4, r5, n4, rfl, hr4, hr5, rfl⟩) | (go_at_call 50; (with_reducible refine (length_c hr4 hr5 _).mono ?_); rintro e w' ⟨r, n, rfl, hr, rfl⟩; have q := hr.le' hv; rw [H1.out] at q))
    go_ret
    exact RetB.mk _ rfl
theorem refNear_c {v m : Nat} (hv : Rep v m) (hT : TabAt w) (htab : 1 < w.heap.size) : Calls Tryd.prog 61 #[.complex .f64 x y, .complex .f64 z t, .float .f64 v] w (RetBG (fle (lenF (fsub f h) (fsub g k)) m) w) := by
  have HT := Lib.hid hT
  clear hT
  cases h1 : fle (lenF (fsub f h) (fsub g k)) m
  all_goals
    have H1 := Lib.hid h1
    clear h1
    go_enter Tryd.func61, Tryd.ntmps61
    go_wp2_with (first | (go_at_call 109; (with_reducible refine (refCSub_c hx hy hz ht _).mono ?_); rintro e w' ⟨r4, r5, n4, rfl, hr4, hr5, rfl⟩) | (go_at_call 51; (with_reducible refine (refLength_c hr4 hr5 _ (tab_drew _ HT.out) (sz_drew _ htab)).mono ?_); rintro e w' ⟨r, rfl, hr, hg⟩; have q := hr.le' hv; rw [H1.out] at q; have HG := Lib.hid (gr_trans (gr_drewN _ (Grown.refl w)) hg); clear hg))
    go_ret
    exact ⟨rfl, HG.out⟩
end
end Go.Proofs.YtndknkdfbjfjcaaDoor
