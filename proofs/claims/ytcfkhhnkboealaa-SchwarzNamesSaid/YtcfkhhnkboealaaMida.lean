/- What the least functions on floats come to: signs, sameness, finiteness, of the program and of the document's answer. No condition. What sameness, signs and bounds of floats come to, of the program and of the document's answer. No condition. What the library's plain functions on floats come to: infinities, copied signs, neighbours. No condition. What the parts of floats, powers of two times floats, neighbours, sums of two with their loss come to. No condition. What the program's own functions on floats come to: parts, scales, whole ones, sums with their loss. No condition. -/
import Derived.Test.YtcfkhhnkboealaaFla
import Derived.Lib.Hide
namespace Go.Proofs.Ytcfkhhnkboealaa
set_option linter.unusedVariables false
set_option maxRecDepth 100000

theorem toNat_of {b : Int} {n : Nat} (h : b = (n : Int)) : b.toNat = n := by subst h; exact Int.toNat_natCast n
@[go_sem] theorem andNot_nat (x : Nat) : (bits .andNot .u64 (x : Int) 9223372036854775808).toNat = x % 9223372036854775808 := by
  have h := bits_andNot_sign x
  generalize bits .andNot .u64 (x : Int) 9223372036854775808 = b at h
  generalize x % 9223372036854775808 = n at h
  exact toNat_of h
theorem wrap64_sgn (x : Nat) (h : x < 18446744073709551616) : decide (RowKit.wrap64 (x : Int) < 0) = sgn x := by
  unfold RowKit.wrap64
  unfold sgn
  rw [Bool.eq_iff_iff]
  simp
  omega
theorem shr_sign (x : Nat) (h : x < 18446744073709551616) : (((x : Int) / 9223372036854775808) == 1) = sgn x := by
  unfold sgn
  rw [Bool.eq_iff_iff]
  simp
  omega
def maxF : Nat := 9218868437227405311
def fin (f : Nat) : Bool := decide (rung f < 9218868437227405312)
def within (f m : Nat) : Bool := fle (fabs f) m
def minus (f : Nat) : Bool := !isN f && sgn f
def signed (f g : Nat) : Nat := if isN f then nanB else if minus g then rung f + 9223372036854775808 else rung f

theorem isN_max : isN 9218868437227405311 = false := by decide +kernel
theorem fin_abs (f : Nat) : fle (fabs f) 9218868437227405311 = fin f := by
  rw [fle_eq, isN_abs, isN_max]
  unfold fin
  cases h : isN f
  · rw [sval_abs h]
    have e : sval 9218868437227405311 = ((mval 9218868437227405311 : Nat) : Int) := by
      unfold sval; rw [show sgn 9218868437227405311 = false by decide +kernel, show rung 9218868437227405311 = 9218868437227405311 by decide +kernel]; rfl
    rw [e, Bool.eq_iff_iff]
    have := @mval_le_iff (rung f) 9218868437227405311
    simp only [Bool.not_false, Bool.true_and, decide_eq_true_eq, Int.ofNat_le, this]
    omega
  · rw [isN_iff] at h
    unfold rung
    rw [Bool.eq_iff_iff]; simp; omega
theorem fin_ref (f : Nat) (hl : f < 18446744073709551616) : (!(isN f) && !(flt 9218868437227405311 f || flt f 18442240474082181119)) = fin f := by
  rw [← fin_abs, flt_eq, flt_eq, fle_eq, isN_abs, isN_max, show isN 18442240474082181119 = false by decide +kernel]
  have e : sval 9218868437227405311 = ((mval 9218868437227405311 : Nat) : Int) := by
    unfold sval; rw [show sgn 9218868437227405311 = false by decide +kernel, show rung 9218868437227405311 = 9218868437227405311 by decide +kernel]; rfl
  have e2 : sval 18442240474082181119 = -((mval 9218868437227405311 : Nat) : Int) := by
    unfold sval; rw [show sgn 18442240474082181119 = true by decide +kernel, show rung 18442240474082181119 = 9218868437227405311 by decide +kernel]; rfl
  cases h : isN f
  · rw [sval_abs h, e, e2, Bool.eq_iff_iff]
    rcases sval_cases f with ⟨_, h⟩ | ⟨_, h⟩ <;> rw [h] <;> simp <;> omega
  · simp
theorem within_ref (f m : Nat) (hl : f < 18446744073709551616) : (fle f m && fle (fneg f) m) = within f m := by
  unfold within
  rw [fle_eq, fle_eq, fle_eq, isN_abs, isN_neg]
  cases h : isN f
  · rw [sval_abs h, sval_neg hl h]
    rw [Bool.eq_iff_iff]
    rcases sval_cases f with ⟨_, h⟩ | ⟨_, h⟩ <;> rw [h] <;> cases isN m <;> simp <;> omega
  · simp

theorem RetB.mk {b c : Bool} {w : World} (n : Nat) (h : b = c) : RetB c w (.returned (.bool b)) (w.drewN n) := ⟨n, by rw [h], rfl⟩
theorem RetB.mk0 {b c : Bool} {w : World} (h : b = c) : RetB c w (.returned (.bool b)) w := ⟨0, by rw [h], rfl⟩
theorem RetF.mk {r f : Nat} {w : World} (n : Nat) (h : Rep r f) : RetF f w (.returned (.float .f64 r)) (w.drewN n) := ⟨r, n, rfl, h, rfl⟩
theorem RetF.mk0 {r f : Nat} {w : World} (h : Rep r f) : RetF f w (.returned (.float .f64 r)) w := ⟨r, 0, rfl, h, rfl⟩
theorem RetI.mk {k : IntKind} {b c : Int} {w : World} (n : Nat) (h : b = c) : RetI k c w (.returned (.int k b)) (w.drewN n) := ⟨n, by rw [h], rfl⟩
theorem RetI.mk0 {k : IntKind} {b c : Int} {w : World} (h : b = c) : RetI k c w (.returned (.int k b)) w := ⟨0, by rw [h], rfl⟩
theorem Rep.c0 : Rep 0 0 := Rep.self (by decide) (by decide +kernel)
theorem Rep.cmax : Rep 9218868437227405311 9218868437227405311 := Rep.self (by decide) (by decide +kernel)
theorem Rep.cmin : Rep 18442240474082181119 18442240474082181119 := Rep.self (by decide) (by decide +kernel)
theorem Rep.lt' {x y f g : Nat} (hx : Rep x f) (hy : Rep y g) : (FloatKind.f64.format.order x y == some .lt) = Proofs.Ytcfkhhnkboealaa.flt f g := by
  show (Ieee.double.order x y == some .lt) = _
  rw [hx.order hy]; rfl
theorem Rep.le' {x y f g : Nat} (hx : Rep x f) (hy : Rep y g) : (FloatKind.f64.format.order x y == some .lt || FloatKind.f64.format.order x y == some .eq) = fle f g := by
  show (Ieee.double.order x y == some .lt || Ieee.double.order x y == some .eq) = _
  rw [hx.order hy]; rfl
theorem Rep.eq' {x y f g : Nat} (hx : Rep x f) (hy : Rep y g) : (FloatKind.f64.format.order x y == some .eq) = feq f g := by
  show (Ieee.double.order x y == some .eq) = _
  rw [hx.order hy]; rfl
theorem Rep.ne' {x y f g : Nat} (hx : Rep x f) (hy : Rep y g) : (FloatKind.f64.format.order x y != some .eq) = !feq f g := by
  show (Ieee.double.order x y != some .eq) = _
  rw [hx.order hy]; rfl
theorem Rep.gt' {x y f g : Nat} (hx : Rep x f) (hy : Rep y g) : (FloatKind.f64.format.order x y == some .gt) = Proofs.Ytcfkhhnkboealaa.flt g f := by
  show (Ieee.double.order x y == some .gt) = _
  rw [hx.order hy, fgt_eq]
theorem Rep.ge' {x y f g : Nat} (hx : Rep x f) (hy : Rep y g) : (FloatKind.f64.format.order x y == some .gt || FloatKind.f64.format.order x y == some .eq) = fle g f := by
  show (Ieee.double.order x y == some .gt || Ieee.double.order x y == some .eq) = _
  rw [hx.order hy, fge_eq]
theorem Rep.none' {x f : Nat} (hx : Rep x f) : (FloatKind.f64.format.order x x != some .eq) = isN f := by
  rw [hx.ne' hx, feq_self, Bool.not_not]
theorem Rep.some' {x f : Nat} (hx : Rep x f) : (FloatKind.f64.format.order x x == some .eq) = !isN f := by
  rw [hx.eq' hx, feq_self]

section
variable {x y f g : Nat} (hx : Rep x f) (hy : Rep y g) (w : World)
include hx
theorem abs_c : Calls Try.prog 23 #[.float .f64 x] w (RetF (fabs f) w) := by
  go_enter Try.func23, Try.ntmps23
  go_wp2
  go_ret
  exact RetF.mk0 hx.abs
theorem signbit_c : Calls Try.prog 20 #[.float .f64 x] w (RetB (sgn x) w) := by
  have hs := Lib.hid (wrap64_sgn x hx.lt)
  go_enter Try.func20, Try.ntmps20
  go_wp2
  go_ret
  exact RetB.mk0 hs.out
theorem finite_c : Calls Try.prog 88 #[.float .f64 x] w (RetB (fin f) w) := by
  go_enter Try.func88, Try.ntmps88
  go_wp2_with (go_at_call 23; refine (abs_c hx _).mono ?_; rintro e w' ⟨r, n, rfl, hr, rfl⟩)
  all_goals go_ret
  exact RetB.mk n ((hr.le' Rep.cmax).trans (fin_abs f))
theorem none_c : Calls Try.prog 87 #[.float .f64 x] w (RetB (isN f) w) := by
  go_enter Try.func87, Try.ntmps87
  go_wp2
  all_goals go_ret
  exact RetB.mk0 hx.none'
theorem endless_c : Calls Try.prog 141 #[.float .f64 x] w (RetB (flt 9218868437227405311 f || flt f 18442240474082181119) w) := by
  have h1 := Lib.hid (hx.gt' Rep.cmax)
  have h2 := Lib.hid (hx.lt' Rep.cmin)
  go_enter Try.func141, Try.ntmps141
  go_wp2
  all_goals go_ret
  · rename_i h
    refine RetB.mk0 ?_
    rw [← h1.out, ← h2.out]
    rw [h]; rfl
  · rename_i h
    refine RetB.mk0 ?_
    rw [← h1.out, ← h2.out]
theorem refFinite_c : Calls Try.prog 89 #[.float .f64 x] w (RetB (fin f) w) := by
  have hf := Lib.hid (fin_ref f hx.flt)
  cases hn : isN f
  all_goals
    have hn' := Lib.hid hn
    clear hn
    go_enter Try.func89, Try.ntmps89
    go_wp2_with (first | (go_at_call 87; refine (none_c hx _).mono ?_; rw [hn'.out]; rintro e w' ⟨n, rfl, rfl⟩) | (go_at_call 141; refine (endless_c hx _).mono ?_; rintro e w' ⟨n2, rfl, rfl⟩))
    all_goals go_ret
    exact RetB.mk _ (by rw [← hf.out, hn'.out]; simp)
end
end Go.Proofs.Ytcfkhhnkboealaa
namespace Go.Proofs.Ytcfkhhnkboealaa
set_option linter.unusedVariables false
set_option maxRecDepth 100000

theorem Rep.same {x y f g : Nat} (hx : Rep x f) (hy : Rep y g) (h1 : isN f = false) (h2 : isN g = false) : (((x : Int)) == (y : Int)) = (f == g) := by
  rw [hx.eq_of h1, hy.eq_of h2, Bool.eq_iff_iff]
  simp
  omega
theorem grown_drewN (w : World) (n : Nat) : RowKit.Grown w (w.drewN n) := RowKit.Grown.refl w
theorem cast_beq (f g : Nat) : (((f : Int)) == (g : Int)) = (f == g) := by
  rw [Bool.eq_iff_iff]
  simp
  omega
theorem Rep.nan_of {x f : Nat} (hx : Rep x f) (h : isN f = true) : f = nanB := by rw [← hx.eq, nrm_of (hx.of_isN.trans h)]
theorem isN_eq {x y f g : Nat} (hx : Rep x f) (hy : Rep y g) : (if isN f || isN g then isN f && isN g else f == g) = (f == g) := by
  cases h1 : isN f
  · cases h2 : isN g
    · rfl
    · have : ¬ f = g := by intro e; rw [e, h2] at h1; cases h1
      simp [this]
  · cases h2 : isN g
    · have : ¬ f = g := by intro e; rw [e, h2] at h1; cases h1
      simp [this]
    · rw [hx.nan_of h1, hy.nan_of h2]; simp
theorem fneg_of {f : Nat} (hl : f < 18446744073709551616) (h : isN f = false) : fneg f = if sgn f then rung f else rung f + 9223372036854775808 := by
  unfold fneg; rw [h]; exact xor_sign hl
theorem fabs_of {f : Nat} (h : isN f = false) : fabs f = rung f := by unfold fabs; rw [h]; rfl
theorem sgn_rung {f : Nat} (h : f < 9223372036854775808) : sgn f = false := by unfold sgn; simp; omega
theorem rung_rung (f : Nat) : rung (rung f) = rung f := by unfold rung; omega
theorem rung_lt (f : Nat) : rung f < 9223372036854775808 := by unfold rung; omega
theorem signed_prog (f g : Nat) : (if minus g then fneg (fabs f) else fabs f) = signed f g := by
  unfold signed
  cases h : isN f
  · rw [fneg_of (by rw [fabs_of h]; have := rung_lt f; omega) (by rw [isN_abs, h]), fabs_of h, sgn_rung (rung_lt f), rung_rung]
    cases minus g <;> simp
  · have e : fabs f = nanB := by unfold fabs; rw [h]; rfl
    rw [e, show fneg nanB = nanB by decide +kernel]
    cases minus g <;> simp
theorem signed_ref {x y f g : Nat} (hx : Rep x f) (hy : Rep y g) : (if (minus f != minus g) && !isN f then fneg f else f) = signed f g := by
  unfold signed
  cases h : isN f
  · rw [fneg_of hx.flt h]
    have hm : minus f = sgn f := by unfold minus; rw [h]; rfl
    rw [hm]
    cases hs : sgn f
    · have := sgn_false hs hx.flt
      cases minus g <;> simp <;> omega
    · have := sgn_true hs hx.flt
      cases minus g <;> simp <;> omega
  · rw [hx.nan_of h]; simp

section
variable {x y f g : Nat} (hx : Rep x f) (hy : Rep y g) (w : World)
include hx
theorem minus_c : Calls Try.prog 157 #[.float .f64 x] w (RetB (minus f) w) := by
  have h1 := hx.some'
  have h2 := Lib.hid hx.of_isN
  cases hn : isN f
  · have e := Lib.hid (hx.eq_of hn)
    have h3 : (FloatKind.f64.format.order x x == some Ordering.eq) = true := by rw [h1, hn]; rfl
    clear h1
    have hn' := Lib.hid hn
    clear hn
    go_enter Try.func157, Try.ntmps157
    go_wp2_with (go_at_call 20; refine (signbit_c (by assumption) _).mono ?_; rintro e w' ⟨n, rfl, rfl⟩)
    go_ret
    exact RetB.mk _ (by unfold minus; rw [hn'.out, e.out]; rfl)
  · have h3 : (FloatKind.f64.format.order x x == some Ordering.eq) = false := by rw [h1, hn]; rfl
    clear h1
    have hn' := Lib.hid hn
    clear hn
    go_enter Try.func157, Try.ntmps157
    go_wp2_with fail
    go_ret
    exact RetB.mk0 (by unfold minus; rw [hn'.out]; rfl)
include hy
theorem refSame_c : Calls Try.prog 13 #[.float .f64 x, .float .f64 y] w (RetB (f == g) w) := by
  have hq := Lib.hid (isN_eq hx hy)
  have hc := Lib.hid (fun h1 h2 => hx.same hy h1 h2)
  cases h1 : isN f <;> cases h2 : isN g
  all_goals
    have h1' := Lib.hid h1
    have h2' := Lib.hid h2
    go_enter Try.func13, Try.ntmps13
    go_wp2_with (go_at_call 87; refine (none_c (by assumption) _).mono ?_; rintro e w' ⟨n, rfl, rfl⟩)
    all_goals go_ret
  · exact RetB.mk _ (hc.out h1'.out h2'.out)
  all_goals exact RetB.mk _ (by rw [← hq.out, h1'.out, h2'.out]; rfl)
theorem within_c : Calls Try.prog 132 #[.float .f64 x, .float .f64 y] w (RetB (within f g) w) := by
  go_enter Try.func132, Try.ntmps132
  go_wp2_with (go_at_call 23; refine (abs_c hx _).mono ?_; rintro e w' ⟨r, n, rfl, hr, rfl⟩)
  all_goals go_ret
  exact RetB.mk n (hr.le' hy)
theorem signed_c : Calls Try.prog 158 #[.float .f64 x, .float .f64 y] w (RetF (signed f g) w) := by
  have h3 := Lib.hid (signed_prog f g)
  cases hm : minus g
  all_goals
    have hm' := Lib.hid hm
    go_enter Try.func158, Try.ntmps158
    go_wp2_with (first | (go_at_call 23; refine (abs_c hx _).mono ?_; rintro e w' ⟨r, n, rfl, hr, rfl⟩) | (go_at_call 157; refine (minus_c (by assumption) _).mono ?_; rintro e w' ⟨n, rfl, rfl⟩))
    all_goals go_ret
  · exact RetF.mk _ (by rw [← h3.out, hm'.out]; exact hr)
  · exact RetF.mk _ (by rw [← h3.out, hm'.out]; exact hr.neg)
end
end Go.Proofs.Ytcfkhhnkboealaa
namespace Go.Proofs.Ytcfkhhnkboealaa
set_option linter.unusedVariables false
set_option maxRecDepth 100000

def infP : Nat := 9218868437227405312
def infN : Nat := 18442240474082181120
def isInf (f : Nat) (s : Int) : Bool := if s = 0 then flt 9218868437227405311 (fabs f) else if s < 0 then flt 9218868437227405311 (fneg f) else flt 9218868437227405311 f
def copyF (f g : Nat) : Nat := nrm (rung f + if sgn g then 9223372036854775808 else 0)
def nextF (f g : Nat) : Nat :=
  if isN f || isN g then nanB else if feq f g then f else if feq f 0 then (1 + if sgn g then 9223372036854775808 else 0)
  else if flt f g == flt 0 f then nrm (f + 1) else nrm (f - 1)

theorem bits_or_sign (a s : Nat) (h : a < 9223372036854775808) (hs : s = 0 ∨ s = 1) : bits .or .u64 (a : Int) ((s * 9223372036854775808 : Nat) : Int) = ((a + s * 9223372036854775808 : Nat) : Int) := by
  rw [u64_or_nat a _ (by omega) (by omega)]
  rw [Nat.or_comm, nat_join 63 (s * 9223372036854775808) a (by simp only [Nat.reducePow]; omega) (by simp only [Nat.reducePow]; omega), Nat.add_comm]
theorem copy_bits (x y : Nat) : (bits .or .u64 (bits .andNot .u64 (x : Int) 9223372036854775808) (bits .and .u64 (y : Int) 9223372036854775808)).toNat = rung x + if sgn y then 9223372036854775808 else 0 := by
  rw [bits_andNot_sign, bits_and_sign]
  rw [bits_or_sign _ _ (by omega) (by omega)]
  unfold rung sgn
  rcases Nat.mod_two_eq_zero_or_one (y / 9223372036854775808) with h | h <;> rw [h] <;> rfl
theorem Rep.sgn_of {x f : Nat} (hx : Rep x f) (h : isN f = false) : sgn x = sgn f := by rw [hx.eq_of h]
theorem Rep.rung_of {x f : Nat} (hx : Rep x f) (h : isN f = false) : rung x = rung f := by rw [hx.eq_of h]
theorem add1_nat (a : Nat) : IntKind.u64.wrap ((a : Int) + 1) = ((a + 1) % 18446744073709551616 : Nat) := by rw [IntKind.wrap_u64]; omega
theorem sub1_nat (a : Nat) (h : 0 < a) (h2 : a < 18446744073709551616) : IntKind.u64.wrap ((a : Int) - 1) = ((a - 1 : Nat) : Int) := by rw [IntKind.wrap_u64]; omega

def RetFI (f : Nat) (i : Int) (w : World) (e : Ending) (w' : World) : Prop := ∃ r n, e = .returned (.tuple #[.float .f64 r, .int .i64 i]) ∧ Rep r f ∧ w' = w.drewN n
def RetFF (f g : Nat) (w : World) (e : Ending) (w' : World) : Prop := ∃ r s n, e = .returned (.tuple #[.float .f64 r, .float .f64 s]) ∧ Rep r f ∧ Rep s g ∧ w' = w.drewN n
theorem RetFI.mk {r f : Nat} {i j : Int} {w : World} (n : Nat) (h : Rep r f) (hi : j = i) : RetFI f i w (.returned (.tuple #[.float .f64 r, .int .i64 j])) (w.drewN n) := ⟨r, n, by rw [hi], h, rfl⟩
theorem RetFI.mk0 {r f : Nat} {i j : Int} {w : World} (h : Rep r f) (hi : j = i) : RetFI f i w (.returned (.tuple #[.float .f64 r, .int .i64 j])) w := ⟨r, 0, by rw [hi], h, rfl⟩
theorem RetFF.mk {r s f g : Nat} {w : World} (n : Nat) (h : Rep r f) (h2 : Rep s g) : RetFF f g w (.returned (.tuple #[.float .f64 r, .float .f64 s])) (w.drewN n) := ⟨r, s, n, rfl, h, h2, rfl⟩
theorem RetFF.mk0 {r s f g : Nat} {w : World} (h : Rep r f) (h2 : Rep s g) : RetFF f g w (.returned (.tuple #[.float .f64 r, .float .f64 s])) w := ⟨r, s, 0, rfl, h, h2, rfl⟩
theorem Rep.nanC : Rep 9221120237041090561 nanB := Rep.nan (by decide) (by decide +kernel)
theorem Rep.c1 : Rep 1 1 := Rep.self (by decide) (by decide +kernel)
theorem Rep.cinf : Rep 9218868437227405312 9218868437227405312 := Rep.self (by decide) (by decide +kernel)
theorem Rep.cninf : Rep 18442240474082181120 18442240474082181120 := Rep.self (by decide) (by decide +kernel)
theorem nan_c (w : World) : Calls Try.prog 67 #[] w (RetF nanB w) := by
  go_enter Try.func67, Try.ntmps67
  go_wp2
  go_ret
  exact RetF.mk0 Rep.nanC
theorem inf_c (s : Int) (w : World) : Calls Try.prog 75 #[.int .i64 s] w (RetF (if 0 ≤ s then infP else infN) w) := by
  by_cases h : 0 ≤ s
  · have h' := Lib.hid h
    go_enter Try.func75, Try.ntmps75
    go_wp2
    go_ret
    exact RetF.mk0 Rep.cinf
  · have h' := Lib.hid h
    go_enter Try.func75, Try.ntmps75
    go_wp2
    go_ret
    exact RetF.mk0 Rep.cninf

section
variable {x y f g : Nat} (hx : Rep x f) (hy : Rep y g) (w : World)
include hx
theorem isNaN_c : Calls Try.prog 94 #[.float .f64 x] w (RetB (isN f) w) := by
  have h1 := Lib.hid hx.none'
  go_enter Try.func94, Try.ntmps94
  go_wp2
  go_ret
  exact RetB.mk0 h1.out
theorem isInf_c (s : Int) : Calls Try.prog 104 #[.float .f64 x, .int .i64 s] w (RetB (isInf f s) w) := by
  have h1 := Lib.hid (hx.gt' Rep.cmax)
  have h2 := Lib.hid (hx.neg.gt' Rep.cmax)
  have h3 := Lib.hid (hx.abs.gt' Rep.cmax)
  by_cases hs : s = 0
  · have e : isInf f s = flt 9218868437227405311 (fabs f) := by simp [isInf, hs]
    have e' := Lib.hid e
    clear e
    subst hs
    go_enter Try.func104, Try.ntmps104
    go_wp2
    go_ret
    exact RetB.mk0 (by rw [e'.out, ← h3.out])
  · by_cases hm : s < 0
    · have e : isInf f s = flt 9218868437227405311 (fneg f) := by simp [isInf, hs, hm]
      have e' := Lib.hid e
      clear e
      have hb : (s == 0) = false := by simp [hs]
      clear hs
      go_enter Try.func104, Try.ntmps104
      go_wp2
      go_ret
      exact RetB.mk0 (by rw [e'.out, ← h2.out])
    · have e : isInf f s = flt 9218868437227405311 f := by simp [isInf, hs, hm]
      have e' := Lib.hid e
      clear e
      have hb : (s == 0) = false := by simp [hs]
      clear hs
      go_enter Try.func104, Try.ntmps104
      go_wp2
      go_ret
      exact RetB.mk0 (by rw [e'.out, ← h1.out])
include hy
theorem copysign_c (hf : isN f = false) (hg : isN g = false) : Calls Try.prog 84 #[.float .f64 x, .float .f64 y] w (RetF (copyF f g) w) := by
  have h1 := Lib.hid (copy_bits x y)
  have h2 := Lib.hid (hx.rung_of hf)
  have h3 := Lib.hid (hy.sgn_of hg)
  go_enter Try.func84, Try.ntmps84
  go_wp2
  go_ret
  refine RetF.mk0 ⟨?_, ?_⟩
  · rw [h1.out]; have := rung_lt x; split <;> omega
  · rw [h1.out, h2.out, h3.out]; rfl
theorem next_c : Calls Try.prog 24 #[.float .f64 x, .float .f64 y] w (RetF (nextF f g) w) := by
  have h1 := hx.eq' hy
  have h2 := hx.eq' Rep.c0
  have h3 := hy.gt' hx
  have h4 := hx.gt' Rep.c0
  go_enter Try.func24, Try.ntmps24
  go_wp2_with (first | (go_at_call 94; refine (isNaN_c (by assumption) _).mono ?_; rintro e w' ⟨n, rfl, rfl⟩) | (go_at_call 67; refine (nan_c _).mono ?_; rintro e w' ⟨r, n, rfl, hr, rfl⟩) | go_in)
  all_goals go_ret
  · exact RetF.mk _ (by rw [show nextF f g = nanB by simp [nextF, *]]; exact hr)
  · exact RetF.mk _ (by rw [show nextF f g = nanB by simp [nextF, *]]; exact hr)
  · exact RetF.mk _ (by rw [show nextF f g = f by simp [nextF, *]]; exact hx)
  · have e := copy_bits 1 y
    have k2 : isN g = false := by assumption
    rw [hy.sgn_of k2] at e
    refine RetF.mk _ ?_
    rw [show nextF f g = 1 + if sgn g then 9223372036854775808 else 0 by simp [nextF, *]]
    have e2 : (1 : Nat) + (if sgn g then 9223372036854775808 else 0) = (bits .or .u64 (bits .andNot .u64 1 9223372036854775808) (bits .and .u64 (y : Int) 9223372036854775808)).toNat := e.symm
    have e3 : Rep (1 + if sgn g then 9223372036854775808 else 0) (1 + if sgn g then 9223372036854775808 else 0) := by
      cases sgn g
      · exact Rep.c1
      · exact Rep.self (by decide) (by decide +kernel)
    have e4 : Rep (bits .or .u64 (bits .andNot .u64 1 9223372036854775808) (bits .and .u64 (y : Int) 9223372036854775808)).toNat (1 + if sgn g then 9223372036854775808 else 0) := by rw [← e2]; exact e3
    exact e4
  · have hf0 : isN f = false := by simpa using (by assumption : ¬ isN f = true)
    refine RetF.mk _ ?_
    rw [show nextF f g = nrm (f + 1) by simp [nextF, *]]
    have hlt : f < 18446744073709551615 := by
      rw [isN_false_iff] at hf0; have := hx.flt; omega
    rw [add1_nat, hx.eq_of hf0, Int.toNat_natCast, Nat.mod_eq_of_lt (by omega)]
    exact ⟨by omega, rfl⟩
  · have hf0 : isN f = false := by simpa using (by assumption : ¬ isN f = true)
    have k4 : feq f 0 = false := by assumption
    refine RetF.mk _ ?_
    rw [show nextF f g = nrm (f - 1) by simp [nextF, *]]
    have hpos : 0 < f := by
      rcases Nat.eq_zero_or_pos f with e | e
      · rw [e] at k4; exact absurd k4 (by decide +kernel)
      · exact e
    have := hx.flt
    rw [hx.eq_of hf0, sub1_nat f hpos this, Int.toNat_natCast]
    exact ⟨by omega, rfl⟩
end
end Go.Proofs.Ytcfkhhnkboealaa
namespace Go.Proofs.Ytcfkhhnkboealaa
set_option linter.unusedVariables false
set_option maxRecDepth 100000

def upF (f : Nat) : Nat := if isInf f 1 then f else nextF f infP
def downF (f : Nat) : Nat := if isInf f (-1) then f else nextF f infN
def lostF (f g : Nat) : Nat := if !fin (fadd f g) then 0 else if flt (fabs f) (fabs g) then fadd (fsub f (fsub (fadd f g) g)) 0 else fadd (fsub g (fsub (fadd f g) f)) 0
def normF (f : Nat) : Nat := if flt (fabs f) 4503599627370496 then fmul f 4841369599423283200 else f
def normE (f : Nat) : Int := if flt (fabs f) 4503599627370496 then -52 else 0
def fracB (g : Nat) : Nat := g / 9223372036854775808 * 9223372036854775808 + 4602678819172646912 + g % 4503599627370496
def partF (f : Nat) : Nat := if feq f 0 || (isInf f 0 || isN f) then f else nrm (fracB (normF f))
def partE (f : Nat) : Int := if feq f 0 || (isInf f 0 || isN f) then 0 else normE f + (normF f / 4503599627370496 % 2048 : Nat) - 1022
theorem exp_bits (r : Nat) (h : r < 18446744073709551616) : bits .and .u64 ((r : Int) / 4503599627370496) 2047 = ((r / 4503599627370496 % 2048 : Nat) : Int) := by
  have e : ((r : Int) / 4503599627370496) = ((r / 4503599627370496 : Nat) : Int) := by omega
  rw [e]
  have := u64_and_nat (r / 4503599627370496) 2047 (by omega) (by omega)
  rw [show (2047 : Nat) = 2 ^ 11 - 1 from rfl, Nat.and_two_pow_sub_one_eq_mod] at this
  exact this
theorem clr_nat (r : Nat) (h : r < 18446744073709551616) : r &&& (18446744073709551615 - 9218868437227405312) = r / 9223372036854775808 * 9223372036854775808 + r % 4503599627370496 := by
  have e : 18446744073709551615 - 9218868437227405312 = 2 ^ 63 ||| (2 ^ 52 - 1) := by decide +kernel
  rw [e, Nat.and_or_distrib_left, nat_bit, Nat.and_two_pow_sub_one_eq_mod]
  have h1 : r / 2 ^ 63 % 2 = r / 9223372036854775808 := by simp only [Nat.reducePow]; omega
  rw [h1]
  exact nat_join 63 (r / 9223372036854775808 * 2 ^ 63) (r % 2 ^ 52) (by simp only [Nat.reducePow]; omega) (by simp only [Nat.reducePow]; omega)
theorem clr_bits (r : Nat) (h : r < 18446744073709551616) : bits .andNot .u64 (r : Int) 9218868437227405312 = ((r / 9223372036854775808 * 9223372036854775808 + r % 4503599627370496 : Nat) : Int) := by
  have := u64_andNot_nat r 9218868437227405312 h (by omega)
  rw [clr_nat r h] at this
  exact this
theorem frac_bits (r : Nat) (h : r < 18446744073709551616) : (bits .or .u64 (bits .andNot .u64 (r : Int) 9218868437227405312) 4602678819172646912).toNat = fracB r := by
  rw [clr_bits r h]
  have := u64_or_nat (r / 9223372036854775808 * 9223372036854775808 + r % 4503599627370496) 4602678819172646912 (by omega) (by omega)
  have e : (r / 9223372036854775808 * 9223372036854775808 + r % 4503599627370496) ||| 4602678819172646912 = fracB r := by
    unfold fracB
    rw [← nat_join 63 (r / 9223372036854775808 * 9223372036854775808) (r % 4503599627370496) (by simp only [Nat.reducePow]; omega) (by simp only [Nat.reducePow]; omega)]
    rw [Nat.or_assoc, Nat.or_comm (r % 4503599627370496), nat_join 52 4602678819172646912 (r % 4503599627370496) (by decide) (by simp only [Nat.reducePow]; omega)]
    rw [nat_join 63 (r / 9223372036854775808 * 9223372036854775808) (4602678819172646912 + r % 4503599627370496) (by simp only [Nat.reducePow]; omega) (by simp only [Nat.reducePow]; omega)]
    omega
  rw [e] at this
  generalize bits .or .u64 ((r / 9223372036854775808 * 9223372036854775808 + r % 4503599627370496 : Nat) : Int) 4602678819172646912 = b at this ⊢
  first | exact toNat_of this | (have t2 : b = ((fracB r : Nat) : Int) := this; exact toNat_of t2)
theorem fracB_notN (r : Nat) (h : r < 18446744073709551616) : isN (fracB r) = false := by
  rw [isN_false_iff]; unfold fracB; omega
theorem fracB_lt (r : Nat) (h : r < 18446744073709551616) : fracB r < 18446744073709551616 := by unfold fracB; omega
theorem fracB_of_rep {r f : Nat} (h : Rep r f) (hn : isN f = false) : Rep (fracB r) (nrm (fracB f)) := by
  rw [h.eq_of hn]; exact ⟨fracB_lt _ h.flt, rfl⟩
theorem partE_walk (r : Nat) (e : Int) (he : -52 ≤ e ∧ e ≤ 0) : RowKit.wrap64 (e + RowKit.wrap64 (RowKit.wrap64 (RowKit.wrap64 ((r / 4503599627370496 % 2048 : Nat) : Int) - 1023) + 1)) = e + (r / 4503599627370496 % 2048 : Nat) - 1022 := by
  have : r / 4503599627370496 % 2048 < 2048 := Nat.mod_lt _ (by decide)
  generalize r / 4503599627370496 % 2048 = m at *
  unfold RowKit.wrap64
  omega
theorem normE_bd (f : Nat) : -52 ≤ normE f ∧ normE f ≤ 0 := by unfold normE; split <;> omega
theorem fin_notN {f : Nat} (h : fin f = true) : isN f = false := by
  unfold fin at h; rw [notN_iff]; simp at h; omega
theorem fin_rung {f : Nat} (h : fin f = true) : rung f < 9218868437227405312 := by unfold fin at h; simpa using h
theorem isN_fmul {f g : Nat} (hf : fin f = true) (hg : fin g = true) : isN (fmul f g) = false := by
  obtain ⟨m, k, hr, hm, _⟩ := read_number (fin_rung hf)
  obtain ⟨n, j, hs, hn, _⟩ := read_number (fin_rung hg)
  rw [mul_def, hr, hs]
  exact write_notN (.number (sgn f ^^ sgn g) (m * n) (-1074 + (k : Int) + (-1074 + (j : Int)))) rfl
theorem sval_small {f c : Nat} (h : flt (fabs f) c = true) (hc : sgn c = false) (hcr : rung c ≤ 9218868437227405312) : rung f < rung c ∧ isN f = false := by
  rw [flt_eq, isN_abs] at h
  simp at h
  obtain ⟨⟨h1, h2⟩, h3⟩ := h
  rw [sval_abs h1] at h3
  have e : sval c = ((mval (rung c) : Nat) : Int) := by unfold sval; rw [hc]; rfl
  rw [e] at h3
  exact ⟨mval_lt_iff.1 (by omega), h1⟩
theorem normF_notN {f : Nat} (h : isN f = false) : isN (normF f) = false := by
  unfold normF
  split
  · rename_i hs
    have := (sval_small hs (by decide +kernel) (by decide +kernel)).1
    exact isN_fmul (by unfold fin; simp; exact Nat.lt_of_lt_of_le this (by decide +kernel)) (by decide +kernel)
  · exact h
def expOf (f : Nat) (n : Int) : Int := n + normE f + (normF f / 4503599627370496 % 2048 : Nat) - 1023
def scaleF (f : Nat) (n : Int) : Nat :=
  if feq f 0 || (isInf f 0 || isN f) then f
  else if expOf f n < -1075 then copyF 0 (normF f)
  else if 1023 < expOf f n then (if flt (normF f) 0 then infN else infP)
  else if expOf f n < -1022 then fmul 4368491638549381120 (normF f / 9223372036854775808 * 9223372036854775808 + (expOf f n + 1076).toNat * 4503599627370496 + normF f % 4503599627370496)
  else fmul 4607182418800017408 (normF f / 9223372036854775808 * 9223372036854775808 + (expOf f n + 1023).toNat * 4503599627370496 + normF f % 4503599627370496)
theorem Rep.normF_lt {x f : Nat} (hx : Rep x f) : normF f < 18446744073709551616 := by
  unfold normF
  split
  · exact canon_map_lt _
  · exact hx.flt
theorem and2047_i64 (r : Nat) (h : r < 18446744073709551616) : bits .and .i64 (RowKit.wrap64 ((r : Int) / 4503599627370496)) 2047 = ((r / 4503599627370496 % 2048 : Nat) : Int) := by
  have e : RowKit.wrap64 ((r : Int) / 4503599627370496) = ((r / 4503599627370496 : Nat) : Int) := by unfold RowKit.wrap64; omega
  rw [e]
  show IntKind.i64.wrap ((BitVec.ofInt 64 ((r / 4503599627370496 : Nat) : Int) &&& BitVec.ofInt 64 (2047 : Int)).toNat : Int) = _
  rw [BitVec.toNat_and, BitVec.ofInt_natCast, BitVec.toNat_ofNat, show (BitVec.ofInt 64 2047).toNat = 2 ^ 11 - 1 from by decide +kernel, Nat.and_two_pow_sub_one_eq_mod, Nat.mod_eq_of_lt (a := r / 4503599627370496) (by omega)]
  have h2 : r / 4503599627370496 % 2 ^ 11 < 2048 := Nat.mod_lt _ (by decide)
  rw [show (2048 : Nat) = 2 ^ 11 from rfl]
  generalize r / 4503599627370496 % 2 ^ 11 = m at *
  simp only [IntKind.wrap, IntKind.bits, IntKind.signed]
  simp
  omega
theorem scale_bits (g : Nat) (e : Int) (h : g < 18446744073709551616) (h0 : 0 ≤ e) (h1 : e < 2048) : (bits .or .u64 (bits .andNot .u64 (g : Int) 9218868437227405312) (e * 4503599627370496)).toNat = g / 9223372036854775808 * 9223372036854775808 + e.toNat * 4503599627370496 + g % 4503599627370496 := by
  obtain ⟨k, rfl⟩ := Int.eq_ofNat_of_zero_le h0
  rw [clr_bits g h, Int.toNat_natCast]
  have hk : k < 2048 := by omega
  have := u64_or_nat (g / 9223372036854775808 * 9223372036854775808 + g % 4503599627370496) (k * 4503599627370496) (by omega) (by omega)
  have e : (g / 9223372036854775808 * 9223372036854775808 + g % 4503599627370496) ||| k * 4503599627370496 = g / 9223372036854775808 * 9223372036854775808 + k * 4503599627370496 + g % 4503599627370496 := by
    rw [← nat_join 63 (g / 9223372036854775808 * 9223372036854775808) (g % 4503599627370496) (by simp only [Nat.reducePow]; omega) (by simp only [Nat.reducePow]; omega)]
    rw [Nat.or_assoc, Nat.or_comm (g % 4503599627370496), nat_join 52 (k * 4503599627370496) (g % 4503599627370496) (by simp only [Nat.reducePow]; omega) (by simp only [Nat.reducePow]; omega)]
    rw [nat_join 63 (g / 9223372036854775808 * 9223372036854775808) (k * 4503599627370496 + g % 4503599627370496) (by simp only [Nat.reducePow]; omega) (by simp only [Nat.reducePow]; omega)]
    omega
  rw [e, Int.natCast_mul] at this
  exact toNat_of this
theorem scale_rep {r : Nat} (g : Nat) (e : Int) (h : g < 18446744073709551616) (h0 : 0 ≤ e) (h1 : e < 2047) : Rep (bits .or .u64 (bits .andNot .u64 (g : Int) 9218868437227405312) (e * 4503599627370496)).toNat (g / 9223372036854775808 * 9223372036854775808 + e.toNat * 4503599627370496 + g % 4503599627370496) := by
  rw [scale_bits g e h h0 (by omega)]
  refine Rep.self (by omega) (nrm_of_not ?_)
  rw [isN_false_iff]
  omega
theorem Rep.cone : Rep 4607182418800017408 4607182418800017408 := Rep.self (by decide) (by decide +kernel)
theorem Rep.ctiny53 : Rep 4368491638549381120 4368491638549381120 := Rep.self (by decide) (by decide +kernel)
theorem exp_walk (f : Nat) (n : Int) (h1 : -100000 ≤ n) (h2 : n ≤ 100000) (hl : normF f < 18446744073709551616) : RowKit.wrap64 (RowKit.wrap64 (n + normE f) + RowKit.wrap64 (bits .and .i64 (RowKit.wrap64 ((normF f : Int) / 4503599627370496)) 2047 - 1023)) = expOf f n := by
  rw [and2047_i64 _ hl]
  have := normE_bd f
  unfold expOf
  have : normF f / 4503599627370496 % 2048 < 2048 := Nat.mod_lt _ (by decide)
  generalize normF f / 4503599627370496 % 2048 = m at *
  unfold RowKit.wrap64
  omega
theorem expOf_bd (f : Nat) (n : Int) (h1 : -100000 ≤ n) (h2 : n ≤ 100000) : -102000 ≤ expOf f n ∧ expOf f n ≤ 102000 := by
  have := normE_bd f
  unfold expOf
  have : normF f / 4503599627370496 % 2048 < 2048 := Nat.mod_lt _ (by decide)
  omega
theorem Rep.ctiny : Rep 4503599627370496 4503599627370496 := Rep.self (by decide) (by decide +kernel)
theorem Rep.c2p52 : Rep 4841369599423283200 4841369599423283200 := Rep.self (by decide) (by decide +kernel)
section
variable {x y f g : Nat} (hx : Rep x f) (hy : Rep y g) (w : World)
include hx
theorem up_c : Calls Try.prog 92 #[.float .f64 x] w (RetF (upF f) w) := by
  cases h : isInf f 1
  all_goals
    have h' := Lib.hid h
    go_enter Try.func92, Try.ntmps92
    go_wp2_with (first | (go_at_call 104; refine (isInf_c (by assumption) _ _).mono ?_; rintro e w' ⟨n, rfl, rfl⟩) | (go_at_call 94; refine (isNaN_c (by assumption) _).mono ?_; rintro e w' ⟨n, rfl, rfl⟩) | (go_at_call 67; refine (nan_c _).mono ?_; rintro e w' ⟨r, n, rfl, hr, rfl⟩) | (go_at_call 75; refine (inf_c _ _).mono ?_; rintro e w' ⟨r, n, rfl, hr, rfl⟩) | (go_at_call 24; refine (next_c (by assumption) (by assumption) _).mono ?_; rintro e w' ⟨r, n, rfl, hr, rfl⟩))
    go_ret
  · exact RetF.mk _ (by rw [show upF f = nextF f infP by simp [upF, h'.out]]; assumption)
  · exact RetF.mk _ (by rw [show upF f = f by simp [upF, h'.out]]; assumption)
theorem norm_c : Calls Try.prog 154 #[.float .f64 x] w (RetFI (normF f) (normE f) w) := by
  have h1 := hx.abs.lt' Rep.ctiny
  cases h : flt (fabs f) 4503599627370496
  all_goals
    have h' := Lib.hid h
    go_enter Try.func154, Try.ntmps154
    go_wp2
    go_ret2
  · exact RetFI.mk0 (by rw [show normF f = f by simp [normF, h'.out]]; assumption) (by simp [normE, h'.out])
  · exact RetFI.mk _ (by rw [show normF f = fmul f 4841369599423283200 by simp [normF, h'.out]]; exact hx.mul Rep.c2p52) (by simp [normE, h'.out])
theorem frexp_c : Calls Try.prog 147 #[.float .f64 x] w (RetFI (partF f) (partE f) w) := by
  have h1 := hx.eq' Rep.c0
  cases h2 : feq f 0 <;> cases h3 : isInf f 0 <;> cases h4 : isN f
  all_goals
    have h2' := Lib.hid h2
    have h3' := Lib.hid h3
    have h4' := Lib.hid h4
    go_enter Try.func147, Try.ntmps147
    go_wp2_with (first | (go_at_call 104; refine (isInf_c (by assumption) _ _).mono ?_; rintro e w' ⟨n, rfl, rfl⟩) | (go_at_call 94; refine (isNaN_c (by assumption) _).mono ?_; rintro e w' ⟨n, rfl, rfl⟩) | (go_at_call 67; refine (nan_c _).mono ?_; rintro e w' ⟨r, n, rfl, hr, rfl⟩) | (go_at_call 75; refine (inf_c _ _).mono ?_; rintro e w' ⟨r, n, rfl, hr, rfl⟩) | (go_at_call 154; refine (norm_c (by assumption) _).mono ?_; rintro e w' ⟨r, n, rfl, hr, rfl⟩))
    go_ret2
  · have hb := normF_notN h4'.out
    refine RetFI.mk _ ?_ ?_
    · rw [show partF f = nrm (fracB (normF f)) by simp [partF, h2'.out, h3'.out, h4'.out]]
      exact (frac_bits r hr.lt).symm ▸ fracB_of_rep hr hb
    · rw [show partE f = normE f + (normF f / 4503599627370496 % 2048 : Nat) - 1022 by simp [partE, h2'.out, h3'.out, h4'.out]]
      have e := exp_bits r hr.lt
      rw [hr.eq_of hb] at e
      rw [← partE_walk _ _ (normE_bd f), ← e, hr.eq_of hb]
  all_goals
    have e1 : partF f = f := by simp [partF, h2'.out, h3'.out, h4'.out]
    have e2 : partE f = 0 := by simp [partE, h2'.out, h3'.out, h4'.out]
    rw [e1, e2]
    first | exact RetFI.mk0 hx rfl | exact RetFI.mk _ hx rfl
theorem ldexp_c (i : Int) (hn1 : -100000 ≤ i) (hn2 : i ≤ 100000) : Calls Try.prog 112 #[.float .f64 x, .int .i64 i] w (RetF (scaleF f i) w) := by
  have h1 := hx.eq' Rep.c0
  cases h2 : feq f 0 <;> cases h3 : isInf f 0 <;> cases h4 : isN f
  · have h2' := Lib.hid h2
    have h3' := Lib.hid h3
    have h4' := Lib.hid h4
    have hb := normF_notN h4
    have h5 := (Rep.self hx.normF_lt (nrm_of_not hb)).lt' Rep.c0
    have h6 := exp_walk f i hn1 hn2 hx.normF_lt
    have h7 := expOf_bd f i hn1 hn2
    go_enter Try.func112, Try.ntmps112
    go_wp2_with (first | (go_at_call 104; refine (isInf_c (by assumption) _ _).mono ?_; rintro e w' ⟨n, rfl, rfl⟩) | (go_at_call 94; refine (isNaN_c (by assumption) _).mono ?_; rintro e w' ⟨n, rfl, rfl⟩) | (go_at_call 67; refine (nan_c _).mono ?_; rintro e w' ⟨r, n, rfl, hr, rfl⟩) | (go_at_call 75; refine (inf_c _ _).mono ?_; rintro e w' ⟨r, n, rfl, hr, rfl⟩) | (go_at_call 154; refine (norm_c (by assumption) _).mono ?_; rintro e w' ⟨r, n, rfl, hr, rfl⟩; obtain rfl := hr.eq_of hb) | (go_at_call 84; refine (copysign_c Rep.c0 (by assumption) _ (by decide +kernel) hb).mono ?_; rintro e w' ⟨r, n, rfl, hr, rfl⟩))
    all_goals go_ret
    all_goals refine RetF.mk _ ?_
    · rw [show scaleF f i = copyF 0 (normF f) by simp [scaleF, h2'.out, h3'.out, h4'.out, *]]; assumption
    · have k3 : flt (normF f) 0 = true := by assumption
      rw [show scaleF f i = infN by unfold scaleF; rw [h2'.out, h3'.out, h4'.out, if_neg (by simp), if_neg (by omega), if_pos (by omega), k3, if_pos rfl]]; assumption
    · have k3 : flt (normF f) 0 = false := by assumption
      rw [show scaleF f i = infP by unfold scaleF; rw [h2'.out, h3'.out, h4'.out, if_neg (by simp), if_neg (by omega), if_pos (by omega), k3, if_neg (by simp)]]; assumption
    · have e1 : expOf f i + 53 + 1023 = expOf f i + 1076 := by omega
      rw [show scaleF f i = fmul 4368491638549381120 (normF f / 9223372036854775808 * 9223372036854775808 + (expOf f i + 1076).toNat * 4503599627370496 + normF f % 4503599627370496) by unfold scaleF; rw [h2'.out, h3'.out, h4'.out, if_neg (by simp), if_neg (by omega), if_neg (by omega), if_pos (by omega)], e1]
      exact Rep.ctiny53.mul (scale_rep (r := 0) _ _ hx.normF_lt (by omega) (by omega))
    · rw [show scaleF f i = fmul 4607182418800017408 (normF f / 9223372036854775808 * 9223372036854775808 + (expOf f i + 1023).toNat * 4503599627370496 + normF f % 4503599627370496) by unfold scaleF; rw [h2'.out, h3'.out, h4'.out, if_neg (by simp), if_neg (by omega), if_neg (by omega), if_neg (by omega)]]
      exact Rep.cone.mul (scale_rep (r := 0) _ _ hx.normF_lt (by omega) (by omega))
  all_goals
    have h2' := Lib.hid h2
    have h3' := Lib.hid h3
    have h4' := Lib.hid h4
    go_enter Try.func112, Try.ntmps112
    go_wp2_with (first | (go_at_call 104; refine (isInf_c (by assumption) _ _).mono ?_; rintro e w' ⟨n, rfl, rfl⟩) | (go_at_call 94; refine (isNaN_c (by assumption) _).mono ?_; rintro e w' ⟨n, rfl, rfl⟩) | (go_at_call 67; refine (nan_c _).mono ?_; rintro e w' ⟨r, n, rfl, hr, rfl⟩) | (go_at_call 75; refine (inf_c _ _).mono ?_; rintro e w' ⟨r, n, rfl, hr, rfl⟩))
    go_ret
  all_goals
    have e1 : scaleF f i = f := by simp [scaleF, h2'.out, h3'.out, h4'.out]
    rw [e1]
    first | exact RetF.mk0 hx | exact RetF.mk _ hx
end
end Go.Proofs.Ytcfkhhnkboealaa
namespace Go.Proofs.Ytcfkhhnkboealaa
set_option linter.unusedVariables false
set_option maxRecDepth 100000

/-- the nearest whole number -/
def wholeF (f : Nat) : Nat := if isN f then nanB else Ieee.double.write ((Ieee.double.read f).integral .even)
def clampN (i : Int) : Int := if -5000 < (if i < 5000 then i else 5000) then (if i < 5000 then i else 5000) else -5000
def rteRes (b : Nat) (w : World) : Nat :=
  match Ieee.double.read b with
  | .nan s t => if Ieee.double.quiet t = t then b else if (Question.extern "math.Floor,Ceil,Trunc,RoundToEven.signallingNaN kept" 2).cut (w.tape w.drawn (.extern "math.Floor,Ceil,Trunc,RoundToEven.signallingNaN kept" 2)) == 1 then b else Ieee.double.write (.nan s (Ieee.double.quiet t))
  | d => Ieee.double.write (d.integral .even)
def rteDr (b : Nat) : Nat :=
  match Ieee.double.read b with
  | .nan s t => if Ieee.double.quiet t = t then 0 else 1
  | d => 0
theorem run_rte {P : Program} (b : Nat) (w : World) : (Extern.MathFloor.toIntegral "math.RoundToEven" .even #[.float .f64 b]).run P w = .ok (.float .f64 (rteRes b w)) (w.drewN (rteDr b)) := by
  unfold Extern.MathFloor.toIntegral rteRes rteDr
  show Sem.run P (match Ieee.double.read b with | .nan s t => _ | d => _) w = _
  cases hd : Ieee.double.read b with
  | number s m e => rfl
  | infinity s => rfl
  | nan s t =>
    simp only
    by_cases hq : Ieee.double.quiet t = t
    · have hq' : FloatKind.f64.format.quiet t = t := hq
      simp only [hq, hq', if_true]; rfl
    · have hq' : ¬ FloatKind.f64.format.quiet t = t := hq
      simp only [hq, hq', if_false]
      simp [choose, Sem.run, Question.forced, World.drewN]
      rfl
theorem quiet_pos (t : Nat) : 0 < Ieee.double.quiet t % Ieee.double.binade := by
  have e : Ieee.double.binade = 2 ^ 52 := rfl
  have e2 : Ieee.double.quiet t = t ||| 2 ^ 51 := rfl
  rw [e, e2]
  rcases Nat.eq_zero_or_pos ((t ||| 2 ^ 51) % 2 ^ 52) with h | h
  · exfalso
    have h2 : ((t ||| 2 ^ 51) % 2 ^ 52).testBit 51 = true := by
      rw [Nat.testBit_mod_two_pow, Nat.testBit_or, Nat.testBit_two_pow_self]
      simp
    rw [h] at h2
    simp at h2
  · exact h
theorem rte_rep {b f : Nat} (hx : Rep b f) (w : World) : Rep (rteRes b w) (wholeF f) := by
  unfold wholeF
  rw [← hx.of_isN]
  cases h : isN b
  · have e : b = f := by have := hx.eq; rw [nrm_of_not h] at this; exact this
    subst e
    have hr : rteRes b w = Ieee.double.write ((Ieee.double.read b).integral .even) := by
      unfold rteRes
      unfold isN at h
      cases hd : Ieee.double.read b <;> simp [hd, Ieee.Datum.isNaN] at h ⊢
    rw [hr]
    refine Rep.self (write_lt64 _) (nrm_of_not (write_notN _ ?_))
    unfold isN at h
    cases hd : Ieee.double.read b <;> simp [hd, Ieee.Datum.isNaN, Ieee.Datum.integral] at h ⊢
  · obtain ⟨s, t, hr⟩ := read_nan_of h
    have key : ∀ c, (c = b ∨ c = Ieee.double.write (.nan s (Ieee.double.quiet t))) → Rep c nanB := by
      rintro c (rfl | rfl)
      · exact Rep.nan hx.lt h
      · refine Rep.nan (write_lt64 _) ?_
        rw [isN_iff]
        have h1 := quiet_pos t
        have h2 : Ieee.double.quiet t % Ieee.double.binade < Ieee.double.binade := Nat.mod_lt _ (by decide +kernel)
        show 9218868437227405312 < (Ieee.double.word s (Ieee.double.infRung + Ieee.double.quiet t % Ieee.double.binade)) % 9223372036854775808
        have e1 : Ieee.double.signWeight = 9223372036854775808 := by decide +kernel
        have e3 : Ieee.double.infRung = 9218868437227405312 := by decide +kernel
        have e4 : Ieee.double.binade = 4503599627370496 := by decide +kernel
        unfold Ieee.Format.word
        rw [e1, e3]
        rw [e4] at h1 h2
        rw [e4]
        generalize Ieee.double.quiet t % 4503599627370496 = m at *
        cases s <;> simp <;> omega
    unfold rteRes
    rw [hr]
    simp only [if_true]
    apply key
    split
    · exact .inl rfl
    · split
      · exact .inl rfl
      · exact .inr rfl
@[go_sem] theorem call_rte (b : Nat) (w : World) : (callFunc 180 #[.float .f64 b]).run Try.prog w = .ok (.value (.float .f64 (rteRes b w))) (w.drewN (rteDr b)) := by
  rw [run_callFunc_extern (e := Extern.MathFloor.toIntegral "math.RoundToEven" .even) Try.func180 (by kernel_rfl) (by kernel_rfl) (by kernel_rfl) (by kernel_rfl), run_rte]; rfl
section
variable {x y f g : Nat} (hx : Rep x f) (hy : Rep y g) (w : World)
include hx
theorem frexpW_c : Calls Try.prog 98 #[.float .f64 x] w (RetFI (partF f) (partE f) w) := by
  go_enter Try.func98, Try.ntmps98
  go_wp2_with (go_at_call 147; refine (frexp_c (by assumption) _).mono ?_; rintro e w' ⟨r, n, rfl, hr, rfl⟩)
  go_ret2
  exact RetFI.mk _ hr rfl
theorem parts_c : Calls Try.prog 26 #[.float .f64 x] w (RetFI (partF f) (partE f) w) := by
  go_enter Try.func26, Try.ntmps26
  go_wp2_with (go_at_call 98; refine (frexpW_c (by assumption) _).mono ?_; rintro e w' ⟨r, n, rfl, hr, rfl⟩)
  go_ret2
  exact RetFI.mk _ hr rfl
theorem ldexpW_c (i : Int) (hn1 : -100000 ≤ i) (hn2 : i ≤ 100000) : Calls Try.prog 47 #[.float .f64 x, .int .i64 i] w (RetF (scaleF f i) w) := by
  go_enter Try.func47, Try.ntmps47
  go_wp2_with (go_at_call 112; refine (ldexp_c (by assumption) _ _ hn1 hn2).mono ?_; rintro e w' ⟨r, n, rfl, hr, rfl⟩)
  go_ret
  exact RetF.mk _ hr
theorem scale_c (i : Int) : Calls Try.prog 28 #[.float .f64 x, .int .i64 i] w (RetF (scaleF f (clampN i)) w) := by
  go_enter Try.func28, Try.ntmps28
  go_wp2_with (go_at_call 47; refine (ldexpW_c (by assumption) _ _ (by omega) (by omega)).mono ?_; rintro e w' ⟨r, n, rfl, hr, rfl⟩)
  all_goals go_ret
  all_goals
    exact RetF.mk _ hr
theorem whole_c : Calls Try.prog 161 #[.float .f64 x] w (RetF (wholeF f) w) := by
  go_enter Try.func161, Try.ntmps161
  go_wp2
  go_ret
  exact RetF.mk _ (rte_rep hx w)
include hy
theorem exact_c : Calls Try.prog 14 #[.float .f64 x, .float .f64 y] w (RetFF (fadd f g) (lostF f g) w) := by
  have h3 := hx.abs.lt' hy.abs
  cases h1 : fin (fadd f g) <;> cases h2 : flt (fabs f) (fabs g)
  all_goals
    have h1' := Lib.hid h1
    have h2' := Lib.hid h2
    go_enter Try.func14, Try.ntmps14
    go_wp2_with (first | (go_at_call 88; refine (finite_c (hx.add hy) _).mono ?_; rintro e w' ⟨n, rfl, rfl⟩) | go_in)
    go_ret2
  · rw [show lostF f g = 0 by simp [lostF, h1'.out]]; exact RetFF.mk _ (hx.add hy) Rep.c0
  · rw [show lostF f g = 0 by simp [lostF, h1'.out]]; exact RetFF.mk _ (hx.add hy) Rep.c0
  · rw [show lostF f g = fadd (fsub g (fsub (fadd f g) f)) 0 by simp [lostF, h1'.out, h2'.out]]; exact RetFF.mk _ (hx.add hy) ((hy.sub ((hx.add hy).sub hx)).add Rep.c0)
  · rw [show lostF f g = fadd (fsub f (fsub (fadd f g) g)) 0 by simp [lostF, h1'.out, h2'.out]]; exact RetFF.mk _ (hx.add hy) ((hx.sub ((hx.add hy).sub hy)).add Rep.c0)
end
end Go.Proofs.Ytcfkhhnkboealaa
