/- What the library's plain functions on floats come to: infinities, copied signs, neighbours. No condition. -/
import Derived.Test.YtndknkdfbjfjcaaDoorSmall2
namespace Go.Proofs.YtndknkdfbjfjcaaDoor
set_option linter.unusedVariables false
set_option maxRecDepth 100000

def infP : Nat := 9218868437227405312
def infN : Nat := 18442240474082181120
def isInf (f : Nat) (s : Int) : Bool := if s = 0 then flt 9218868437227405311 (fabs f) else if s < 0 then flt 9218868437227405311 (fneg f) else flt 9218868437227405311 f
def copyF (f g : Nat) : Nat := nrm (rung f + if sgn g then 9223372036854775808 else 0)
def nextF (f g : Nat) : Nat :=
  if isN f || isN g then nanB else if feq f g then f else if feq f 0 then (1 + if sgn g then 9223372036854775808 else 0)
  else if flt f g == flt 0 f then nrm (f + 1) else nrm (f - 1)

theorem bits_or_sign (a s : Nat) (h : a < 9223372036854775808) (hs : s = 0 ∨ s = 1) : bits .or .u64 (a : Int) ((s * 9223372036854775808 : Nat) : Int) = ((a + s * 9223372036854775808 : Nat) : Int) := by
  rw [u64_or_nat a _ (by omega) (by omega)]
  rw [Nat.or_comm, nat_join 63 (s * 9223372036854775808) a (by simp only [Nat.reducePow]; omega) (by simp only [Nat.reducePow]; omega), Nat.add_comm]
theorem copy_bits (x y : Nat) : (bits .or .u64 (bits .andNot .u64 (x : Int) 9223372036854775808) (bits .and .u64 (y : Int) 9223372036854775808)).toNat = rung x + if sgn y then 9223372036854775808 else 0 := by
  rw [bits_andNot_sign, bits_and_sign]
  rw [bits_or_sign _ _ (by omega) (by omega)]
  unfold rung sgn
  rcases Nat.mod_two_eq_zero_or_one (y / 9223372036854775808) with h | h <;> rw [h] <;> rfl
theorem Rep.sgn_of {x f : Nat} (hx : Rep x f) (h : isN f = false) : sgn x = sgn f := by rw [hx.eq_of h]
theorem Rep.rung_of {x f : Nat} (hx : Rep x f) (h : isN f = false) : rung x = rung f := by rw [hx.eq_of h]
theorem add1_nat (a : Nat) : IntKind.u64.wrap ((a : Int) + 1) = ((a + 1) % 18446744073709551616 : Nat) := by rw [IntKind.wrap_u64]; omega
theorem sub1_nat (a : Nat) (h : 0 < a) (h2 : a < 18446744073709551616) : IntKind.u64.wrap ((a : Int) - 1) = ((a - 1 : Nat) : Int) := by rw [IntKind.wrap_u64]; omega

def RetFI (f : Nat) (i : Int) (w : World) (e : Ending) (w' : World) : Prop := ∃ r n, e = .returned (.tuple #[.float .f64 r, .int .i64 i]) ∧ Rep r f ∧ w' = w.drewN n
def RetFF (f g : Nat) (w : World) (e : Ending) (w' : World) : Prop := ∃ r s n, e = .returned (.tuple #[.float .f64 r, .float .f64 s]) ∧ Rep r f ∧ Rep s g ∧ w' = w.drewN n
theorem RetFI.mk {r f : Nat} {i j : Int} {w : World} (n : Nat) (h : Rep r f) (hi : j = i) : RetFI f i w (.returned (.tuple #[.float .f64 r, .int .i64 j])) (w.drewN n) := ⟨r, n, by rw [hi], h, rfl⟩
theorem RetFI.mk0 {r f : Nat} {i j : Int} {w : World} (h : Rep r f) (hi : j = i) : RetFI f i w (.returned (.tuple #[.float .f64 r, .int .i64 j])) w := ⟨r, 0, by rw [hi], h, rfl⟩
theorem RetFF.mk {r s f g : Nat} {w : World} (n : Nat) (h : Rep r f) (h2 : Rep s g) : RetFF f g w (.returned (.tuple #[.float .f64 r, .float .f64 s])) (w.drewN n) := ⟨r, s, n, rfl, h, h2, rfl⟩
theorem RetFF.mk0 {r s f g : Nat} {w : World} (h : Rep r f) (h2 : Rep s g) : RetFF f g w (.returned (.tuple #[.float .f64 r, .float .f64 s])) w := ⟨r, s, 0, rfl, h, h2, rfl⟩
theorem Rep.nanC : Rep 9221120237041090561 nanB := Rep.nan (by decide) (by decide +kernel)
theorem Rep.c1 : Rep 1 1 := Rep.self (by decide) (by decide +kernel)
theorem Rep.cinf : Rep 9218868437227405312 9218868437227405312 := Rep.self (by decide) (by decide +kernel)
theorem Rep.cninf : Rep 18442240474082181120 18442240474082181120 := Rep.self (by decide) (by decide +kernel)
theorem nan_c (w : World) : Calls Tryd.prog 102 #[] w (RetF nanB w) := by
  go_enter Tryd.func102, Tryd.ntmps102
  go_wp2
  go_ret
  exact RetF.mk0 Rep.nanC
theorem inf_c (s : Int) (w : World) : Calls Tryd.prog 62 #[.int .i64 s] w (RetF (if 0 ≤ s then infP else infN) w) := by
  by_cases h : 0 ≤ s
  · have h' := Lib.hid h
    go_enter Tryd.func62, Tryd.ntmps62
    go_wp2
    go_ret
    exact RetF.mk0 Rep.cinf
  · have h' := Lib.hid h
    go_enter Tryd.func62, Tryd.ntmps62
    go_wp2
    go_ret
    exact RetF.mk0 Rep.cninf

section
variable {x y f g : Nat} (hx : Rep x f) (hy : Rep y g) (w : World)
include hx
theorem isNaN_c : Calls Tryd.prog 101 #[.float .f64 x] w (RetB (isN f) w) := by
  have h1 := Lib.hid hx.none'
  go_enter Tryd.func101, Tryd.ntmps101
  go_wp2
  go_ret
  exact RetB.mk0 h1.out
theorem isInf_c (s : Int) : Calls Tryd.prog 69 #[.float .f64 x, .int .i64 s] w (RetB (isInf f s) w) := by
  have h1 := Lib.hid (hx.gt' Rep.cmax)
  have h2 := Lib.hid (hx.neg.gt' Rep.cmax)
  have h3 := Lib.hid (hx.abs.gt' Rep.cmax)
  by_cases hs : s = 0
  · have e : isInf f s = flt 9218868437227405311 (fabs f) := by simp [isInf, hs]
    have e' := Lib.hid e
    clear e
    subst hs
    go_enter Tryd.func69, Tryd.ntmps69
    go_wp2
    go_ret
    exact RetB.mk0 (by rw [e'.out, ← h3.out])
  · by_cases hm : s < 0
    · have e : isInf f s = flt 9218868437227405311 (fneg f) := by simp [isInf, hs, hm]
      have e' := Lib.hid e
      clear e
      have hb : (s == 0) = false := by simp [hs]
      clear hs
      go_enter Tryd.func69, Tryd.ntmps69
      go_wp2
      go_ret
      exact RetB.mk0 (by rw [e'.out, ← h2.out])
    · have e : isInf f s = flt 9218868437227405311 f := by simp [isInf, hs, hm]
      have e' := Lib.hid e
      clear e
      have hb : (s == 0) = false := by simp [hs]
      clear hs
      go_enter Tryd.func69, Tryd.ntmps69
      go_wp2
      go_ret
      exact RetB.mk0 (by rw [e'.out, ← h1.out])
include hy
theorem copysign_c (hf : isN f = false) (hg : isN g = false) : Calls Tryd.prog 93 #[.float .f64 x, .float .f64 y] w (RetF (copyF f g) w) := by
  have h1 := Lib.hid (copy_bits x y)
  have h2 := Lib.hid (hx.rung_of hf)
  have h3 := Lib.hid (hy.sgn_of hg)
  go_enter Tryd.func93, Tryd.ntmps93
  go_wp2
  go_ret
  refine RetF.mk0 ⟨?_, ?_⟩
  · rw [h1.out]; have := rung_lt x; split <;> omega
  · rw [h1.out, h2.out, h3.out]; rfl
theorem next_c : Calls Tryd.prog 75 #[.float .f64 x, .float .f64 y] w (RetF (nextF f g) w) := by
  have h1 := hx.eq' hy
  have h2 := hx.eq' Rep.c0
  have h3 := hy.gt' hx
  have h4 := hx.gt' Rep.c0
  go_enter Tryd.func75, Tryd.ntmps75
  go_wp2_with (first | (go_at_call 101; refine (isNaN_c (by assumption) _).mono ?_; rintro e w' ⟨n, rfl, rfl⟩) | (go_at_call 102; refine (nan_c _).mono ?_; rintro e w' ⟨r, n, rfl, hr, rfl⟩) | go_in)
  all_goals go_ret
  · exact RetF.mk _ (by rw [show nextF f g = nanB by simp [nextF, *]]; exact hr)
  · exact RetF.mk _ (by rw [show nextF f g = nanB by simp [nextF, *]]; exact hr)
  · exact RetF.mk _ (by rw [show nextF f g = f by simp [nextF, *]]; exact hx)
  · have e := copy_bits 1 y
    have k2 : isN g = false := by assumption
    rw [hy.sgn_of k2] at e
    refine RetF.mk _ ?_
    rw [show nextF f g = 1 + if sgn g then 9223372036854775808 else 0 by simp [nextF, *]]
    have e2 : (1 : Nat) + (if sgn g then 9223372036854775808 else 0) = (bits .or .u64 (bits .andNot .u64 1 9223372036854775808) (bits .and .u64 (y : Int) 9223372036854775808)).toNat := e.symm
    have e3 : Rep (1 + if sgn g then 9223372036854775808 else 0) (1 + if sgn g then 9223372036854775808 else 0) := by
      cases sgn g
      · exact Rep.c1
      · exact Rep.self (by decide) (by decide +kernel)
    have e4 : Rep (bits .or .u64 (bits .andNot .u64 1 9223372036854775808) (bits .and .u64 (y : Int) 9223372036854775808)).toNat (1 + if sgn g then 9223372036854775808 else 0) := by rw [← e2]; exact e3
    exact e4
  · have hf0 : isN f = false := by simpa using (by assumption : ¬ isN f = true)
    refine RetF.mk _ ?_
    rw [show nextF f g = nrm (f + 1) by simp [nextF, *]]
    have hlt : f < 18446744073709551615 := by
      rw [isN_false_iff] at hf0; have := hx.flt; omega
    rw [add1_nat, hx.eq_of hf0, Int.toNat_natCast, Nat.mod_eq_of_lt (by omega)]
    exact ⟨by omega, rfl⟩
  · have hf0 : isN f = false := by simpa using (by assumption : ¬ isN f = true)
    have k4 : feq f 0 = false := by assumption
    refine RetF.mk _ ?_
    rw [show nextF f g = nrm (f - 1) by simp [nextF, *]]
    have hpos : 0 < f := by
      rcases Nat.eq_zero_or_pos f with e | e
      · rw [e] at k4; exact absurd k4 (by decide +kernel)
      · exact e
    have := hx.flt
    rw [hx.eq_of hf0, sub1_nat f hpos this, Int.toNat_natCast]
    exact ⟨by omega, rfl⟩
end
end Go.Proofs.YtndknkdfbjfjcaaDoor
