/- What the program's own functions on floats come to: parts, scales, whole ones, sums with their loss. No condition. -/
import Derived.Test.YtndknkdfbjfjcaaDoorMid2
namespace Go.Proofs.YtndknkdfbjfjcaaDoor
set_option linter.unusedVariables false
set_option maxRecDepth 100000

/-- the nearest whole number -/
def wholeF (f : Nat) : Nat := if isN f then nanB else Ieee.double.write ((Ieee.double.read f).integral .even)
def clampN (i : Int) : Int := if -5000 < (if i < 5000 then i else 5000) then (if i < 5000 then i else 5000) else -5000
def rteRes (b : Nat) (w : World) : Nat :=
  match Ieee.double.read b with
  | .nan s t => if Ieee.double.quiet t = t then b else if (Question.extern "math.Floor,Ceil,Trunc,RoundToEven.signallingNaN kept" 2).cut (w.tape w.drawn (.extern "math.Floor,Ceil,Trunc,RoundToEven.signallingNaN kept" 2)) == 1 then b else Ieee.double.write (.nan s (Ieee.double.quiet t))
  | d => Ieee.double.write (d.integral .even)
def rteDr (b : Nat) : Nat :=
  match Ieee.double.read b with
  | .nan s t => if Ieee.double.quiet t = t then 0 else 1
  | d => 0
theorem run_rte {P : Program} (b : Nat) (w : World) : (Extern.MathFloor.toIntegral "math.RoundToEven" .even #[.float .f64 b]).run P w = .ok (.float .f64 (rteRes b w)) (w.drewN (rteDr b)) := by
  unfold Extern.MathFloor.toIntegral rteRes rteDr
  show Sem.run P (match Ieee.double.read b with | .nan s t => _ | d => _) w = _
  cases hd : Ieee.double.read b with
  | number s m e => rfl
  | infinity s => rfl
  | nan s t =>
    simp only
    by_cases hq : Ieee.double.quiet t = t
    · have hq' : FloatKind.f64.format.quiet t = t := hq
      simp only [hq, hq', if_true]; rfl
    · have hq' : ¬ FloatKind.f64.format.quiet t = t := hq
      simp only [hq, hq', if_false]
      simp [choose, Sem.run, Question.forced, World.drewN]
      rfl
theorem quiet_pos (t : Nat) : 0 < Ieee.double.quiet t % Ieee.double.binade := by
  have e : Ieee.double.binade = 2 ^ 52 := rfl
  have e2 : Ieee.double.quiet t = t ||| 2 ^ 51 := rfl
  rw [e, e2]
  rcases Nat.eq_zero_or_pos ((t ||| 2 ^ 51) % 2 ^ 52) with h | h
  · exfalso
    have h2 : ((t ||| 2 ^ 51) % 2 ^ 52).testBit 51 = true := by
      rw [Nat.testBit_mod_two_pow, Nat.testBit_or, Nat.testBit_two_pow_self]
      simp
    rw [h] at h2
    simp at h2
  · exact h
theorem rte_rep {b f : Nat} (hx : Rep b f) (w : World) : Rep (rteRes b w) (wholeF f) := by
  unfold wholeF
  rw [← hx.of_isN]
  cases h : isN b
  · have e : b = f := by have := hx.eq; rw [nrm_of_not h] at this; exact this
    subst e
    have hr : rteRes b w = Ieee.double.write ((Ieee.double.read b).integral .even) := by
      unfold rteRes
      unfold isN at h
      cases hd : Ieee.double.read b <;> simp [hd, Ieee.Datum.isNaN] at h ⊢
    rw [hr]
    refine Rep.self (write_lt64 _) (nrm_of_not (write_notN _ ?_))
    unfold isN at h
    cases hd : Ieee.double.read b <;> simp [hd, Ieee.Datum.isNaN, Ieee.Datum.integral] at h ⊢
  · obtain ⟨s, t, hr⟩ := read_nan_of h
    have key : ∀ c, (c = b ∨ c = Ieee.double.write (.nan s (Ieee.double.quiet t))) → Rep c nanB := by
      rintro c (rfl | rfl)
      · exact Rep.nan hx.lt h
      · refine Rep.nan (write_lt64 _) ?_
        rw [isN_iff]
        have h1 := quiet_pos t
        have h2 : Ieee.double.quiet t % Ieee.double.binade < Ieee.double.binade := Nat.mod_lt _ (by decide +kernel)
        show 9218868437227405312 < (Ieee.double.word s (Ieee.double.infRung + Ieee.double.quiet t % Ieee.double.binade)) % 9223372036854775808
        have e1 : Ieee.double.signWeight = 9223372036854775808 := by decide +kernel
        have e3 : Ieee.double.infRung = 9218868437227405312 := by decide +kernel
        have e4 : Ieee.double.binade = 4503599627370496 := by decide +kernel
        unfold Ieee.Format.word
        rw [e1, e3]
        rw [e4] at h1 h2
        rw [e4]
        generalize Ieee.double.quiet t % 4503599627370496 = m at *
        cases s <;> simp <;> omega
    unfold rteRes
    rw [hr]
    simp only [if_true]
    apply key
    split
    · exact .inl rfl
    · split
      · exact .inl rfl
      · exact .inr rfl
@[go_sem] theorem call_rte (b : Nat) (w : World) : (callFunc 80 #[.float .f64 b]).run Tryd.prog w = .ok (.value (.float .f64 (rteRes b w))) (w.drewN (rteDr b)) := by
  rw [run_callFunc_extern (e := Extern.MathFloor.toIntegral "math.RoundToEven" .even) Tryd.func80 (by kernel_rfl) (by kernel_rfl) (by kernel_rfl) (by kernel_rfl), run_rte]; rfl
section
variable {x y f g : Nat} (hx : Rep x f) (hy : Rep y g) (w : World)
include hx
theorem frexpW_c : Calls Tryd.prog 73 #[.float .f64 x] w (RetFI (partF f) (partE f) w) := by
  go_enter Tryd.func73, Tryd.ntmps73
  go_wp2_with (go_at_call 112; refine (frexp_c (by assumption) _).mono ?_; rintro e w' ⟨r, n, rfl, hr, rfl⟩)
  go_ret2
  exact RetFI.mk _ hr rfl
theorem parts_c : Calls Tryd.prog 22 #[.float .f64 x] w (RetFI (partF f) (partE f) w) := by
  go_enter Tryd.func22, Tryd.ntmps22
  go_wp2_with (go_at_call 73; refine (frexpW_c (by assumption) _).mono ?_; rintro e w' ⟨r, n, rfl, hr, rfl⟩)
  go_ret2
  exact RetFI.mk _ hr rfl
theorem ldexpW_c (i : Int) (hn1 : -100000 ≤ i) (hn2 : i ≤ 100000) : Calls Tryd.prog 76 #[.float .f64 x, .int .i64 i] w (RetF (scaleF f i) w) := by
  go_enter Tryd.func76, Tryd.ntmps76
  go_wp2_with (go_at_call 115; refine (ldexp_c (by assumption) _ _ hn1 hn2).mono ?_; rintro e w' ⟨r, n, rfl, hr, rfl⟩)
  go_ret
  exact RetF.mk _ hr
theorem scale_c (i : Int) : Calls Tryd.prog 28 #[.float .f64 x, .int .i64 i] w (RetF (scaleF f (clampN i)) w) := by
  go_enter Tryd.func28, Tryd.ntmps28
  go_wp2_with (go_at_call 76; refine (ldexpW_c (by assumption) _ _ (by omega) (by omega)).mono ?_; rintro e w' ⟨r, n, rfl, hr, rfl⟩)
  all_goals go_ret
  all_goals
    exact RetF.mk _ hr
theorem whole_c : Calls Tryd.prog 30 #[.float .f64 x] w (RetF (wholeF f) w) := by
  go_enter Tryd.func30, Tryd.ntmps30
  go_wp2
  go_ret
  exact RetF.mk _ (rte_rep hx w)
include hy
end
end Go.Proofs.YtndknkdfbjfjcaaDoor
