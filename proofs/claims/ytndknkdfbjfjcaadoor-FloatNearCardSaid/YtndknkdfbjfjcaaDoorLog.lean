/- What logarithms come to, of the program and of the document's answer. No condition. -/
import Derived.Test.YtndknkdfbjfjcaaDoorPartsB
import Derived.Test.YtndknkdfbjfjcaaDoorOpp
namespace Go.Proofs.YtndknkdfbjfjcaaDoor
open Go.RowKit
set_option linter.unusedVariables false
set_option linter.unusedSimpArgs false
set_option maxRecDepth 100000

/-- a whole number as a float -/
def ofInt (n : Int) : Nat := Ieee.double.write (.number (n < 0) n.natAbs 0)
theorem ofInt_rep (n : Int) : Rep (floatOfInt .f64 n) (ofInt n) := by
  show Rep (Ieee.double.write (.number (n < 0) n.natAbs 0)) (Ieee.double.write (.number (n < 0) n.natAbs 0))
  exact Rep.self (write_lt64 _) (nrm_of_not (write_notN _ rfl))
def qSeq (s : Nat) : Nat → Nat
  | 0 => 4585925428558828667
  | i + 1 => fadd (fdiv 4607182418800017408 (ofInt (23 - 2 * i))) (fmul s (qSeq s i))
def oddF (f : Nat) : Nat := fadd (fmul 4611686018427387904 f) (fmul (fmul 4611686018427387904 f) (fmul (fmul f f) (qSeq (fmul f f) 11)))
def logM (x : Nat) : Nat := if flt (partF x) 4604544271217802189 then fmul 4611686018427387904 (partF x) else partF x
def logE (x : Nat) : Int := if flt (partF x) 4604544271217802189 then partE x - 1 else partE x
def logF (x : Nat) : Nat :=
  if isN x || isInf x 1 then x else if flt x 0 then nanB else if feq x 0 then infN else
  fadd (fmul (ofInt (logE x)) 4604418534311723008) (fadd (fmul (ofInt (logE x)) 4461442080421002358) (oddF (fdiv (fsub (logM x) 4607182418800017408) (fadd (logM x) 4607182418800017408))))
def moreF (x : Nat) : Nat :=
  if fle 13821547256400052224 x && fle x 4600427019358961664 then oddF (fdiv x (fadd 4611686018427387904 x)) else logF (fadd 4607182418800017408 x)
theorem Rep.c25 : Rep 4585925428558828667 4585925428558828667 := Rep.self (by decide) (by decide +kernel)
theorem Rep.cH : Rep 4604418534311723008 4604418534311723008 := Rep.self (by decide) (by decide +kernel)
theorem Rep.cL : Rep 4461442080421002358 4461442080421002358 := Rep.self (by decide) (by decide +kernel)
theorem Rep.cR : Rep 4604544271217802189 4604544271217802189 := Rep.self (by decide) (by decide +kernel)
section
variable {x y f g : Nat} (hx : Rep x f) (hy : Rep y g) (w : World)
include hx
theorem odd_c : Calls Tryd.prog 156 #[.float .f64 x] w (RetF (oddF f) w) := by
  go_enter Tryd.func156, Tryd.ntmps156
  go_wp2
  have hs := hx.mul hx (w := w)
  generalize fres .mul x x w = s at hs ⊢
  generalize fdr .mul x x = d0
  go_loopw [4, 10] (fun q i wr => ∃ k d v : Nat, i = .int .i64 k ∧ k ≤ 11 ∧ q = .float .f64 v ∧ Rep v (qSeq (fmul f f) k) ∧ wr = w.drewN d) (fun _ i _ => 11 - (intOf i).toNat)
  case atStart => exact ⟨0, _, _, rfl, by omega, rfl, Rep.c25, rfl⟩
  case round =>
    obtain ⟨k, d, v, rfl, hk, rfl, hv, rfl⟩ := hrel
    by_cases hlt : k < 11
    · go_wp2
      go_roundw
      case rel =>
        refine ⟨k + 1, _, _, by go_num, by omega, rfl, ?_, rfl⟩
        exact (Rep.cone.quo (ofInt_rep _)).add (hs.mul hv)
      case measure => simp [intOf]; omega
    · have hk2 : k = 11 := by omega
      subst hk2
      go_wp2
      go_ret
      exact RetF.mk _ ((Rep.two.mul hx).add ((Rep.two.mul hx).mul (hs.mul hv)))
theorem refOdd_c : Calls Tryd.prog 157 #[.float .f64 x] w (RetF (oddF f) w) := by
  go_enter Tryd.func157, Tryd.ntmps157
  go_wp2
  have hs := hx.mul hx (w := w)
  generalize fres .mul x x w = s at hs ⊢
  generalize fdr .mul x x = d0
  go_loopw [4, 5] (fun q i wr => ∃ k d v : Nat, i = .int .i64 (23 - 2 * (k : Int)) ∧ k ≤ 11 ∧ q = .float .f64 v ∧ Rep v (qSeq (fmul f f) k) ∧ wr = w.drewN d) (fun _ i _ => (intOf i).toNat)
  case atStart => exact ⟨0, _, _, rfl, by omega, rfl, Rep.c25, rfl⟩
  case round =>
    obtain ⟨k, d, v, rfl, hk, rfl, hv, rfl⟩ := hrel
    by_cases hlt : k < 11
    · go_wp2
      go_roundw
      case rel =>
        refine ⟨k + 1, _, _, ?_, by omega, rfl, ?_, rfl⟩
        · congr 1; omega
        · exact (Rep.cone.quo (ofInt_rep _)).add (hs.mul hv)
      case measure => simp [intOf]; omega
    · have hk2 : k = 11 := by omega
      subst hk2
      go_wp2
      go_ret
      exact RetF.mk _ ((Rep.two.mul hx).add ((Rep.two.mul hx).mul (hs.mul hv)))
end
end Go.Proofs.YtndknkdfbjfjcaaDoor
