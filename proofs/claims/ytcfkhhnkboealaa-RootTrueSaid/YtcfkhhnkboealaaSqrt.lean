/- Roots of floats. No condition. -/
import Derived.Test.YtcfkhhnkboealaaMida
namespace Go.Proofs.Ytcfkhhnkboealaa
open Go.RowKit
set_option linter.unusedVariables false
set_option linter.unusedSimpArgs false
set_option maxRecDepth 100000

def fsqrt (x : Nat) : Nat := canon (Ieee.double.sqrt x)
theorem sqrt_def (x : Nat) : fsqrt x = canon (((Ieee.double.read x).root (Ieee.double.fractionBits + 2)).map Ieee.double.write) := rfl
theorem root_none (k : Nat) (d : Ieee.Datum) (h : d.isNaN = true) : d.root k = none := by
  cases d <;> simp [Ieee.Datum.isNaN] at h <;> rfl
theorem root_notNaN {k : Nat} {d s : Ieee.Datum} (h : d.root k = some s) : s.isNaN = false := by
  cases d with
  | nan => simp [Ieee.Datum.root] at h
  | infinity t => simp [Ieee.Datum.root] at h; rw [← h.2]; rfl
  | number t m i =>
    simp only [Ieee.Datum.root] at h
    split at h
    · simp at h; rw [← h]; rfl
    · split at h
      · cases h
      · simp at h; rw [← h]; rfl
theorem nrm_fsqrt (x : Nat) : nrm (fsqrt x) = fsqrt x := canon_map_notN _ fun _ h => root_notNaN h
theorem fsqrt_nrm (x : Nat) : fsqrt (nrm x) = fsqrt x := by
  simp only [sqrt_def]
  cases hx : isN x
  · rw [nrm_of_not hx]
  · rw [nrm_of hx, root_none _ _ hx, root_none _ _ isN_nanB]
theorem fsqrt_lt (x : Nat) : fsqrt x < 18446744073709551616 := canon_map_lt _
def sqRes (x : Nat) (w : World) : Nat :=
  match FloatKind.f64.format.sqrt x with
  | some r => r
  | none => (Question.nanBits .f64 x x).cut (w.tape w.drawn (.nanBits .f64 x x))
def sqDr (x : Nat) : Nat :=
  match FloatKind.f64.format.sqrt x with
  | some _ => 0
  | none => 1
theorem run_sqrt {P : Program} (x : Nat) (w : World) : (Extern.MathSqrt.sqrt #[.float .f64 x]).run P w = .ok (.float .f64 (sqRes x w)) (w.drewN (sqDr x)) := by
  have e : Extern.MathSqrt.sqrt #[.float .f64 x] = (match FloatKind.f64.format.sqrt x with | some r => pure (.float .f64 r) | none => do pure (.float .f64 (← choose (.nanBits .f64 x x)))) := rfl
  rw [e]
  unfold sqRes sqDr
  cases h : FloatKind.f64.format.sqrt x with
  | some r => rfl
  | none => simp [choose, Sem.run, Question.forced, World.drewN]
theorem sqrt_rep {x f : Nat} (hx : Rep x f) (w : World) : Rep (sqRes x w) (fsqrt f) := by
  rw [← hx.eq, fsqrt_nrm]
  have e1 := nrm_fsqrt x
  have e2 := fsqrt_lt x
  unfold sqRes
  unfold fsqrt at *
  have e : FloatKind.f64.format.sqrt x = Ieee.double.sqrt x := rfl
  rw [e]
  cases h : Ieee.double.sqrt x with
  | some r => rw [h] at e1 e2; exact ⟨e2, e1⟩
  | none => exact Rep.nan (nanBits_cut _ _ _).2 (nanBits_cut _ _ _).1
@[go_sem] theorem call_sqrt (x : Nat) (w : World) : (callFunc 151 #[.float .f64 x]).run Try.prog w = .ok (.value (.float .f64 (sqRes x w))) (w.drewN (sqDr x)) := by
  rw [run_callFunc_extern (e := Extern.MathSqrt.sqrt) Try.func151 (by kernel_rfl) (by kernel_rfl) (by kernel_rfl) (by kernel_rfl)]
  simp only [Sem.run_bind, run_sqrt, Result.andThen_ok]
  try rfl
section
variable {x y f g : Nat} (hx : Rep x f) (hy : Rep y g) (w : World)
include hx
theorem sqrt_c : Calls Try.prog 107 #[.float .f64 x] w (RetF (fsqrt f) w) := by
  go_enter Try.func107, Try.ntmps107
  go_wp2
  go_ret
  exact RetF.mk _ (sqrt_rep hx _)
end
end Go.Proofs.Ytcfkhhnkboealaa
