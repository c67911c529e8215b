/- Whether a float is finite, as the laws ask it. No condition. -/
import Derived.Test.YtpdhmehjlmohcaaAliveA
namespace Go.Proofs.Ytpdhmehjlmohcaa
open Go.RowKit
set_option linter.unusedVariables false
set_option maxRecDepth 100000
theorem fsub_self_fin {f : Nat} (h : fin f = true) : fsub f f = 0 := by
  obtain ⟨m, k, hr, hm, _⟩ := read_number (fin_rung h)
  rw [sub_def, hr]
  simp only [Ieee.Datum.opposite, Ieee.Datum.sum]
  have e : ∀ s m k, Ieee.signed s m k + Ieee.signed (!s) m k = 0 := by
    intro s m k
    rw [signed_eq, signed_eq]
    cases s <;> simp <;> omega
  rw [e]
  simp
  rfl
theorem sub_self_eq (f : Nat) : feq (fsub f f) 0 = fin f := by
  cases h : fin f
  · have : fsub f f = nanB := by
      unfold fin at h
      simp at h
      cases hn : isN f
      · have hb := (notN_iff f).1 hn
        rw [sub_def, read_inf (by omega)]
        cases sgn f <;> rfl
      · rw [sub_def, sum_none _ _ (.inl hn)]; rfl
    rw [this]; decide +kernel
  · rw [fsub_self_fin h]; decide +kernel
section
variable {x f : Nat} (hx : Rep x f) (w : World)
include hx
theorem lawFinite_c : Calls Try.prog 35 #[.float .f64 x] w (RetB (fin f) w) := by
  go_enter Try.func35, Try.ntmps35
  go_wp2
  go_ret
  exact RetB.mk _ (((hx.sub hx).eq' Rep.c0).trans (sub_self_eq f))
end
end Go.Proofs.Ytpdhmehjlmohcaa
