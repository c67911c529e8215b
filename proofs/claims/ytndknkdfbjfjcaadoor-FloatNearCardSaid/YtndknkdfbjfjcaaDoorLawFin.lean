/- Whether a float is finite, as the laws ask it. No condition. -/
import Derived.Test.YtndknkdfbjfjcaaDoorAliveA
namespace Go.Proofs.YtndknkdfbjfjcaaDoor
open Go.RowKit
set_option linter.unusedVariables false
set_option maxRecDepth 100000
theorem fsub_self_fin {f : Nat} (h : fin f = true) : fsub f f = 0 := by
  obtain ⟨m, k, hr, hm, _⟩ := read_number (fin_rung h)
  rw [sub_def, hr]
  simp only [Ieee.Datum.opposite, Ieee.Datum.sum]
  have e : ∀ s m k, Ieee.signed s m k + Ieee.signed (!s) m k = 0 := by
    intro s m k
    rw [signed_eq, signed_eq]
    cases s <;> simp <;> omega
  rw [e]
  simp
  rfl
theorem sub_self_eq (f : Nat) : feq (fsub f f) 0 = fin f := by
  cases h : fin f
  · have : fsub f f = nanB := by
      unfold fin at h
      simp at h
      cases hn : isN f
      · have hb := (notN_iff f).1 hn
        rw [sub_def, read_inf (by omega)]
        cases sgn f <;> rfl
      · rw [sub_def, sum_none _ _ (.inl hn)]; rfl
    rw [this]; decide +kernel
  · rw [fsub_self_fin h]; decide +kernel
section
variable {x f : Nat} (hx : Rep x f) (w : World)
include hx
end
end Go.Proofs.YtndknkdfbjfjcaaDoor
