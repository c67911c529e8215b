/- Whirls: how far they are from their centre. -/
import Derived.Test.YtcfkhhnkboealaaYh
namespace Go.Proofs.Ytcfkhhnkboealaa
open Go.RowKit
set_option linter.unusedVariables false
set_option linter.unusedSimpArgs false
set_option maxRecDepth 100000
set_option maxHeartbeats 4000000
theorem squareS_c {a b m : Nat} (ra : Rep a a) (rb : Rep b b) (w : World) (n1 : isN (fmul a a) = false) (n2 : isN (fmul b b) = false) (e : sqF a b = m) (n3 : isN m = false) : Calls Try.prog 51 #[.complex .f64 a b] w (fun e w' => e = .returned (.float .f64 m) ∧ w' = w) := by
  have w00 : World := default
  have r1 := self_of (ra.mul ra (w := w00)) n1
  have r2 := self_of (rb.mul rb (w := w00)) n2
  have q1 : ∀ W, fres .mul a a W = fmul a a := fun W => (ra.mul ra).eq_of n1
  have q2 : ∀ W, fres .mul b b W = fmul b b := fun W => (rb.mul rb).eq_of n2
  have q3 : ∀ W, fres .add (fmul a a) (fmul b b) W = m := fun W => ((r1.add r2).eq_of (by rw [show fadd (fmul a a) (fmul b b) = m from e]; exact n3)).trans e
  have d1 := fdr_mul n1
  have d2 := fdr_mul n2
  have d3 : fdr .add (fmul a a) (fmul b b) = 0 := fdr_add (by rw [show fadd (fmul a a) (fmul b b) = m from e]; exact n3)
  go_enter Try.func51, Try.ntmps51
  go_wp2
  go_ret
  exact ⟨rfl, rfl⟩
end Go.Proofs.Ytcfkhhnkboealaa
