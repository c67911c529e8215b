/- What the closed examples on floats need: literals, a sum of three. -/
import Derived.Test.YtndknkdfbjfjcaaWhole
namespace Go.Proofs.Ytndknkdfbjfjcaa
open Go.RowKit
set_option linter.unusedVariables false
set_option linter.unusedSimpArgs false
set_option maxRecDepth 100000
theorem Rep.litf {f : Nat} (h : f < 18446744073709551616) (hn : isN f = false) : Rep f f := Rep.self h (nrm_of_not hn)
theorem gr_tr {a b c : World} (h : Grown a b) (k : Grown b c) : Grown a c := ⟨World.keptBut_trans h.1 k.1, fun x => (k.2.1 x).trans (h.2.1 x), Nat.le_trans h.2.2 k.2.2⟩
theorem sum3_c {b x0 x1 x2 f0 f1 f2 : Nat} (h0 : Rep x0 f0) (h1 : Rep x1 f1) (h2 : Rep x2 f2) {w : World} (c0 : w.cell? ⟨b, 0, none⟩ = some (.float .f64 x0)) (c1 : w.cell? ⟨b, 1, none⟩ = some (.float .f64 x1)) (c2 : w.cell? ⟨b, 2, none⟩ = some (.float .f64 x2)) :
    Calls Try.prog 21 #[.slice (some ⟨b, 0, none⟩) 3 3] w (RetF (sumF [f0, f1, f2]) w) := by
  refine sum_c b 0 3 3 [x0, x1, x2] [f0, f1, f2] w (by decide) (by decide) (by decide) rfl ?_ ?_
  · intro j hj
    have hj' : j = 0 ∨ j = 1 ∨ j = 2 := by omega
    rcases hj' with rfl | rfl | rfl
    · exact c0
    · exact c1
    · exact c2
  · intro j hj
    have hj' : j = 0 ∨ j = 1 ∨ j = 2 := by omega
    rcases hj' with rfl | rfl | rfl
    · exact h0
    · exact h1
    · exact h2
end Go.Proofs.Ytndknkdfbjfjcaa
