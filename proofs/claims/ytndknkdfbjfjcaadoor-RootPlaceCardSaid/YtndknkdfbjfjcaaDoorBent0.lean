/- Sines and cosines of complex numbers. No condition. -/
import Derived.Test.YtndknkdfbjfjcaaDoorHalv
import Derived.Deep.RegionWith
import Derived.Laws.EntriesVeiled
namespace Go.Proofs.YtndknkdfbjfjcaaDoor
open Go.RowKit
set_option linter.unusedVariables false
set_option linter.unusedSimpArgs false
set_option maxRecDepth 100000
set_option maxHeartbeats 4000000
section
variable {x y z t f g h k : Nat} (hx : Rep x f) (hy : Rep y g) (hz : Rep z h) (ht : Rep t k) (w : World)
include hx hy hz
theorem bent0_c : Calls Tryd.prog 82 #[.float .f64 x, .float .f64 y, .float .f64 z, .int .i64 0] w (RetCG (fmul f (coshF h)) (fmul g (sinhF h)) w) := by
  go_enter Tryd.func82, Tryd.ntmps82
  go_wp2_with (first | (go_at_call 123; (with_reducible refine (halves_c _).mono ?_); rintro e w' ⟨rfl, hg⟩))
  have c0 : ∀ n, ((w'.alloc (.cells #[.func (.func 17) #[] #[], .func (.func 19) #[] #[]] 83)).drewN n).cell? ⟨w'.heap.size, 0, none⟩ = some (.func (.func 17) #[] #[]) := fun n => cell_new _ _ _ _ _ _ rfl
  have c1 : ∀ n, ((w'.alloc (.cells #[.func (.func 17) #[] #[], .func (.func 19) #[] #[]] 83)).drewN n).cell? ⟨w'.heap.size, 1, none⟩ = some (.func (.func 19) #[] #[]) := fun n => cell_new _ _ _ _ _ _ rfl
  go_region_with (first | (go_at_call 17; (with_reducible refine (cosh_c hz _).mono ?_); rintro e w' ⟨r1, n1, rfl, hr1, rfl⟩) | (go_at_call 19; (with_reducible refine (sinh_c hz _).mono ?_); rintro e w' ⟨r2, n2, rfl, hr2, rfl⟩))
  all_goals go_wp2
  all_goals go_ret
  all_goals exact ⟨_, _, rfl, hx.mul hr1, hy.mul hr2, grown_drewN' _ (hg.alloc _ _)⟩
end
end Go.Proofs.YtndknkdfbjfjcaaDoor
