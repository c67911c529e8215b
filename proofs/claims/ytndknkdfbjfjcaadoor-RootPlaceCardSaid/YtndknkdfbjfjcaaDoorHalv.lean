/- The two halves, as functions. No condition. -/
import Derived.Test.YtndknkdfbjfjcaaDoorPow
import Derived.Deep.RegionWith
import Derived.Laws.EntriesVeiled
namespace Go.Proofs.YtndknkdfbjfjcaaDoor
open Go.RowKit
set_option linter.unusedVariables false
set_option linter.unusedSimpArgs false
set_option maxRecDepth 100000
set_option maxHeartbeats 4000000
theorem halves_c (w : World) : Calls Tryd.prog 123 #[] w (fun e w' => e = .returned (.agg #[.func (.func 17) #[] #[], .func (.func 19) #[] #[]]) ∧ Grown w w') := by
  go_enter Tryd.func123, Tryd.ntmps123
  go_wp2
  exact bodyPost_ret (v := .agg #[.func (.func 17) #[] #[], .func (.func 19) #[] #[]]) (by simp [results, Tryd.results123, go_sem]) rfl ⟨rfl, by repeat (first | exact Grown.refl _ | apply Grown.drew | apply Grown.alloc | apply Grown.setCell)⟩
end Go.Proofs.YtndknkdfbjfjcaaDoor
