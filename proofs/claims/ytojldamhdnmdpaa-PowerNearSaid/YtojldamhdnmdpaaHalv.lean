/- The two halves, as functions. No condition. -/
import Derived.Test.YtojldamhdnmdpaaPow
import Derived.Deep.RegionWith
import Derived.Laws.EntriesVeiled
namespace Go.Proofs.Ytojldamhdnmdpaa
open Go.RowKit
set_option linter.unusedVariables false
set_option linter.unusedSimpArgs false
set_option maxRecDepth 100000
set_option maxHeartbeats 4000000
theorem halves_c (w : World) : Calls Try.prog 68 #[] w (fun e w' => e = .returned (.agg #[.func (.func 75) #[] #[], .func (.func 76) #[] #[]]) ∧ Grown w w') := by
  go_enter Try.func68, Try.ntmps68
  go_wp2
  exact bodyPost_ret (v := .agg #[.func (.func 75) #[] #[], .func (.func 76) #[] #[]]) (by simp [results, Try.results68, go_sem]) rfl ⟨rfl, by repeat (first | exact Grown.refl _ | apply Grown.drew | apply Grown.alloc | apply Grown.setCell)⟩
end Go.Proofs.Ytojldamhdnmdpaa
