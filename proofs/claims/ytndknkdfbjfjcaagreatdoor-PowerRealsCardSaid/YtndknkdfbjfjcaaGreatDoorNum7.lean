/- A number of a pair of bits, with the world told. No condition. -/
import Derived.Test.YtndknkdfbjfjcaaGreatDoorPow2
namespace Go.Proofs.YtndknkdfbjfjcaaGreatDoor
open Go.RowKit
set_option linter.unusedVariables false
set_option linter.unusedSimpArgs false
set_option maxRecDepth 100000
set_option maxHeartbeats 4000000
theorem number7x_c (a b : Nat) (w : World) : Calls Tryz.prog 5 #[.agg #[.int .u64 (a : Int), .int .u64 (b : Int)]] w (fun e w' => ∃ n, e = .returned (.complex .f64 a b) ∧ w' = (w.alloc (.cells #[.int .u64 (a : Int), .int .u64 (b : Int)] 24)).drewN n) := by
  go_enter Tryz.func5, Tryz.ntmps5
  go_wp2
  go_region_with (fail)
  all_goals go_wp2
  all_goals go_ret
  all_goals first | exact ⟨1, rfl, rfl⟩ | exact ⟨2, rfl, rfl⟩ | exact ⟨0, rfl, rfl⟩ | exact ⟨_, rfl, rfl⟩
end Go.Proofs.YtndknkdfbjfjcaaGreatDoor
