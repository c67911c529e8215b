/- The library's entries without a body, by one equation each: bits of floats and back, roots, whole ones. No condition. -/
import Derived.Test.YtojldamhdnmdpaaRows
import Derived.Test.YtojldamhdnmdpaaFl
namespace Go.Proofs.Ytojldamhdnmdpaa
set_option linter.unusedVariables false
@[go_sem] theorem call_bits (b : Nat) (w : World) : (callFunc 41 #[.float .f64 b]).run Try.prog w = .ok (.value (.int .u64 (b : Int))) w := by
  rw [run_callFunc_extern (e := Extern.MathFloatBits.float64bits) Try.func41 (by kernel_rfl) (by kernel_rfl) (by kernel_rfl) (by kernel_rfl)]; rfl
@[go_sem] theorem call_frombits (n : Int) (w : World) : (callFunc 17 #[.int .u64 n]).run Try.prog w = .ok (.value (.float .f64 n.toNat)) w := by
  rw [run_callFunc_extern (e := Extern.MathFloatBits.float64frombits) Try.func17 (by kernel_rfl) (by kernel_rfl) (by kernel_rfl) (by kernel_rfl)]; rfl
end Go.Proofs.Ytojldamhdnmdpaa
