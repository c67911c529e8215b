/- The library's entries without a body, by one equation each: bits of floats and back, roots, whole ones. No condition. -/
import Derived.Test.YtndknkdfbjfjcaaDoorRows
import Derived.Test.YtndknkdfbjfjcaaDoorFl
namespace Go.Proofs.YtndknkdfbjfjcaaDoor
set_option linter.unusedVariables false
@[go_sem] theorem call_bits (b : Nat) (w : World) : (callFunc 65 #[.float .f64 b]).run Tryd.prog w = .ok (.value (.int .u64 (b : Int))) w := by
  rw [run_callFunc_extern (e := Extern.MathFloatBits.float64bits) Tryd.func65 (by kernel_rfl) (by kernel_rfl) (by kernel_rfl) (by kernel_rfl)]; rfl
@[go_sem] theorem call_frombits (n : Int) (w : World) : (callFunc 57 #[.int .u64 n]).run Tryd.prog w = .ok (.value (.float .f64 n.toNat)) w := by
  rw [run_callFunc_extern (e := Extern.MathFloatBits.float64frombits) Tryd.func57 (by kernel_rfl) (by kernel_rfl) (by kernel_rfl) (by kernel_rfl)]; rfl
end Go.Proofs.YtndknkdfbjfjcaaDoor
