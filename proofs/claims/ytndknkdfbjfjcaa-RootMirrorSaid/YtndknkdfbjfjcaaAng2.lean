/- Quarters of a circle: the program's and the document's come to one. No condition. -/
import Derived.Test.YtndknkdfbjfjcaaAng
import Derived.Test.YtndknkdfbjfjcaaStra
namespace Go.Proofs.Ytndknkdfbjfjcaa
open Go.RowKit
set_option linter.unusedVariables false
set_option linter.unusedSimpArgs false
set_option maxRecDepth 100000
set_option maxHeartbeats 4000000

def piece : Nat → Nat
  | 0 => 4609753056924401664
  | 1 => 4454258360616747008
  | _ => 4297306550709518336
def lessSeq (x m t : Nat) : Nat → Nat
  | 0 => x
  | k + 1 => fsub (lessSeq x m t k) (fmul m (fmul t (piece k)))
def lessF (x m t : Nat) : Nat := lessSeq x m t 3
def RetG (f : Nat) (w : World) (e : Ending) (w' : World) : Prop := ∃ r, e = .returned (.float .f64 r) ∧ Rep r f ∧ Grown w w'
def RetGI (f : Nat) (i : Int) (w : World) (e : Ending) (w' : World) : Prop := ∃ r, e = .returned (.tuple #[.float .f64 r, .int .i64 i]) ∧ Rep r f ∧ Grown w w'
def RetGG (f g : Nat) (w : World) (e : Ending) (w' : World) : Prop := ∃ r s, e = .returned (.tuple #[.float .f64 r, .float .f64 s]) ∧ Rep r f ∧ Rep s g ∧ Grown w w'
theorem cell_new (w : World) (cs : Array Value) (t : TypeId) (d i : Nat) (v : Value) (h : cs[i]? = some v) : ((w.alloc (.cells cs t)).drewN d).cell? ⟨w.heap.size, i, none⟩ = some v := by
  rw [World.cell?_drewN, World.cell?_alloc_new]; exact h
theorem grown_trans {a b c : World} (h : Grown a b) (k : Grown b c) : Grown a c :=
  ⟨World.keptBut_trans h.1 k.1, fun x => (k.2.1 x).trans (h.2.1 x), Nat.le_trans h.2.2 k.2.2⟩
theorem Rep.cp0 : Rep 4609753056924401664 (piece 0) := Rep.self (by decide) (by decide +kernel)
theorem Rep.cp1 : Rep 4454258360616747008 (piece 1) := Rep.self (by decide) (by decide +kernel)
theorem Rep.cp2 : Rep 4297306550709518336 (piece 2) := Rep.self (by decide) (by decide +kernel)
section
variable {x y z f g h : Nat} (hx : Rep x f) (hy : Rep y g) (hz : Rep z h) (w : World)
include hx hy hz
end
end Go.Proofs.Ytndknkdfbjfjcaa
