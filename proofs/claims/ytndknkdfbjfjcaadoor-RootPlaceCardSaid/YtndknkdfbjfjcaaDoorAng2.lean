/- Quarters of a circle: the program's and the document's come to one. No condition. -/
import Derived.Test.YtndknkdfbjfjcaaDoorAng
import Derived.Test.YtndknkdfbjfjcaaDoorStra
namespace Go.Proofs.YtndknkdfbjfjcaaDoor
open Go.RowKit
set_option linter.unusedVariables false
set_option linter.unusedSimpArgs false
set_option maxRecDepth 100000
set_option maxHeartbeats 4000000

def piece : Nat → Nat
  | 0 => 4609753056924401664
  | 1 => 4454258360616747008
  | _ => 4297306550709518336
def lessSeq (x m t : Nat) : Nat → Nat
  | 0 => x
  | k + 1 => fsub (lessSeq x m t k) (fmul m (fmul t (piece k)))
def lessF (x m t : Nat) : Nat := lessSeq x m t 3
def RetG (f : Nat) (w : World) (e : Ending) (w' : World) : Prop := ∃ r, e = .returned (.float .f64 r) ∧ Rep r f ∧ Grown w w'
def RetGI (f : Nat) (i : Int) (w : World) (e : Ending) (w' : World) : Prop := ∃ r, e = .returned (.tuple #[.float .f64 r, .int .i64 i]) ∧ Rep r f ∧ Grown w w'
def RetGG (f g : Nat) (w : World) (e : Ending) (w' : World) : Prop := ∃ r s, e = .returned (.tuple #[.float .f64 r, .float .f64 s]) ∧ Rep r f ∧ Rep s g ∧ Grown w w'
theorem cell_new (w : World) (cs : Array Value) (t : TypeId) (d i : Nat) (v : Value) (h : cs[i]? = some v) : ((w.alloc (.cells cs t)).drewN d).cell? ⟨w.heap.size, i, none⟩ = some v := by
  rw [World.cell?_drewN, World.cell?_alloc_new]; exact h
theorem grown_trans {a b c : World} (h : Grown a b) (k : Grown b c) : Grown a c :=
  ⟨World.keptBut_trans h.1 k.1, fun x => (k.2.1 x).trans (h.2.1 x), Nat.le_trans h.2.2 k.2.2⟩
theorem Rep.cp0 : Rep 4609753056924401664 (piece 0) := Rep.self (by decide) (by decide +kernel)
theorem Rep.cp1 : Rep 4454258360616747008 (piece 1) := Rep.self (by decide) (by decide +kernel)
theorem Rep.cp2 : Rep 4297306550709518336 (piece 2) := Rep.self (by decide) (by decide +kernel)
section
variable {x y z f g h : Nat} (hx : Rep x f) (hy : Rep y g) (hz : Rep z h) (w : World)
include hx hy hz
theorem less_c : Calls Tryd.prog 154 #[.float .f64 x, .float .f64 y, .float .f64 z] w (RetG (lessF f g h) w) := by
  go_enter Tryd.func154, Tryd.ntmps154
  go_wp2
  go_loopw [0, 11] (fun v i wr => ∃ k d a : Nat, i = .int .i64 k ∧ k ≤ 3 ∧ v = .float .f64 a ∧ Rep a (lessSeq f g h k) ∧ wr = (w.alloc (.cells #[.int .u64 4609753056924401664, .int .u64 4454258360616747008, .int .u64 4297306550709518336] 26)).drewN d) (fun _ i _ => 3 - (intOf i).toNat)
  case atStart => exact ⟨0, 0, _, rfl, by omega, rfl, hx, rfl⟩
  case round =>
    obtain ⟨k, d, a, rfl, hk, rfl, ha, rfl⟩ := hrel
    have hk4 : k = 0 ∨ k = 1 ∨ k = 2 ∨ k = 3 := by omega
    have c0 : ((w.alloc (.cells #[.int .u64 4609753056924401664, .int .u64 4454258360616747008, .int .u64 4297306550709518336] 26)).drewN d).cell? ⟨w.heap.size, 0, none⟩ = some (.int .u64 4609753056924401664) := cell_new w _ _ _ _ _ rfl
    have c1 : ((w.alloc (.cells #[.int .u64 4609753056924401664, .int .u64 4454258360616747008, .int .u64 4297306550709518336] 26)).drewN d).cell? ⟨w.heap.size, 1, none⟩ = some (.int .u64 4454258360616747008) := cell_new w _ _ _ _ _ rfl
    have c2 : ((w.alloc (.cells #[.int .u64 4609753056924401664, .int .u64 4454258360616747008, .int .u64 4297306550709518336] 26)).drewN d).cell? ⟨w.heap.size, 2, none⟩ = some (.int .u64 4297306550709518336) := cell_new w _ _ _ _ _ rfl
    rcases hk4 with rfl | rfl | rfl | rfl
    · go_wp2
      go_roundw
      case rel => exact ⟨1, _, _, rfl, by omega, rfl, ha.sub (hy.mul (hz.mul Rep.cp0)), rfl⟩
      case measure => simp [intOf]
    · go_wp2
      go_roundw
      case rel => exact ⟨2, _, _, rfl, by omega, rfl, ha.sub (hy.mul (hz.mul Rep.cp1)), rfl⟩
      case measure => simp [intOf]
    · go_wp2
      go_roundw
      case rel => exact ⟨3, _, _, rfl, by omega, rfl, ha.sub (hy.mul (hz.mul Rep.cp2)), rfl⟩
      case measure => simp [intOf]
    · go_wp2
      go_ret
      exact ⟨_, rfl, ha, grown_drewN' _ ((Grown.refl _).alloc _ _)⟩
theorem refLess_c : Calls Tryd.prog 155 #[.float .f64 x, .float .f64 y, .float .f64 z] w (RetF (lessF f g h) w) := by
  go_enter Tryd.func155, Tryd.ntmps155
  go_wp2
  go_loopw [7, 8] (fun v i wr => ∃ k d a : Nat, i = .int .i64 k ∧ k ≤ 3 ∧ v = .float .f64 a ∧ Rep a (lessSeq f g h k) ∧ wr = w.drewN d) (fun _ i _ => 3 - (intOf i).toNat)
  case atStart => exact ⟨0, 0, _, rfl, by omega, rfl, hx, rfl⟩
  case round =>
    obtain ⟨k, d, a, rfl, hk, rfl, ha, rfl⟩ := hrel
    have hk4 : k = 0 ∨ k = 1 ∨ k = 2 ∨ k = 3 := by omega
    rcases hk4 with rfl | rfl | rfl | rfl
    · go_wp2
      go_roundw
      case rel => exact ⟨1, _, _, rfl, by omega, rfl, ha.sub (hy.mul (hz.mul Rep.cp0)), rfl⟩
      case measure => simp [intOf]
    · go_wp2
      go_roundw
      case rel => exact ⟨2, _, _, rfl, by omega, rfl, ha.sub (hy.mul (hz.mul Rep.cp1)), rfl⟩
      case measure => simp [intOf]
    · go_wp2
      go_roundw
      case rel => exact ⟨3, _, _, rfl, by omega, rfl, ha.sub (hy.mul (hz.mul Rep.cp2)), rfl⟩
      case measure => simp [intOf]
    · go_wp2
      go_ret
      exact RetF.mk _ ha
end
end Go.Proofs.YtndknkdfbjfjcaaDoor
