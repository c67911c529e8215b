/- The document's roots, units, places, sines, sheets, powers are the program's. -/
import Derived.Test.YtndknkdfbjfjcaaGreatDoorCxR
import Derived.Test.YtndknkdfbjfjcaaGreatDoorRootC
namespace Go.Proofs.YtndknkdfbjfjcaaGreatDoor
open Go.RowKit
set_option linter.unusedVariables false
set_option linter.unusedSimpArgs false
set_option maxRecDepth 100000
set_option maxHeartbeats 4000000
def RetFFG (f g : Nat) (w : World) (e : Ending) (w' : World) : Prop := ∃ r s, e = .returned (.tuple #[.float .f64 r, .float .f64 s]) ∧ Rep r f ∧ Rep s g ∧ Grown w w'
def RetCBG (f g : Nat) (b : Bool) (w : World) (e : Ending) (w' : World) : Prop := ∃ r s, e = .returned (.tuple #[.complex .f64 r s, .bool b]) ∧ Rep r f ∧ Rep s g ∧ Grown w w'
def RetBG (b : Bool) (w : World) (e : Ending) (w' : World) : Prop := e = .returned (.bool b) ∧ Grown w w'
theorem xor_bits (x : Nat) (h : x < 18446744073709551616) : bits .xor .u64 (x : Int) 9223372036854775808 = ((x ^^^ 9223372036854775808 : Nat) : Int) := by
  have hlt : x ^^^ 9223372036854775808 < 18446744073709551616 := Nat.xor_lt_two_pow (n := 64) h (by decide)
  show IntKind.u64.wrap ((BitVec.ofInt 64 (x : Int) ^^^ BitVec.ofInt 64 (9223372036854775808 : Int)).toNat : Int) = _
  rw [BitVec.toNat_xor, BitVec.ofInt_natCast, BitVec.toNat_ofNat, show (BitVec.ofInt 64 9223372036854775808).toNat = 9223372036854775808 from by decide +kernel, IntKind.wrap_u64]
  rw [Nat.mod_eq_of_lt (a := x) (by simpa using h)]
  generalize x ^^^ 9223372036854775808 = y at *
  omega
section
variable {x y z t f g h k : Nat} (hx : Rep x f) (hy : Rep y g) (hz : Rep z h) (ht : Rep t k) (w : World)
include hx
include hy
include hz ht
theorem refSame7_c : Calls Tryz.prog 6 #[.complex .f64 x y, .complex .f64 z t] w (RetB ((f == h) && (g == k)) w) := by
  cases h1 : (f == h)
  all_goals
    have H1 := Lib.hid h1
    clear h1
    go_enter Tryz.func6, Tryz.ntmps6
    go_wp2_with (first | (go_at_call 16; (with_reducible refine (refSame_c hx hz _).mono ?_); rw [H1.out]; rintro e w' ⟨n, rfl, rfl⟩) | (go_at_call 16; (with_reducible refine (refSame_c hy ht _).mono ?_); rintro e w' ⟨n, rfl, rfl⟩))
    go_ret
    exact RetB.mk _ (by simp)
end
end Go.Proofs.YtndknkdfbjfjcaaGreatDoor
