/- Sines, cosines and the core of angles, by their steps: the program's and the document's come to one. No condition. -/
import Derived.Test.YtndknkdfbjfjcaaWhole
namespace Go.Proofs.Ytndknkdfbjfjcaa
open Go.RowKit
set_option linter.unusedVariables false
set_option linter.unusedSimpArgs false
set_option maxRecDepth 100000

def one : Nat := 4607182418800017408
def sinSeq (z : Nat) : Nat → Nat
  | 0 => 4607182418800017408
  | j + 1 => fsub 4607182418800017408 (fmul (fdiv z (ofInt (2 * (9 - (j : Int)) * (2 * (9 - (j : Int)) + 1)))) (sinSeq z j))
def cosSeq (z : Nat) : Nat → Nat
  | 0 => 4607182418800017408
  | j + 1 => fsub 4607182418800017408 (fmul (fdiv z (ofInt ((2 * (9 - (j : Int)) - 1) * (2 * (9 - (j : Int)))))) (cosSeq z j))
def sineF (y : Nat) : Nat := fmul y (sinSeq (fmul y y) 9)
def cosF (y : Nat) : Nat := cosSeq (fmul y y) 9
def coreSeq (z : Nat) : Nat → Nat
  | 0 => 0
  | j + 1 => fsub (fdiv 4607182418800017408 (ofInt (2 * (24 - (j : Int)) + 1))) (fmul z (coreSeq z j))
def piH : Nat := 4614256656552045848
def piL : Nat := 4368955796522032135
def farF (t : Nat) : Bool := flt 4601130706800738304 t
def coreU (t : Nat) : Nat := if farF t then fdiv (fsub t 4607182418800017408) (fadd t 4607182418800017408) else t
def coreV (t : Nat) : Nat := fmul (coreU t) (coreSeq (fmul (coreU t) (coreU t)) 25)
def coreF (t : Nat) : Nat := if farF t then fadd (fdiv 4614256656552045848 4616189618054758400) (fadd (coreV t) (fdiv 4368955796522032135 4616189618054758400)) else coreV t

theorem k9_down : ∀ j : Nat, j < 9 → fsub (ofInt (9 - (j : Int))) 4607182418800017408 = ofInt (9 - ((j + 1 : Nat) : Int)) := by decide +kernel
theorem k9_sin : ∀ j : Nat, j < 9 → fmul (fmul 4611686018427387904 (ofInt (9 - (j : Int)))) (fadd (fmul 4611686018427387904 (ofInt (9 - (j : Int)))) 4607182418800017408) = ofInt (2 * (9 - (j : Int)) * (2 * (9 - (j : Int)) + 1)) := by decide +kernel
theorem k9_cos : ∀ j : Nat, j < 9 → fmul (fsub (fmul 4611686018427387904 (ofInt (9 - (j : Int)))) 4607182418800017408) (fmul 4611686018427387904 (ofInt (9 - (j : Int)))) = ofInt ((2 * (9 - (j : Int)) - 1) * (2 * (9 - (j : Int)))) := by decide +kernel
theorem k9_test : ∀ j : Nat, j < 10 → fle 4607182418800017408 (ofInt (9 - (j : Int))) = decide (j < 9) := by decide +kernel
theorem k24_down : ∀ j : Nat, j < 25 → fsub (ofInt (24 - (j : Int))) 4607182418800017408 = ofInt (24 - ((j + 1 : Nat) : Int)) := by decide +kernel
theorem k24_odd : ∀ j : Nat, j < 25 → fadd (fmul 4611686018427387904 (ofInt (24 - (j : Int)))) 4607182418800017408 = ofInt (2 * (24 - (j : Int)) + 1) := by decide +kernel
theorem k24_test : ∀ j : Nat, j < 26 → fle 0 (ofInt (24 - (j : Int))) = decide (j < 25) := by decide +kernel
def m9 (b : Nat) : Nat := ((List.range 11).find? (fun i : Nat => ofInt ((i : Int) - 1) == b)).getD 0
theorem m9_eq : ∀ j : Nat, j < 11 → m9 (ofInt (9 - (j : Int))) = 10 - j := by decide +kernel
def m24 (b : Nat) : Nat := ((List.range 26).find? (fun i : Nat => ofInt ((i : Int) - 1) == b)).getD 0
theorem m24_eq : ∀ j : Nat, j < 26 → m24 (ofInt (24 - (j : Int))) = 25 - j := by decide +kernel
theorem ofInt_self (n : Int) : Rep (ofInt n) (ofInt n) := Rep.self (ofInt_lt n) (nrm_of_not (ofInt_notN n))
theorem ofInt_9 : (4621256167635550208 : Nat) = ofInt 9 := by decide +kernel
theorem ofInt_24 : (4627448617123184640 : Nat) = ofInt 24 := by decide +kernel
theorem Rep.ct : Rep 4601130706800738304 4601130706800738304 := Rep.self (by decide) (by decide +kernel)
theorem Rep.c4 : Rep 4616189618054758400 4616189618054758400 := Rep.self (by decide) (by decide +kernel)
theorem Rep.cpiH : Rep 4614256656552045848 4614256656552045848 := Rep.self (by decide) (by decide +kernel)
theorem Rep.cpiL : Rep 4368955796522032135 4368955796522032135 := Rep.self (by decide) (by decide +kernel)
section
variable {x y f g : Nat} (hx : Rep x f) (hy : Rep y g) (w : World)
include hx
end
end Go.Proofs.Ytndknkdfbjfjcaa
