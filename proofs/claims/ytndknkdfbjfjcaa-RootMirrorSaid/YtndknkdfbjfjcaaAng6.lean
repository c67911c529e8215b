/- The angle of a place: what the program's and the document's steps come to. No condition. -/
import Derived.Test.YtndknkdfbjfjcaaAng5
namespace Go.Proofs.Ytndknkdfbjfjcaa
open Go.RowKit
set_option linter.unusedVariables false
set_option linter.unusedSimpArgs false
set_option maxRecDepth 100000
set_option maxHeartbeats 2000000

def cH4 : Nat := fdiv 4614256656552045848 4616189618054758400
def cH2 : Nat := fdiv 4614256656552045848 4611686018427387904
def cL2 : Nat := fdiv 4368955796522032135 4611686018427387904
def placeP (p q : Nat) : Nat := if feq p 0 then 0 else if feq p q && isInf p 1 then cH4 else if fle p q then coreF (fdiv p q) else fsub cH2 (fsub (coreF (fdiv q p)) cL2)
def backP (s : Bool) (b : Nat) : Nat := if s then fsub 4614256656552045848 (fsub b 4368955796522032135) else b
def ofAbs (y x : Nat) : Nat := backP (sgn x) (placeP (fabs y) (fabs x))
def ofF (y x : Nat) : Nat := if isN y || isN x then nanB else signed (ofAbs y x) y
def ofR (y x : Nat) : Nat := if isN y || isN x then nanB else if sgn y then fneg (ofAbs y x) else ofAbs y x
theorem sval_inf_only {q : Nat} (hl : q < 18446744073709551616) (hn : isN q = false) (h : sval q = sval 9218868437227405312) : q = 9218868437227405312 := by
  have h1 := mval_le_inf hn
  rw [sval_infP] at h
  unfold sval at h
  have h0 : 0 < mval 9218868437227405312 := by decide +kernel
  generalize hM : mval 9218868437227405312 = M at *
  cases hs : sgn q
  · rw [hs, if_neg (by simp)] at h
    have h2 : mval 9218868437227405312 ≤ mval (rung q) := by omega
    have h3 := mval_le_iff.1 h2
    have h4 := (notN_iff q).1 hn
    unfold sgn at hs; unfold rung at h3 h4
    simp at hs
    omega
  · rw [hs, if_pos rfl] at h; omega
theorem feq_inf {p q : Nat} (hp : p < 18446744073709551616) (hq : q < 18446744073709551616) (hn : isN p = false) (hm : isN q = false) : (isInf p 1 && isInf q 1) = (feq p q && isInf p 1) := by
  rw [infP_iff hp hn, infP_iff hq hm, feq_eq, hn, hm, Bool.eq_iff_iff]
  simp only [Bool.and_eq_true, Bool.not_false, Bool.true_and, decide_eq_true_eq]
  constructor
  · rintro ⟨rfl, rfl⟩; exact ⟨rfl, rfl⟩
  · rintro ⟨h1, rfl⟩; exact ⟨rfl, sval_inf_only hq hm h1.symm⟩
theorem Rep.cH4 : Rep cH4 cH4 := Rep.self (by decide +kernel) (by decide +kernel)
section
variable {x y z f g h : Nat} (hx : Rep x f) (hy : Rep y g) (w : World)
include hx hy
end
section
variable {x f : Nat} (hx : Rep x f) (w : World)
include hx
end
end Go.Proofs.Ytndknkdfbjfjcaa
