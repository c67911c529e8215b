/- Wrapped angles: the program's and the document's come to one. No condition. -/
import Derived.Test.YtndknkdfbjfjcaaAng4
namespace Go.Proofs.Ytndknkdfbjfjcaa
open Go.RowKit
set_option linter.unusedVariables false
set_option linter.unusedSimpArgs false
set_option maxRecDepth 100000
set_option maxHeartbeats 4000000

def wrapM (f : Nat) : Nat := wholeF (fmul f 4594902181429758083)
def wrapY (f : Nat) : Nat := lessF f (wrapM f) 4616189618054758400
def wrapD (y : Nat) : Nat := fsub (fsub y 4618760256179416344) 4373459396149402631
def wrapA (y : Nat) : Nat := fadd (fadd y 4618760256179416344) 4373459396149402631
def wrapZ (y : Nat) : Nat := if flt 4614256656552045848 y then wrapD y else if fle y 13837628693406821656 then wrapA y else y
def wrapE (z : Nat) : Nat := if flt 4614256656552045848 z || fle z 13837628693406821656 then 4614256656552045848 else z
def wrapF (f : Nat) : Nat := if fit f then (if flt 13837628693406821656 f && fle f 4614256656552045848 then f else wrapE (wrapZ (wrapY f))) else nanB
theorem Rep.cw : Rep 4594902181429758083 4594902181429758083 := Rep.self (by decide) (by decide +kernel)
theorem Rep.cNH : Rep 13837628693406821656 13837628693406821656 := Rep.self (by decide) (by decide +kernel)
theorem Rep.c2H : Rep 4618760256179416344 4618760256179416344 := Rep.self (by decide) (by decide +kernel)
theorem Rep.c2L : Rep 4373459396149402631 4373459396149402631 := Rep.self (by decide) (by decide +kernel)
theorem Bd.mk_c {c k : Nat} (h : (c < 18446744073709551616 ∧ Proofs.Ytndknkdfbjfjcaa.fin c = true ∧ rung c ≤ 4503599627370496 * (1023 + k) ∧ k ≤ 900)) : Bd c k := Bd.const' h.1 h.2.1 h.2.2.1 h.2.2.2
theorem wrapM_bd {f : Nat} (hl : f < 18446744073709551616) (h : fit f = true) : Bd (wrapM f) 20 :=
  (((fit_bd hl h).mul (Bd.mk_c (k := 0) (by decide +kernel)) (by decide)).whole (by decide)).1
theorem less_bd {f m t : Nat} (hf : Bd f 20) (hm : Bd m 20) (ht : Bd t 2) : Bd (lessF f m t) 26 := by
  have p0 : Bd (piece 0) 1 := Bd.mk_c (by decide +kernel)
  have p1 : Bd (piece 1) 1 := Bd.mk_c (by decide +kernel)
  have p2 : Bd (piece 2) 1 := Bd.mk_c (by decide +kernel)
  have a0 := hm.mul (ht.mul p0 (by decide)) (by decide)
  have a1 := hm.mul (ht.mul p1 (by decide)) (by decide)
  have a2 := hm.mul (ht.mul p2 (by decide)) (by decide)
  have b0 := (hf.mono (show 20 ≤ 23 by decide)).sub a0 (by decide)
  have b1 := b0.sub (a1.mono (show 23 ≤ 24 by decide)) (by decide)
  exact b1.sub (a2.mono (show 23 ≤ 25 by decide)) (by decide)
theorem wrapY_bd {f : Nat} (hl : f < 18446744073709551616) (h : fit f = true) : Bd (wrapY f) 26 :=
  less_bd (fit_bd hl h) (wrapM_bd hl h) (Bd.mk_c (by decide +kernel))
theorem Bd.rep {f k : Nat} (h : Bd f k) : Rep f f := Rep.self h.lt (nrm_of_not h.notN)
theorem Bd.subV {a b k : Nat} (h : Bd a k) (h2 : Bd b k) (hk : k + 1 ≤ 900) (w : World) : fres .sub a b w = fsub a b := (h.rep.sub h2.rep).eq_of (h.sub h2 hk).notN
theorem Bd.addV {a b k : Nat} (h : Bd a k) (h2 : Bd b k) (hk : k + 1 ≤ 900) (w : World) : fres .add a b w = fadd a b := (h.rep.add h2.rep).eq_of (h.add h2 hk).notN
theorem not_gt {y c : Nat} (hy : isN y = false) (hc : isN c = false) : (!flt c y) = fle y c := by
  rw [flt_eq, fle_eq, hy, hc, Bool.eq_iff_iff]; simp
theorem nle {y : Nat} (hy : isN y = false) : flt 13837628693406821656 y = !fle y 13837628693406821656 := by
  rw [← not_gt hy (by decide +kernel), Bool.not_not]
section
variable {x y f g : Nat} (hx : Rep x f) (hy : Rep y g) (w : World)
include hx
end
end Go.Proofs.Ytndknkdfbjfjcaa
