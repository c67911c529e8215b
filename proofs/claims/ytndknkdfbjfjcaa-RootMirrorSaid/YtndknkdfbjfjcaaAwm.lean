/- Likeness of lengths; the greater of two floats without signs. -/
import Derived.Test.YtndknkdfbjfjcaaAwp
import Derived.Test.YtndknkdfbjfjcaaRmk
namespace Go.Proofs.Ytndknkdfbjfjcaa
open Go.RowKit
set_option linter.unusedVariables false
set_option linter.unusedSimpArgs false
set_option maxRecDepth 100000
set_option maxHeartbeats 4000000
theorem run_max_f {P : Program} (w : World) (ts : Array TypeId) (t : TypeId) {p q : Nat} (hp : p ≤ 9218868437227405312) (hq : q ≤ 9218868437227405312) :
    (Builtin.max_ ts t #[.float .f64 p, .float .f64 q]).run P w = .ok (.float .f64 (max p q)) w := by
  rcases Nat.lt_trichotomy p q with c | c | c
  · have h : FloatKind.f64.format.order p q = some .lt := by
      have := p_flt hp hq; rw [decide_eq_true c] at this; exact eq_of_beq this
    simp [Builtin.max_, Builtin.max2, h]; omega
  · subst c
    have h : FloatKind.f64.format.order p p = some .eq := by
      have : feq p p = true := by rw [feq_eq, p_isN hp]; simp
      exact eq_of_beq this
    simp [Builtin.max_, Builtin.max2, h]
  · have h : FloatKind.f64.format.order p q = some .gt := by
      have := p_flt hq hp; rw [decide_eq_true c, ← fgt_eq] at this; exact eq_of_beq this
    simp [Builtin.max_, Builtin.max2, h]; omega
def capI (a : Nat) : Nat := min a 9218868437227405312
theorem capI_le (a : Nat) : capI a ≤ 9218868437227405312 := Nat.min_le_right _ _
theorem capI_of {a : Nat} (h : a ≤ 9218868437227405312) : capI a = a := Nat.min_eq_left h
@[go_sem] theorem run_max_cap {P : Program} (w : World) (ts : Array TypeId) (t : TypeId) (a b : Nat) :
    (Builtin.max_ ts t #[.float .f64 (capI a), .float .f64 (capI b)]).run P w = .ok (.float .f64 (max (capI a) (capI b))) w := run_max_f w ts t (capI_le a) (capI_le b)
section
variable {x y z t f g h k : Nat} (hx : Rep x f) (hy : Rep y g) (hz : Rep z h) (ht : Rep t k) (w : World)
include hx hy
theorem like06_c : Calls Try.prog 28 #[.float .f64 x, .float .f64 y] w (RetB (likeF f g) w) := by
  have q1 := hx.eq' hy
  have q2 := hx.none'
  have q3 := hy.none'
  have HL := Lib.hid (likeF.eq_1 f g)
  cases h1 : feq f g <;> cases h2 : isN f <;> cases h3 : isN g
  all_goals
    rw [h1] at q1
    rw [h2] at q2
    rw [h3] at q3
    have H1 := Lib.hid h1
    have H2 := Lib.hid h2
    have H3 := Lib.hid h3
    clear h1 h2 h3
    go_enter Try.func28, Try.ntmps28
    go_wp2
    go_ret
    exact RetB.mk0 (by rw [HL.out, H1.out, H2.out, H3.out]; rfl)
end
end Go.Proofs.Ytndknkdfbjfjcaa
