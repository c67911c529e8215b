/- The floats of the walk: each operation on two floats, NaN or not, gives bits that stand for a canonical result of the canonical operands; the world has at most drawn. No condition. What a float's bits are worth, as a whole number of 2^-1074: the order of floats is the order of these. No condition. Rounding: the nearest float of a whole number of 2^-1074, or of a fraction of it. No condition. The library's entries without a body, by one equation each: bits of floats and back, roots, whole ones. No condition. -/
import Derived.WalkKit
import Derived.WalkLawsBesides
import Derived.Deep.Draws
import Derived.Test.YtcfkhhnkboealaaRows
namespace Go.Proofs.Ytcfkhhnkboealaa
set_option linter.unusedVariables false
set_option linter.unusedSimpArgs false

/-- The canonical no-number. -/
def nanB : Nat := 9221120237041090560
/-- Is it no number? -/
def isN (b : Nat) : Bool := (Ieee.double.read b).isNaN
/-- Bits, of no number those of one. -/
def nrm (b : Nat) : Nat := if isN b then nanB else b
/-- The bits of a canonical operation. -/
def canon : Option Nat → Nat
  | some r => r
  | none => nanB
def fadd (x y : Nat) : Nat := canon (Ieee.double.add x y)
def fsub (x y : Nat) : Nat := canon (Ieee.double.sub x y)
def fmul (x y : Nat) : Nat := canon (Ieee.double.mul x y)
def fdiv (x y : Nat) : Nat := canon (Ieee.double.div x y)
def fneg (x : Nat) : Nat := if isN x then nanB else x ^^^ 9223372036854775808
def flt (x y : Nat) : Bool := Ieee.double.order x y == some .lt
def fle (x y : Nat) : Bool := Ieee.double.order x y == some .lt || Ieee.double.order x y == some .eq
def feq (x y : Nat) : Bool := Ieee.double.order x y == some .eq

/-- r stands for the canonical f. -/
structure Rep (r f : Nat) : Prop where
  lt : r < 18446744073709551616
  eq : nrm r = f

theorem fmt64 : FloatKind.f64.format = Ieee.double := rfl

theorem isN_nanB : isN nanB = true := by decide +kernel

/-- read without its sign. -/
theorem read_eq (b : Nat) : Ieee.double.read b = (let neg := b / 9223372036854775808 % 2 == 1; let rung := b % 9223372036854775808
  if rung < 4503599627370496 then .number neg rung (-1074)
  else if rung < 9218868437227405312 then .number neg (4503599627370496 + rung % 4503599627370496) (-1074 + (rung / 4503599627370496 - 1 : Nat))
  else if rung = 9218868437227405312 then .infinity neg else .nan neg (rung - 9218868437227405312)) := by
  have e1 : Ieee.double.signWeight = 9223372036854775808 := by decide +kernel
  have e2 : Ieee.double.binade = 4503599627370496 := by decide +kernel
  have e3 : Ieee.double.infRung = 9218868437227405312 := by decide +kernel
  have e4 : Ieee.double.leastPlace = -1074 := by decide +kernel
  unfold Ieee.Format.read
  rw [e1, e2, e3, e4]

theorem isN_iff (b : Nat) : isN b = true ↔ 9218868437227405312 < b % 9223372036854775808 := by
  unfold isN
  rw [read_eq]
  dsimp only
  split
  · simp [Ieee.Datum.isNaN]; omega
  · split
    · simp [Ieee.Datum.isNaN]; omega
    · split
      · simp [Ieee.Datum.isNaN]; omega
      · simp [Ieee.Datum.isNaN]; omega

theorem isN_false_iff (b : Nat) : isN b = false ↔ b % 9223372036854775808 ≤ 9218868437227405312 := by
  have := isN_iff b
  cases h : isN b
  · simp [h] at this; simp; omega
  · simp [h] at this; simp; omega

theorem write_notN (d : Ieee.Datum) (h : d.isNaN = false) : isN (Ieee.double.write d) = false := by
  rw [isN_false_iff]
  have e1 : Ieee.double.signWeight = 9223372036854775808 := by decide +kernel
  have e3 : Ieee.double.infRung = 9218868437227405312 := by decide +kernel
  have hw : ∀ neg r, r ≤ 9218868437227405312 → Ieee.double.word neg r % 9223372036854775808 ≤ 9218868437227405312 := by
    intro neg r hr
    unfold Ieee.Format.word
    rw [e1]
    split <;> omega
  cases d with
  | nan => simp [Ieee.Datum.isNaN] at h
  | infinity s => exact hw _ _ (by rw [e3]; omega)
  | number s m p =>
    show Ieee.double.nearest s m p % _ ≤ _
    unfold Ieee.Format.nearest
    split
    · exact hw _ _ (by omega)
    · exact hw _ _ (by rw [← e3]; exact Nat.min_le_right ..)

theorem write_lt64 (d : Ieee.Datum) : Ieee.double.write d < 18446744073709551616 := by
  have := Ieee.double.write_lt d
  have e : 2 ^ Ieee.double.width = 18446744073709551616 := by decide +kernel
  omega

theorem nrm_of_not {b : Nat} (h : isN b = false) : nrm b = b := by simp [nrm, h]
theorem nrm_of {b : Nat} (h : isN b = true) : nrm b = nanB := by simp [nrm, h]
theorem isN_nrm (b : Nat) : isN (nrm b) = isN b := by
  cases h : isN b
  · rw [nrm_of_not h, h]
  · rw [nrm_of h, isN_nanB]
theorem nrm_nrm (b : Nat) : nrm (nrm b) = nrm b := by
  cases h : isN b
  · rw [nrm_of_not h, nrm_of_not h]
  · rw [nrm_of h, nrm_of isN_nanB]

theorem read_nan_of {b : Nat} (h : isN b = true) : ∃ s f, Ieee.double.read b = .nan s f := by
  unfold isN at h
  cases hr : Ieee.double.read b <;> simp [hr, Ieee.Datum.isNaN] at h
  exact ⟨_, _, rfl⟩

theorem sum_none (d e : Ieee.Datum) : d.isNaN = true ∨ e.isNaN = true → d.sum e = none := by
  intro h; cases d <;> cases e <;> simp [Ieee.Datum.isNaN] at h <;> rfl
theorem product_none (d e : Ieee.Datum) : d.isNaN = true ∨ e.isNaN = true → d.product e = none := by
  intro h; cases d <;> cases e <;> simp [Ieee.Datum.isNaN] at h <;> rfl
theorem quotient_none (k : Nat) (d e : Ieee.Datum) : d.isNaN = true ∨ e.isNaN = true → d.quotient k e = none := by
  intro h; cases d <;> cases e <;> simp [Ieee.Datum.isNaN] at h <;> rfl
theorem order_none (d e : Ieee.Datum) : d.isNaN = true ∨ e.isNaN = true → d.order e = none := by
  intro h; cases d <;> cases e <;> simp [Ieee.Datum.isNaN] at h <;> rfl
theorem opposite_isNaN (d : Ieee.Datum) : d.opposite.isNaN = d.isNaN := by cases d <;> rfl

theorem sum_notNaN {d e s : Ieee.Datum} (h : d.sum e = some s) : s.isNaN = false := by
  cases d <;> cases e <;> simp [Ieee.Datum.sum] at h
  · rw [← h]; rfl
  · rw [← h]; rfl
  · rw [← h]; rfl
  · rw [← h.2]; rfl
theorem product_notNaN {d e s : Ieee.Datum} (h : d.product e = some s) : s.isNaN = false := by
  cases d <;> cases e <;> simp [Ieee.Datum.product] at h
  · rw [← h]; rfl
  · rw [← h.2]; rfl
  · rw [← h.2]; rfl
  · rw [← h]; rfl
theorem quotient_notNaN {k : Nat} {d e s : Ieee.Datum} (h : d.quotient k e = some s) : s.isNaN = false := by
  cases d <;> cases e <;> simp [Ieee.Datum.quotient] at h
  · split at h
    · split at h
      · cases h
      · simp at h; rw [← h]; rfl
    · simp at h; rw [← h]; rfl
  · rw [← h]; rfl
  · rw [← h]; rfl

theorem canon_map_notN (o : Option Ieee.Datum) (h : ∀ d, o = some d → d.isNaN = false) : nrm (canon (o.map Ieee.double.write)) = canon (o.map Ieee.double.write) := by
  cases o with
  | none => exact nrm_of isN_nanB
  | some d => exact nrm_of_not (write_notN d (h d rfl))
theorem canon_map_lt (o : Option Ieee.Datum) : canon (o.map Ieee.double.write) < 18446744073709551616 := by
  cases o with
  | none => show nanB < _; decide +kernel
  | some d => exact write_lt64 d

theorem add_def (x y : Nat) : fadd x y = canon (((Ieee.double.read x).sum (Ieee.double.read y)).map Ieee.double.write) := rfl
theorem sub_def (x y : Nat) : fsub x y = canon (((Ieee.double.read x).sum (Ieee.double.read y).opposite).map Ieee.double.write) := rfl
theorem mul_def (x y : Nat) : fmul x y = canon (((Ieee.double.read x).product (Ieee.double.read y)).map Ieee.double.write) := rfl
theorem div_def (x y : Nat) : fdiv x y = canon (((Ieee.double.read x).quotient (Ieee.double.fractionBits + 2) (Ieee.double.read y)).map Ieee.double.write) := rfl

theorem nrm_fadd (x y : Nat) : nrm (fadd x y) = fadd x y := canon_map_notN _ fun _ h => sum_notNaN h
theorem nrm_fsub (x y : Nat) : nrm (fsub x y) = fsub x y := canon_map_notN _ fun _ h => sum_notNaN h
theorem nrm_fmul (x y : Nat) : nrm (fmul x y) = fmul x y := canon_map_notN _ fun _ h => product_notNaN h
theorem nrm_fdiv (x y : Nat) : nrm (fdiv x y) = fdiv x y := canon_map_notN _ fun _ h => quotient_notNaN h

theorem fadd_nrm (x y : Nat) : fadd (nrm x) (nrm y) = fadd x y := by
  simp only [add_def]
  cases hx : isN x
  · rw [nrm_of_not hx]
    cases hy : isN y
    · rw [nrm_of_not hy]
    · rw [nrm_of hy, sum_none _ _ (.inr hy), sum_none _ _ (.inr isN_nanB)]
  · rw [nrm_of hx, sum_none _ _ (.inl hx), sum_none _ _ (.inl isN_nanB)]
theorem fsub_nrm (x y : Nat) : fsub (nrm x) (nrm y) = fsub x y := by
  simp only [sub_def]
  cases hx : isN x
  · rw [nrm_of_not hx]
    cases hy : isN y
    · rw [nrm_of_not hy]
    · rw [nrm_of hy, sum_none _ _ (.inr ((opposite_isNaN _).trans hy)), sum_none _ _ (.inr ((opposite_isNaN _).trans isN_nanB))]
  · rw [nrm_of hx, sum_none _ _ (.inl hx), sum_none _ _ (.inl isN_nanB)]
theorem fmul_nrm (x y : Nat) : fmul (nrm x) (nrm y) = fmul x y := by
  simp only [mul_def]
  cases hx : isN x
  · rw [nrm_of_not hx]
    cases hy : isN y
    · rw [nrm_of_not hy]
    · rw [nrm_of hy, product_none _ _ (.inr hy), product_none _ _ (.inr isN_nanB)]
  · rw [nrm_of hx, product_none _ _ (.inl hx), product_none _ _ (.inl isN_nanB)]
theorem fdiv_nrm (x y : Nat) : fdiv (nrm x) (nrm y) = fdiv x y := by
  simp only [div_def]
  cases hx : isN x
  · rw [nrm_of_not hx]
    cases hy : isN y
    · rw [nrm_of_not hy]
    · rw [nrm_of hy, quotient_none _ _ _ (.inr hy), quotient_none _ _ _ (.inr isN_nanB)]
  · rw [nrm_of hx, quotient_none _ _ _ (.inl hx), quotient_none _ _ _ (.inl isN_nanB)]
theorem order_nrm (x y : Nat) : Ieee.double.order (nrm x) (nrm y) = Ieee.double.order x y := by
  simp only [Ieee.Format.order]
  cases hx : isN x
  · rw [nrm_of_not hx]
    cases hy : isN y
    · rw [nrm_of_not hy]
    · rw [nrm_of hy, order_none _ _ (.inr hy), order_none _ _ (.inr isN_nanB)]
  · rw [nrm_of hx, order_none _ _ (.inl hx), order_none _ _ (.inl isN_nanB)]

/-- What an operation gives in a world: the bits; of no number whatever the tape says. -/
def fres (op : BinOp) (x y : Nat) (w : World) : Nat :=
  match floatBits op .f64 x y with
  | some r => r
  | none => (Question.nanBits .f64 x y).cut (w.tape w.drawn (.nanBits .f64 x y))
def fdr (op : BinOp) (x y : Nat) : Nat :=
  match floatBits op .f64 x y with
  | some _ => 0
  | none => 1

section
variable {P : Program} (w : World) (t : TypeId) (x y : Nat)
theorem run_arith_some {op : BinOp} {x y r : Nat} (hop : op = .add ∨ op = .sub ∨ op = .mul ∨ op = .quo) (h : floatBits op .f64 x y = some r) : (Op.floatArith op .f64 x y).run P w = .ok (.float .f64 r) w := run_floatArith w h
theorem run_arith_none {op : BinOp} {x y : Nat} (hop : op = .add ∨ op = .sub ∨ op = .mul ∨ op = .quo) (h : floatBits op .f64 x y = none) :
    (Op.floatArith op .f64 x y).run P w = .ok (.float .f64 ((Question.nanBits .f64 x y).cut (w.tape w.drawn (.nanBits .f64 x y)))) (w.drewN 1) := by
  rcases hop with rfl | rfl | rfl | rfl <;> simp only [floatBits] at h <;> simp [Op.floatArith, h, choose, Sem.run, Question.forced, World.drewN]
theorem run_arith_any {op : BinOp} (hop : op = .add ∨ op = .sub ∨ op = .mul ∨ op = .quo) : (binOp op t (.float .f64 x) (.float .f64 y)).run P w = .ok (.float .f64 (fres op x y w)) (w.drewN (fdr op x y)) := by
  have hb : binOp op t (.float .f64 x) (.float .f64 y) = Op.floatArith op .f64 x y := by rcases hop with rfl | rfl | rfl | rfl <;> simp [binOp]
  rw [hb]
  unfold fres fdr
  cases h : floatBits op .f64 x y with
  | some r => simp only; rw [run_arith_some w hop h, World.drewN_zero]
  | none => simp only; rw [run_arith_none w hop h]
@[go_sem ↓] theorem run_fadd : (binOp .add t (.float .f64 x) (.float .f64 y)).run P w = .ok (.float .f64 (fres .add x y w)) (w.drewN (fdr .add x y)) := run_arith_any w t x y (by simp)
@[go_sem ↓] theorem run_fsub : (binOp .sub t (.float .f64 x) (.float .f64 y)).run P w = .ok (.float .f64 (fres .sub x y w)) (w.drewN (fdr .sub x y)) := run_arith_any w t x y (by simp)
@[go_sem ↓] theorem run_fmul : (binOp .mul t (.float .f64 x) (.float .f64 y)).run P w = .ok (.float .f64 (fres .mul x y w)) (w.drewN (fdr .mul x y)) := run_arith_any w t x y (by simp)
@[go_sem ↓] theorem run_fquo : (binOp .quo t (.float .f64 x) (.float .f64 y)).run P w = .ok (.float .f64 (fres .quo x y w)) (w.drewN (fdr .quo x y)) := run_arith_any w t x y (by simp)
end

theorem nanBits_cut (x y t : Nat) : isN ((Question.nanBits .f64 x y).cut t) = true ∧ (Question.nanBits .f64 x y).cut t < 18446744073709551616 := by
  rw [isN_iff]
  show 9218868437227405312 < ((t % 2) * 2 ^ 63 + 0x7ff0000000000000 + 1 + (t / 2) % (2 ^ 52 - 1)) % 9223372036854775808 ∧ (t % 2) * 2 ^ 63 + 0x7ff0000000000000 + 1 + (t / 2) % (2 ^ 52 - 1) < 18446744073709551616
  simp only [Nat.reducePow, Nat.reduceSub]
  have h1 : t / 2 % 4503599627370495 < 4503599627370495 := Nat.mod_lt _ (by decide)
  generalize t / 2 % 4503599627370495 = m at *
  rcases Nat.mod_two_eq_zero_or_one t with h | h <;> rw [h] <;> constructor <;> omega

theorem Rep.self {f : Nat} (h : f < 18446744073709551616) (hn : nrm f = f) : Rep f f := ⟨h, hn⟩
theorem Rep.nrm {f r : Nat} (h : Rep r f) : nrm f = f := by rw [← h.eq, nrm_nrm]
theorem Rep.of_isN {r f : Nat} (h : Rep r f) : isN r = isN f := by rw [← h.eq, isN_nrm]
theorem Rep.flt {r f : Nat} (h : Rep r f) : f < 18446744073709551616 := by
  rw [← h.eq]
  unfold Proofs.Ytcfkhhnkboealaa.nrm
  split
  · decide +kernel
  · exact h.lt
theorem Rep.mk' (r : Nat) (h : r < 18446744073709551616) : Rep r (Proofs.Ytcfkhhnkboealaa.nrm r) := ⟨h, rfl⟩
theorem Rep.nan {r : Nat} (h : r < 18446744073709551616) (hn : isN r = true) : Rep r nanB := ⟨h, nrm_of hn⟩
theorem Rep.eq_of {r f : Nat} (h : Rep r f) (hn : isN f = false) : r = f := by
  have := h.of_isN
  rw [hn] at this
  rw [← h.eq, nrm_of_not this]

theorem fres_rep (op : BinOp) (g : Nat → Nat → Option Nat) (hg : ∀ x y, floatBits op .f64 x y = g x y) (hlt : ∀ x y, canon (g x y) < 18446744073709551616) (hn : ∀ x y, Proofs.Ytcfkhhnkboealaa.nrm (canon (g x y)) = canon (g x y)) (x y : Nat) (w : World) :
    Rep (fres op x y w) (canon (g x y)) := by
  unfold fres
  rw [hg]
  cases h : g x y with
  | some r =>
    have := hlt x y; have := hn x y; simp only [h, canon] at *
    exact ⟨by assumption, by assumption⟩
  | none => exact Rep.nan (nanBits_cut _ _ _).2 (nanBits_cut _ _ _).1
theorem Rep.add {x y f g : Nat} (hx : Rep x f) (hy : Rep y g) {w : World} : Rep (fres .add x y w) (fadd f g) := by
  have := fres_rep .add Ieee.double.add (fun _ _ => rfl) (fun x y => canon_map_lt _) nrm_fadd x y w
  rw [show canon (Ieee.double.add x y) = fadd x y from rfl, ← fadd_nrm, hx.eq, hy.eq] at this
  exact this
theorem Rep.sub {x y f g : Nat} (hx : Rep x f) (hy : Rep y g) {w : World} : Rep (fres .sub x y w) (fsub f g) := by
  have := fres_rep .sub Ieee.double.sub (fun _ _ => rfl) (fun x y => canon_map_lt _) nrm_fsub x y w
  rw [show canon (Ieee.double.sub x y) = fsub x y from rfl, ← fsub_nrm, hx.eq, hy.eq] at this
  exact this
theorem Rep.mul {x y f g : Nat} (hx : Rep x f) (hy : Rep y g) {w : World} : Rep (fres .mul x y w) (fmul f g) := by
  have := fres_rep .mul Ieee.double.mul (fun _ _ => rfl) (fun x y => canon_map_lt _) nrm_fmul x y w
  rw [show canon (Ieee.double.mul x y) = fmul x y from rfl, ← fmul_nrm, hx.eq, hy.eq] at this
  exact this
theorem Rep.quo {x y f g : Nat} (hx : Rep x f) (hy : Rep y g) {w : World} : Rep (fres .quo x y w) (fdiv f g) := by
  have := fres_rep .quo Ieee.double.div (fun _ _ => rfl) (fun x y => canon_map_lt _) nrm_fdiv x y w
  rw [show canon (Ieee.double.div x y) = fdiv x y from rfl, ← fdiv_nrm, hx.eq, hy.eq] at this
  exact this
theorem Rep.order {x y f g : Nat} (hx : Rep x f) (hy : Rep y g) : Ieee.double.order x y = Ieee.double.order f g := by
  rw [← order_nrm, hx.eq, hy.eq]
theorem xor_sign_mod (x : Nat) : (x ^^^ 9223372036854775808) % 9223372036854775808 = x % 9223372036854775808 := by
  have h : (x ^^^ 2 ^ 63) % 2 ^ 63 = x % 2 ^ 63 := by rw [Nat.xor_mod_two_pow]; simp
  exact h
theorem isN_xor (x : Nat) : isN (x ^^^ 9223372036854775808) = isN x := by
  rw [Bool.eq_iff_iff, isN_iff, isN_iff, xor_sign_mod]
theorem Rep.neg {x f : Nat} (hx : Rep x f) : Rep (x ^^^ 9223372036854775808) (fneg f) := by
  refine ⟨Nat.xor_lt_two_pow (n := 64) hx.lt (by decide), ?_⟩
  unfold fneg
  rw [← hx.of_isN]
  cases h : isN x
  · rw [nrm_of_not (by rw [isN_xor, h])]
    rw [← hx.eq, nrm_of_not h]; rfl
  · rw [nrm_of (by rw [isN_xor, h])]; rfl
theorem negFloat_eq (b : Nat) : Op.negFloat .f64 b = b ^^^ 9223372036854775808 := by
  unfold Op.negFloat
  rw [show 2 ^ (FloatKind.f64.format.exponentBits + FloatKind.f64.format.fractionBits) = 9223372036854775808 by decide +kernel]
@[go_sem ↓] theorem unary_fneg (b : Nat) : Op.unary .neg (.float .f64 b) = pure (.float .f64 (b ^^^ 9223372036854775808)) := by
  rw [← negFloat_eq]; rfl

/-! bits: the sign's -/
section
variable {P : Program} (w : World) (t : TypeId) (x : Nat)
theorem bits_andNot_sign : bits .andNot .u64 (x : Int) 9223372036854775808 = ((x % 9223372036854775808 : Nat) : Int) := by
  show IntKind.u64.wrap ((BitVec.ofInt 64 (x : Int) &&& ~~~BitVec.ofInt 64 (9223372036854775808 : Int)).toNat : Int) = _
  rw [BitVec.toNat_and, BitVec.toNat_not, BitVec.ofInt_natCast, BitVec.toNat_ofNat, show (BitVec.ofInt 64 9223372036854775808).toNat = 9223372036854775808 from by decide +kernel, IntKind.wrap_u64]
  rw [show 2 ^ 64 - 1 - 9223372036854775808 = 2 ^ 63 - 1 from by decide +kernel, Nat.and_two_pow_sub_one_eq_mod]
  simp only [Nat.reducePow]
  omega
@[go_sem ↓] theorem run_andNot_sign : (binOp .andNot t (.int .u64 (x : Int)) (.int .u64 9223372036854775808)).run P w = .ok (.int .u64 ((x % 9223372036854775808 : Nat) : Int)) w := by
  have h : binOp .andNot t (.int .u64 (x : Int)) (.int .u64 9223372036854775808) = pure (.int .u64 (bits .andNot .u64 (x : Int) 9223372036854775808)) := by simp only [binOp_andNot, intBits_andNot]
  rw [h, bits_andNot_sign]
  rfl
theorem bits_and_sign : bits .and .u64 (x : Int) 9223372036854775808 = ((x / 9223372036854775808 % 2 * 9223372036854775808 : Nat) : Int) := by
  show IntKind.u64.wrap ((BitVec.ofInt 64 (x : Int) &&& BitVec.ofInt 64 (9223372036854775808 : Int)).toNat : Int) = _
  rw [BitVec.toNat_and, BitVec.ofInt_natCast, BitVec.toNat_ofNat, show (BitVec.ofInt 64 9223372036854775808).toNat = 2 ^ 63 from by decide +kernel, IntKind.wrap_u64]
  rw [nat_bit]
  simp only [Nat.reducePow]
  omega
@[go_sem ↓] theorem run_and_sign : (binOp .and t (.int .u64 (x : Int)) (.int .u64 9223372036854775808)).run P w = .ok (.int .u64 ((x / 9223372036854775808 % 2 * 9223372036854775808 : Nat) : Int)) w := by
  have h : binOp .and t (.int .u64 (x : Int)) (.int .u64 9223372036854775808) = pure (.int .u64 (bits .and .u64 (x : Int) 9223372036854775808)) := by simp only [binOp_and, intBits_and]
  rw [h, bits_and_sign]
  rfl
end
/-- a sign's bit. -/
def sgn (x : Nat) : Bool := x / 9223372036854775808 % 2 == 1
def fabs (x : Nat) : Nat := if isN x then nanB else x % 9223372036854775808
theorem sgn_ne (x : Nat) : (((x / 9223372036854775808 % 2 * 9223372036854775808 : Nat) : Int) != 0) = sgn x := by
  unfold sgn
  rcases Nat.mod_two_eq_zero_or_one (x / 9223372036854775808) with h | h <;> rw [h] <;> decide +kernel
theorem Rep.abs {x f : Nat} (hx : Rep x f) : Rep (x % 9223372036854775808) (fabs f) := by
  refine ⟨by omega, ?_⟩
  unfold fabs
  rw [← hx.of_isN]
  cases h : isN x
  · rw [nrm_of_not]
    · rw [← hx.eq, nrm_of_not h]; rfl
    · rw [isN_false_iff] at *; omega
  · rw [nrm_of]
    · rfl
    · rw [isN_iff] at *; omega

/-! what a call hands back -/
def RetF (f : Nat) (w : World) (e : Ending) (w' : World) : Prop := ∃ r n, e = .returned (.float .f64 r) ∧ Rep r f ∧ w' = w.drewN n
def RetB (b : Bool) (w : World) (e : Ending) (w' : World) : Prop := ∃ n, e = .returned (.bool b) ∧ w' = w.drewN n
def RetI (k : IntKind) (i : Int) (w : World) (e : Ending) (w' : World) : Prop := ∃ n, e = .returned (.int k i) ∧ w' = w.drewN n
end Go.Proofs.Ytcfkhhnkboealaa
namespace Go.Proofs.Ytcfkhhnkboealaa
set_option linter.unusedVariables false

/-- the worth of a rung, in units of 2^-1074 (of infinity's: the next power of two). -/
def mval (r : Nat) : Nat := if r < 4503599627370496 then r else (4503599627370496 + r % 4503599627370496) * 2 ^ (r / 4503599627370496 - 1)
/-- the rung of bits -/
def rung (x : Nat) : Nat := x % 9223372036854775808
/-- the worth of bits, with its sign -/
def sval (x : Nat) : Int := if sgn x then -(mval (rung x) : Int) else (mval (rung x) : Int)

theorem mval_lt {r s : Nat} (h : r < s) : mval r < mval s := by
  have two : ∀ k, 0 < 2 ^ k := fun k => Nat.two_pow_pos k
  unfold mval
  by_cases hr : r < 4503599627370496
  · rw [if_pos hr]
    by_cases hs : s < 4503599627370496
    · rw [if_pos hs]; exact h
    · rw [if_neg hs]
      have := two (s / 4503599627370496 - 1)
      have h2 : (4503599627370496 + s % 4503599627370496) * 1 ≤ (4503599627370496 + s % 4503599627370496) * 2 ^ (s / 4503599627370496 - 1) := Nat.mul_le_mul_left _ this
      omega
  · have hs : ¬ s < 4503599627370496 := by omega
    rw [if_neg hr, if_neg hs]
    have d1 := Nat.div_add_mod r 4503599627370496
    have d2 := Nat.div_add_mod s 4503599627370496
    have m1 := Nat.mod_lt r (show 0 < 4503599627370496 by decide)
    have m2 := Nat.mod_lt s (show 0 < 4503599627370496 by decide)
    generalize r / 4503599627370496 = e at *
    generalize s / 4503599627370496 = k at *
    generalize r % 4503599627370496 = a at *
    generalize s % 4503599627370496 = b at *
    by_cases hek : e = k
    · subst hek
      exact Nat.mul_lt_mul_of_pos_right (by omega) (two _)
    · have hlt : e < k := by omega
      have h1 : (4503599627370496 + a) * 2 ^ (e - 1) < 9007199254740992 * 2 ^ (e - 1) := Nat.mul_lt_mul_of_pos_right (by omega) (two _)
      have h2 : 9007199254740992 * 2 ^ (e - 1) = 4503599627370496 * 2 ^ e := by
        have : e = (e - 1) + 1 := by omega
        rw [this, Nat.pow_succ, Nat.add_sub_cancel]
        omega
      have h3 : 4503599627370496 * 2 ^ e ≤ 4503599627370496 * 2 ^ (k - 1) := Nat.mul_le_mul_left _ (Nat.pow_le_pow_right (by decide) (by omega))
      have h4 : 4503599627370496 * 2 ^ (k - 1) ≤ (4503599627370496 + b) * 2 ^ (k - 1) := Nat.mul_le_mul_right _ (by omega)
      omega
theorem mval_lt_iff {r s : Nat} : mval r < mval s ↔ r < s := by
  constructor
  · intro h
    by_cases h2 : r < s
    · exact h2
    · by_cases h3 : r = s
      · subst h3; omega
      · have := mval_lt (show s < r by omega); omega
  · exact mval_lt
theorem mval_inj {r s : Nat} (h : mval r = mval s) : r = s := by
  by_cases h1 : r < s
  · have := mval_lt h1; omega
  · by_cases h2 : s < r
    · have := mval_lt h2; omega
    · omega
theorem mval_le_iff {r s : Nat} : mval r ≤ mval s ↔ r ≤ s := by
  have := @mval_lt_iff s r
  omega
theorem mval_zero : mval 0 = 0 := by decide +kernel
theorem mval_pos {r : Nat} (h : 0 < r) : 0 < mval r := by have := mval_lt h; rw [mval_zero] at this; exact this

/-- a number's parts: the magnitude times 2 to the place above the least is the worth. -/
theorem read_number {x : Nat} (h : rung x < 9218868437227405312) : ∃ m k, Ieee.double.read x = .number (sgn x) m (-1074 + (k : Nat)) ∧ mval (rung x) = m * 2 ^ k ∧ m < 9007199254740992 ∧ k ≤ 2045 := by
  rw [read_eq]
  dsimp only
  have hr : x % 9223372036854775808 = rung x := rfl
  rw [hr]
  by_cases h1 : rung x < 4503599627370496
  · rw [if_pos h1]
    refine ⟨rung x, 0, ?_, ?_, by omega, by omega⟩
    · rfl
    · simp [mval, h1]
  · rw [if_neg h1, if_pos h]
    refine ⟨_, rung x / 4503599627370496 - 1, rfl, ?_, by omega, by omega⟩
    simp [mval, h1]
theorem read_inf {x : Nat} (h : rung x = 9218868437227405312) : Ieee.double.read x = .infinity (sgn x) := by
  rw [read_eq]
  dsimp only
  have hr : x % 9223372036854775808 = rung x := rfl
  rw [hr, h]
  rfl
theorem signed_eq (s : Bool) (m k : Nat) : Ieee.signed s m k = (if s then -((m * 2 ^ k : Nat) : Int) else ((m * 2 ^ k : Nat) : Int)) := by
  unfold Ieee.signed
  rw [Nat.shiftLeft_eq]

theorem compare_scale (a b : Int) (k : Nat) : compare (a * (2 ^ k : Nat)) (b * (2 ^ k : Nat)) = compare a b := by
  have hp : (0 : Int) < ((2 ^ k : Nat) : Int) := by exact_mod_cast Nat.two_pow_pos k
  simp only [compare, compareOfLessAndEq]
  have e1 : a * ((2 ^ k : Nat) : Int) < b * ((2 ^ k : Nat) : Int) ↔ a < b := Int.mul_lt_mul_right hp
  have e2 : a * ((2 ^ k : Nat) : Int) = b * ((2 ^ k : Nat) : Int) ↔ a = b := Int.mul_eq_mul_right_iff (by omega)
  simp only [e1, e2]

theorem signed_scale (s : Bool) (m a b : Nat) : Ieee.signed s m (a + b) = Ieee.signed s m a * ((2 ^ b : Nat) : Int) := by
  rw [signed_eq, signed_eq]
  rw [Nat.pow_add, ← Nat.mul_assoc]
  cases s
  · simp
  · simp [Int.neg_mul]

/-- THE ORDER of two finite floats -/
theorem order_fin {x y : Nat} (hx : rung x < 9218868437227405312) (hy : rung y < 9218868437227405312) : Ieee.double.order x y = some (compare (sval x) (sval y)) := by
  obtain ⟨m, k, hr, hm, _⟩ := read_number hx
  obtain ⟨n, j, hs, hn, _⟩ := read_number hy
  unfold Ieee.Format.order
  rw [hr, hs]
  simp only [Ieee.Datum.order]
  congr 1
  have ex : sval x = Ieee.signed (sgn x) m k := by rw [signed_eq]; unfold sval; rw [hm]
  have ey : sval y = Ieee.signed (sgn y) n j := by rw [signed_eq]; unfold sval; rw [hn]
  rw [ex, ey]
  by_cases h : k ≤ j
  · have e0 : min (-1074 + (k : Int)) (-1074 + (j : Int)) = -1074 + k := by omega
    rw [e0]
    have e1 : (-1074 + (k : Int) - (-1074 + (k : Int))).toNat = 0 := by omega
    have e2 : (-1074 + (j : Int) - (-1074 + (k : Int))).toNat = j - k := by omega
    rw [e1, e2, ← compare_scale _ _ k, ← signed_scale, ← signed_scale, Nat.zero_add, Nat.sub_add_cancel h]
  · have e0 : min (-1074 + (k : Int)) (-1074 + (j : Int)) = -1074 + j := by omega
    rw [e0]
    have e1 : (-1074 + (k : Int) - (-1074 + (j : Int))).toNat = k - j := by omega
    have e2 : (-1074 + (j : Int) - (-1074 + (j : Int))).toNat = 0 := by omega
    rw [e1, e2, ← compare_scale _ _ j, ← signed_scale, ← signed_scale, Nat.zero_add, Nat.sub_add_cancel (by omega)]

theorem notN_iff (x : Nat) : isN x = false ↔ rung x ≤ 9218868437227405312 := isN_false_iff x

theorem compare_lt' {a b : Int} (h : a < b) : compare a b = .lt := by simp [compare, compareOfLessAndEq, h]
theorem compare_gt' {a b : Int} (h : b < a) : compare a b = .gt := by
  have h1 : ¬ a < b := by omega
  have h2 : ¬ a = b := by omega
  simp [compare, compareOfLessAndEq, h1, h2]
theorem compare_eq' {a b : Int} (h : a = b) : compare a b = .eq := by simp [compare, compareOfLessAndEq, h]

/-- THE ORDER of any two numbers, infinite ones among them -/
theorem order_num {x y : Nat} (hx : isN x = false) (hy : isN y = false) : Ieee.double.order x y = some (compare (sval x) (sval y)) := by
  rw [notN_iff] at hx hy
  by_cases h1 : rung x < 9218868437227405312
  · by_cases h2 : rung y < 9218868437227405312
    · exact order_fin h1 h2
    · have h2' : rung y = 9218868437227405312 := by omega
      obtain ⟨m, k, hr, hm, _⟩ := read_number h1
      have hlt : mval (rung x) < mval (rung y) := mval_lt (by omega)
      unfold Ieee.Format.order
      rw [hr, read_inf h2']
      simp only [Ieee.Datum.order, sval]
      cases sgn y <;> cases sgn x <;> simp only [Bool.false_eq_true, if_true, if_false] <;> first | rw [compare_lt' (by omega)] | rw [compare_gt' (by omega)]
  · have h1' : rung x = 9218868437227405312 := by omega
    by_cases h2 : rung y < 9218868437227405312
    · obtain ⟨m, k, hr, hm, _⟩ := read_number h2
      have hlt : mval (rung y) < mval (rung x) := mval_lt (by omega)
      unfold Ieee.Format.order
      rw [hr, read_inf h1']
      simp only [Ieee.Datum.order, sval]
      cases sgn y <;> cases sgn x <;> simp only [Bool.false_eq_true, if_true, if_false] <;> first | rw [compare_lt' (by omega)] | rw [compare_gt' (by omega)]
    · have h2' : rung y = 9218868437227405312 := by omega
      have hpos : 0 < mval (rung x) := mval_pos (by omega)
      unfold Ieee.Format.order
      rw [read_inf h1', read_inf h2']
      simp only [Ieee.Datum.order, sval, h1', h2'] at *
      cases sgn y <;> cases sgn x <;> simp only [Bool.false_eq_true, if_true, if_false] <;> first | rw [compare_lt' (by omega)]; rfl | rw [compare_gt' (by omega)]; rfl | rw [compare_eq' (by omega)]; rfl
theorem order_nanL {x y : Nat} (hx : isN x = true) : Ieee.double.order x y = none := order_none _ _ (.inl hx)
theorem order_nanR {x y : Nat} (hy : isN y = true) : Ieee.double.order x y = none := order_none _ _ (.inr hy)

theorem cmp_lt (a b : Int) : (some (compare a b) == some Ordering.lt) = decide (a < b) := by
  simp only [compare, compareOfLessAndEq]
  by_cases h : a < b
  · simp [h]
  · by_cases h2 : a = b <;> simp [h, h2]
theorem cmp_eq (a b : Int) : (some (compare a b) == some Ordering.eq) = decide (a = b) := by
  simp only [compare, compareOfLessAndEq]
  by_cases h : a < b
  · have : ¬ a = b := by omega
    simp [h, this]
  · by_cases h2 : a = b <;> simp [h, h2]
theorem cmp_gt (a b : Int) : (some (compare a b) == some Ordering.gt) = decide (b < a) := by
  simp only [compare, compareOfLessAndEq]
  by_cases h : a < b
  · have : ¬ b < a := by omega
    simp [h, this]
  · by_cases h2 : a = b
    · simp [h2]
    · have : b < a := by omega
      simp [h, h2, this]

theorem flt_eq (x y : Nat) : flt x y = (!isN x && !isN y && decide (sval x < sval y)) := by
  unfold flt
  cases hx : isN x
  · cases hy : isN y
    · rw [order_num hx hy, cmp_lt]; rfl
    · rw [order_nanR hy]; rfl
  · rw [order_nanL hx]; rfl
theorem feq_eq (x y : Nat) : feq x y = (!isN x && !isN y && decide (sval x = sval y)) := by
  unfold feq
  cases hx : isN x
  · cases hy : isN y
    · rw [order_num hx hy, cmp_eq]; rfl
    · rw [order_nanR hy]; rfl
  · rw [order_nanL hx]; rfl
theorem fle_eq (x y : Nat) : fle x y = (!isN x && !isN y && decide (sval x ≤ sval y)) := by
  have h : fle x y = (flt x y || feq x y) := rfl
  rw [h, flt_eq, feq_eq]
  cases isN x <;> cases isN y <;> simp
  rw [Bool.eq_iff_iff]; simp; omega
theorem fgt_eq (x y : Nat) : (Ieee.double.order x y == some .gt) = flt y x := by
  rw [flt_eq]
  cases hx : isN x
  · cases hy : isN y
    · rw [order_num hx hy, cmp_gt]; rfl
    · rw [order_nanR hy]; rfl
  · rw [order_nanL hx]; simp
theorem fge_eq (x y : Nat) : (Ieee.double.order x y == some .gt || Ieee.double.order x y == some .eq) = fle y x := by
  rw [fgt_eq, fle_eq, flt_eq]
  have h : (Ieee.double.order x y == some .eq) = feq x y := rfl
  rw [h, feq_eq]
  cases isN x <;> cases isN y <;> simp
  rw [Bool.eq_iff_iff]; simp; omega
theorem feq_self (x : Nat) : feq x x = !isN x := by rw [feq_eq]; simp

/-! signs -/
theorem sgn_true {x : Nat} (h : sgn x = true) (hl : x < 18446744073709551616) : x = 9223372036854775808 + rung x := by
  unfold sgn at h; unfold rung; simp at h; omega
theorem sgn_false {x : Nat} (h : sgn x = false) (hl : x < 18446744073709551616) : x = rung x := by
  unfold sgn at h; unfold rung; simp at h; omega
theorem xor_sign {x : Nat} (hl : x < 18446744073709551616) : x ^^^ 9223372036854775808 = if sgn x then rung x else rung x + 9223372036854775808 := by
  have h1 : (x ^^^ 9223372036854775808) % 9223372036854775808 = x % 9223372036854775808 := xor_sign_mod x
  have h2 : (x ^^^ 9223372036854775808) < 18446744073709551616 := Nat.xor_lt_two_pow (n := 64) hl (by decide)
  have h3 : (x ^^^ 2 ^ 63) / 2 ^ 63 = x / 2 ^ 63 ^^^ 1 := by
    rw [← Nat.shiftRight_eq_div_pow, Nat.shiftRight_xor_distrib, Nat.shiftRight_eq_div_pow, Nat.shiftRight_eq_div_pow]
  have h4 : (x ^^^ 9223372036854775808) / 9223372036854775808 = x / 9223372036854775808 ^^^ 1 := h3
  have h5 : x / 9223372036854775808 = 0 ∨ x / 9223372036854775808 = 1 := by omega
  unfold sgn rung
  rcases h5 with h5 | h5
  · rw [h5] at h4 ⊢
    have : (0 : Nat) ^^^ 1 = 1 := rfl
    rw [this] at h4
    simp
    omega
  · rw [h5] at h4 ⊢
    have : (1 : Nat) ^^^ 1 = 0 := rfl
    rw [this] at h4
    simp
    omega
theorem rung_xor (x : Nat) : rung (x ^^^ 9223372036854775808) = rung x := xor_sign_mod x
theorem sgn_xor {x : Nat} (hl : x < 18446744073709551616) : sgn (x ^^^ 9223372036854775808) = !sgn x := by
  rw [xor_sign hl]
  cases h : sgn x
  · simp only [Bool.false_eq_true, if_false]; unfold sgn rung; simp
  · simp only [if_true]; unfold sgn rung; simp
theorem sval_xor {x : Nat} (hl : x < 18446744073709551616) : sval (x ^^^ 9223372036854775808) = -sval x := by
  unfold sval
  rw [rung_xor, sgn_xor hl]
  cases sgn x <;> simp
theorem sval_neg {x : Nat} (hl : x < 18446744073709551616) (hn : isN x = false) : sval (fneg x) = -sval x := by
  unfold fneg; rw [hn]; exact sval_xor hl
theorem isN_neg (x : Nat) : isN (fneg x) = isN x := by
  unfold fneg
  cases h : isN x
  · simp only [Bool.false_eq_true, if_false]; rw [isN_xor, h]
  · exact isN_nanB
theorem isN_abs (x : Nat) : isN (fabs x) = isN x := by
  unfold fabs
  cases h : isN x
  · simp only [Bool.false_eq_true, if_false]; rw [isN_false_iff] at *; omega
  · exact isN_nanB
theorem rung_abs {x : Nat} (hn : isN x = false) : rung (fabs x) = rung x := by unfold fabs; rw [hn]; unfold rung; simp
theorem sgn_abs {x : Nat} (hn : isN x = false) : sgn (fabs x) = false := by unfold fabs; rw [hn]; unfold sgn; simp
theorem sval_abs {x : Nat} (hn : isN x = false) : sval (fabs x) = mval (rung x) := by
  unfold sval; rw [sgn_abs hn, rung_abs hn]; simp
theorem sval_cases (x : Nat) : (sgn x = false ∧ sval x = mval (rung x)) ∨ (sgn x = true ∧ sval x = -(mval (rung x) : Int)) := by
  unfold sval; cases sgn x <;> simp
end Go.Proofs.Ytcfkhhnkboealaa
namespace Go.Proofs.Ytcfkhhnkboealaa
set_option linter.unusedVariables false

/-- the nearest whole number to n / g, between two the even one -/
def rne (n g : Nat) : Nat := n / g + (if g < 2 * (n % g) || (g == 2 * (n % g) && n / g % 2 == 1) then 1 else 0)
/-- the rung nearest to m / 2^d units -/
def rndQ (m d : Nat) : Nat := if m = 0 then 0 else min ((m.log2 - 52 - d) * 4503599627370496 + rne m (2 ^ (d + (m.log2 - 52 - d)))) 9218868437227405312
def rndN (m : Nat) : Nat := rndQ m 0

theorem log2_mul (m k : Nat) (h : m ≠ 0) : (m * 2 ^ k).log2 = m.log2 + k := by
  have h2 : m * 2 ^ k ≠ 0 := Nat.mul_ne_zero h (Nat.ne_of_gt (Nat.two_pow_pos k))
  have a := Nat.log2_self_le h
  have b := @Nat.lt_log2_self m
  apply (Nat.log2_eq_iff h2).2
  constructor
  · rw [Nat.pow_add]; exact Nat.mul_le_mul_right _ a
  · rw [show m.log2 + k + 1 = (m.log2 + 1) + k by omega, Nat.pow_add]
    exact Nat.mul_lt_mul_of_pos_right b (Nat.two_pow_pos k)

theorem rne_small {n g : Nat} (h : 2 * n < g) : rne n g = 0 := by
  unfold rne
  rw [Nat.div_eq_of_lt (by omega), Nat.mod_eq_of_lt (by omega)]
  have h1 : ¬ g < 2 * n := by omega
  simp [h1]
theorem toNat_ite (b : Bool) : b.toNat = if b = true then 1 else 0 := by cases b <;> rfl
theorem cut_even (s : Bool) (n drop : Nat) (hn : n ≠ 0) : Ieee.Toward.even.cut s n drop = rne n (2 ^ drop) := by
  unfold Ieee.Toward.cut
  by_cases h : drop ≤ n.log2 + 2
  · rw [Nat.min_eq_left h, Nat.one_shiftLeft]
    simp only
    unfold rne
    rw [toNat_ite]
  · rw [Nat.min_eq_right (by omega), Nat.one_shiftLeft]
    have b := @Nat.lt_log2_self n
    have e : 2 ^ (n.log2 + 2) = 2 * 2 ^ (n.log2 + 1) := by rw [Nat.pow_succ 2 (n.log2 + 1)]; omega
    have e2 : 2 ^ (n.log2 + 2) ≤ 2 ^ drop := Nat.pow_le_pow_right (by decide) (by omega)
    rw [rne_small (show 2 * n < 2 ^ drop by omega)]
    simp only
    rw [Nat.div_eq_of_lt (by omega), Nat.mod_eq_of_lt (by omega)]
    have h1 : ¬ 2 ^ (n.log2 + 2) < 2 * n := by omega
    simp [h1]
theorem rne_scale (n g c : Nat) (hc : 0 < c) : rne (n * c) (g * c) = rne n g := by
  unfold rne
  rw [Nat.mul_div_mul_right _ _ hc, Nat.mul_mod_mul_right]
  have e : 2 * (n % g * c) = 2 * (n % g) * c := by rw [Nat.mul_assoc]
  rw [e]
  have h1 : g * c < 2 * (n % g) * c ↔ g < 2 * (n % g) := Nat.mul_lt_mul_right hc
  have h2 : g * c = 2 * (n % g) * c ↔ g = 2 * (n % g) := by
    constructor
    · intro h; exact Nat.eq_of_mul_eq_mul_right hc h
    · intro h; rw [← h]
  have h3 : (g * c == 2 * (n % g) * c) = (g == 2 * (n % g)) := by rw [Bool.eq_iff_iff]; simp only [beq_iff_eq, h2]
  have h4 : decide (g * c < 2 * (n % g) * c) = decide (g < 2 * (n % g)) := by rw [Bool.eq_iff_iff]; simp only [decide_eq_true_eq, h1]
  rw [h3, h4]
theorem rne_mul (q g : Nat) (hg : 0 < g) : rne (q * g) g = q := by
  unfold rne
  rw [Nat.mul_div_cancel _ hg, Nat.mul_mod_left]
  have h1 : ¬ g = 0 := by omega
  simp [h1]
theorem rne_one (q : Nat) : rne q 1 = q := by have := rne_mul q 1 (by omega); rwa [Nat.mul_one] at this

theorem rndQ_scale (m d k : Nat) : rndQ (m * 2 ^ k) (d + k) = rndQ m d := by
  unfold rndQ
  by_cases h : m = 0
  · simp [h]
  · rw [if_neg (Nat.mul_ne_zero h (Nat.ne_of_gt (Nat.two_pow_pos k))), if_neg h, log2_mul m k h]
    rw [show m.log2 + k - 52 - (d + k) = m.log2 - 52 - d by omega, show d + k + (m.log2 - 52 - d) = d + (m.log2 - 52 - d) + k by omega, Nat.pow_add 2 (d + (m.log2 - 52 - d)) k, rne_scale _ _ _ (Nat.two_pow_pos k)]

theorem nearest_frac (neg : Bool) (m d : Nat) : Ieee.double.nearest neg m (-1074 - (d : Int)) = Ieee.double.word neg (rndQ m d) := by
  have e1 : Ieee.double.infRung = 9218868437227405312 := by decide +kernel
  have e2 : Ieee.double.binade = 4503599627370496 := by decide +kernel
  have e3 : Ieee.double.leastPlace = -1074 := by decide +kernel
  have e4 : Ieee.double.fractionBits = 52 := rfl
  unfold Ieee.Format.nearest rndQ
  by_cases h : m = 0
  · simp [h]
  · rw [if_neg h, if_neg h, e1, e2, e3, e4]
    simp only
    have hl : max (-1074 - (d : Int) + (m.log2 : Int) - ((52 : Nat) : Int)) (-1074) = -1074 + ((m.log2 - 52 - d : Nat) : Int) := by omega
    rw [hl]
    have h1 : (-1074 - (d : Int) - (-1074 + ((m.log2 - 52 - d : Nat) : Int))).toNat = 0 := by omega
    have h2 : (-1074 + ((m.log2 - 52 - d : Nat) : Int) - (-1074 - (d : Int))).toNat = d + (m.log2 - 52 - d) := by omega
    have h3 : (-1074 + ((m.log2 - 52 - d : Nat) : Int) - (-1074)).toNat = m.log2 - 52 - d := by omega
    rw [h1, h2, h3, Nat.shiftLeft_zero, cut_even _ _ _ h]
theorem nearest_int (neg : Bool) (m k : Nat) : Ieee.double.nearest neg m (-1074 + (k : Int)) = Ieee.double.word neg (rndN (m * 2 ^ k)) := by
  have e1 : Ieee.double.infRung = 9218868437227405312 := by decide +kernel
  have e2 : Ieee.double.binade = 4503599627370496 := by decide +kernel
  have e3 : Ieee.double.leastPlace = -1074 := by decide +kernel
  have e4 : Ieee.double.fractionBits = 52 := rfl
  unfold Ieee.Format.nearest rndN rndQ
  by_cases h : m = 0
  · simp [h]
  · rw [if_neg h, if_neg (Nat.mul_ne_zero h (Nat.ne_of_gt (Nat.two_pow_pos k))), e1, e2, e3, e4, log2_mul m k h]
    simp only
    have hl : max (-1074 + (k : Int) + (m.log2 : Int) - ((52 : Nat) : Int)) (-1074) = -1074 + ((m.log2 + k - 52 - 0 : Nat) : Int) := by omega
    rw [hl]
    have h3 : (-1074 + ((m.log2 + k - 52 - 0 : Nat) : Int) - (-1074)).toNat = m.log2 + k - 52 - 0 := by omega
    rw [h3]
    congr 3
    rw [Nat.shiftLeft_eq, Nat.zero_add]
    by_cases hk : m.log2 + k - 52 - 0 ≤ k
    · have h1 : (-1074 + (k : Int) - (-1074 + ((m.log2 + k - 52 - 0 : Nat) : Int))).toNat = k - (m.log2 + k - 52 - 0) := by omega
      have h2 : (-1074 + ((m.log2 + k - 52 - 0 : Nat) : Int) - (-1074 + (k : Int))).toNat = 0 := by omega
      rw [h1, h2, cut_even _ _ _ (Nat.mul_ne_zero h (Nat.ne_of_gt (Nat.two_pow_pos _)))]
      rw [show (2 : Nat) ^ 0 = 1 from rfl, rne_one]
      generalize m.log2 + k - 52 - 0 = L at *
      have e : m * 2 ^ k = m * 2 ^ (k - L) * 2 ^ L := by rw [Nat.mul_assoc, ← Nat.pow_add, Nat.sub_add_cancel hk]
      rw [e, rne_mul _ _ (Nat.two_pow_pos L)]
    · have h1 : (-1074 + (k : Int) - (-1074 + ((m.log2 + k - 52 - 0 : Nat) : Int))).toNat = 0 := by omega
      have h2 : (-1074 + ((m.log2 + k - 52 - 0 : Nat) : Int) - (-1074 + (k : Int))).toNat = m.log2 + k - 52 - 0 - k := by omega
      rw [h1, h2, show (2 : Nat) ^ 0 = 1 from rfl, Nat.mul_one, cut_even _ _ _ h]
      generalize m.log2 + k - 52 - 0 = L at *
      have e : 2 ^ L = 2 ^ (L - k) * 2 ^ k := by rw [← Nat.pow_add, Nat.sub_add_cancel (by omega)]
      rw [e, rne_scale _ _ _ (Nat.two_pow_pos k)]

/-- what is a float rounds to itself -/
theorem rnd_mval {r : Nat} (h : r < 9218868437227405312) : rndN (mval r) = r := by
  unfold rndN rndQ
  by_cases h0 : r = 0
  · subst h0; rfl
  · have hp : mval r ≠ 0 := by have := mval_pos (show 0 < r by omega); omega
    rw [if_neg hp]
    unfold mval at hp ⊢
    by_cases h1 : r < 4503599627370496
    · rw [if_pos h1]
      have h2 : r.log2 < 52 := (Nat.log2_lt (by omega)).2 (by omega)
      rw [show r.log2 - 52 - 0 = 0 by omega]
      simp only [Nat.zero_mul, Nat.zero_add]
      rw [show (2 : Nat) ^ 0 = 1 from rfl, rne_one]
      omega
    · rw [if_neg h1]
      generalize hq : r / 4503599627370496 = e at *
      have hm := Nat.mod_lt r (show 0 < 4503599627370496 by decide)
      have hd := Nat.div_add_mod r 4503599627370496
      generalize r % 4503599627370496 = m at *
      have hlog : (4503599627370496 + m).log2 = 52 := (Nat.log2_eq_iff (by omega)).2 ⟨by omega, by omega⟩
      rw [log2_mul _ _ (by omega), hlog, show 52 + (e - 1) - 52 - 0 = e - 1 by omega, Nat.zero_add, rne_mul _ _ (Nat.two_pow_pos _)]
      rw [hq] at hd
      omega
end Go.Proofs.Ytcfkhhnkboealaa
namespace Go.Proofs.Ytcfkhhnkboealaa
set_option linter.unusedVariables false
@[go_sem] theorem call_bits (b : Nat) (w : World) : (callFunc 27 #[.float .f64 b]).run Try.prog w = .ok (.value (.int .u64 (b : Int))) w := by
  rw [run_callFunc_extern (e := Extern.MathFloatBits.float64bits) Try.func27 (by kernel_rfl) (by kernel_rfl) (by kernel_rfl) (by kernel_rfl)]; rfl
@[go_sem] theorem call_frombits (n : Int) (w : World) : (callFunc 17 #[.int .u64 n]).run Try.prog w = .ok (.value (.float .f64 n.toNat)) w := by
  rw [run_callFunc_extern (e := Extern.MathFloatBits.float64frombits) Try.func17 (by kernel_rfl) (by kernel_rfl) (by kernel_rfl) (by kernel_rfl)]; rfl
end Go.Proofs.Ytcfkhhnkboealaa
