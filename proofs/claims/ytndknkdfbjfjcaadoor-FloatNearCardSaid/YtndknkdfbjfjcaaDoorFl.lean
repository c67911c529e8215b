/- The floats of the walk: each operation on two floats, NaN or not, gives bits that stand for a canonical result of the canonical operands; the world has at most drawn. No condition. -/
import Derived.WalkKit
import Derived.WalkLawsBesides
import Derived.Deep.Draws
namespace Go.Proofs.YtndknkdfbjfjcaaDoor
set_option linter.unusedVariables false
set_option linter.unusedSimpArgs false

/-- The canonical no-number. -/
def nanB : Nat := 9221120237041090560
/-- Is it no number? -/
def isN (b : Nat) : Bool := (Ieee.double.read b).isNaN
/-- Bits, of no number those of one. -/
def nrm (b : Nat) : Nat := if isN b then nanB else b
/-- The bits of a canonical operation. -/
def canon : Option Nat → Nat
  | some r => r
  | none => nanB
def fadd (x y : Nat) : Nat := canon (Ieee.double.add x y)
def fsub (x y : Nat) : Nat := canon (Ieee.double.sub x y)
def fmul (x y : Nat) : Nat := canon (Ieee.double.mul x y)
def fdiv (x y : Nat) : Nat := canon (Ieee.double.div x y)
def fneg (x : Nat) : Nat := if isN x then nanB else x ^^^ 9223372036854775808
def flt (x y : Nat) : Bool := Ieee.double.order x y == some .lt
def fle (x y : Nat) : Bool := Ieee.double.order x y == some .lt || Ieee.double.order x y == some .eq
def feq (x y : Nat) : Bool := Ieee.double.order x y == some .eq

/-- r stands for the canonical f. -/
structure Rep (r f : Nat) : Prop where
  lt : r < 18446744073709551616
  eq : nrm r = f

theorem fmt64 : FloatKind.f64.format = Ieee.double := rfl

theorem isN_nanB : isN nanB = true := by decide +kernel

/-- read without its sign. -/
theorem read_eq (b : Nat) : Ieee.double.read b = (let neg := b / 9223372036854775808 % 2 == 1; let rung := b % 9223372036854775808
  if rung < 4503599627370496 then .number neg rung (-1074)
  else if rung < 9218868437227405312 then .number neg (4503599627370496 + rung % 4503599627370496) (-1074 + (rung / 4503599627370496 - 1 : Nat))
  else if rung = 9218868437227405312 then .infinity neg else .nan neg (rung - 9218868437227405312)) := by
  have e1 : Ieee.double.signWeight = 9223372036854775808 := by decide +kernel
  have e2 : Ieee.double.binade = 4503599627370496 := by decide +kernel
  have e3 : Ieee.double.infRung = 9218868437227405312 := by decide +kernel
  have e4 : Ieee.double.leastPlace = -1074 := by decide +kernel
  unfold Ieee.Format.read
  rw [e1, e2, e3, e4]

theorem isN_iff (b : Nat) : isN b = true ↔ 9218868437227405312 < b % 9223372036854775808 := by
  unfold isN
  rw [read_eq]
  dsimp only
  split
  · simp [Ieee.Datum.isNaN]; omega
  · split
    · simp [Ieee.Datum.isNaN]; omega
    · split
      · simp [Ieee.Datum.isNaN]; omega
      · simp [Ieee.Datum.isNaN]; omega

theorem isN_false_iff (b : Nat) : isN b = false ↔ b % 9223372036854775808 ≤ 9218868437227405312 := by
  have := isN_iff b
  cases h : isN b
  · simp [h] at this; simp; omega
  · simp [h] at this; simp; omega

theorem write_notN (d : Ieee.Datum) (h : d.isNaN = false) : isN (Ieee.double.write d) = false := by
  rw [isN_false_iff]
  have e1 : Ieee.double.signWeight = 9223372036854775808 := by decide +kernel
  have e3 : Ieee.double.infRung = 9218868437227405312 := by decide +kernel
  have hw : ∀ neg r, r ≤ 9218868437227405312 → Ieee.double.word neg r % 9223372036854775808 ≤ 9218868437227405312 := by
    intro neg r hr
    unfold Ieee.Format.word
    rw [e1]
    split <;> omega
  cases d with
  | nan => simp [Ieee.Datum.isNaN] at h
  | infinity s => exact hw _ _ (by rw [e3]; omega)
  | number s m p =>
    show Ieee.double.nearest s m p % _ ≤ _
    unfold Ieee.Format.nearest
    split
    · exact hw _ _ (by omega)
    · exact hw _ _ (by rw [← e3]; exact Nat.min_le_right ..)

theorem write_lt64 (d : Ieee.Datum) : Ieee.double.write d < 18446744073709551616 := by
  have := Ieee.double.write_lt d
  have e : 2 ^ Ieee.double.width = 18446744073709551616 := by decide +kernel
  omega

theorem nrm_of_not {b : Nat} (h : isN b = false) : nrm b = b := by simp [nrm, h]
theorem nrm_of {b : Nat} (h : isN b = true) : nrm b = nanB := by simp [nrm, h]
theorem isN_nrm (b : Nat) : isN (nrm b) = isN b := by
  cases h : isN b
  · rw [nrm_of_not h, h]
  · rw [nrm_of h, isN_nanB]
theorem nrm_nrm (b : Nat) : nrm (nrm b) = nrm b := by
  cases h : isN b
  · rw [nrm_of_not h, nrm_of_not h]
  · rw [nrm_of h, nrm_of isN_nanB]

theorem read_nan_of {b : Nat} (h : isN b = true) : ∃ s f, Ieee.double.read b = .nan s f := by
  unfold isN at h
  cases hr : Ieee.double.read b <;> simp [hr, Ieee.Datum.isNaN] at h
  exact ⟨_, _, rfl⟩

theorem sum_none (d e : Ieee.Datum) : d.isNaN = true ∨ e.isNaN = true → d.sum e = none := by
  intro h; cases d <;> cases e <;> simp [Ieee.Datum.isNaN] at h <;> rfl
theorem product_none (d e : Ieee.Datum) : d.isNaN = true ∨ e.isNaN = true → d.product e = none := by
  intro h; cases d <;> cases e <;> simp [Ieee.Datum.isNaN] at h <;> rfl
theorem quotient_none (k : Nat) (d e : Ieee.Datum) : d.isNaN = true ∨ e.isNaN = true → d.quotient k e = none := by
  intro h; cases d <;> cases e <;> simp [Ieee.Datum.isNaN] at h <;> rfl
theorem order_none (d e : Ieee.Datum) : d.isNaN = true ∨ e.isNaN = true → d.order e = none := by
  intro h; cases d <;> cases e <;> simp [Ieee.Datum.isNaN] at h <;> rfl
theorem opposite_isNaN (d : Ieee.Datum) : d.opposite.isNaN = d.isNaN := by cases d <;> rfl

theorem sum_notNaN {d e s : Ieee.Datum} (h : d.sum e = some s) : s.isNaN = false := by
  cases d <;> cases e <;> simp [Ieee.Datum.sum] at h
  · rw [← h]; rfl
  · rw [← h]; rfl
  · rw [← h]; rfl
  · rw [← h.2]; rfl
theorem product_notNaN {d e s : Ieee.Datum} (h : d.product e = some s) : s.isNaN = false := by
  cases d <;> cases e <;> simp [Ieee.Datum.product] at h
  · rw [← h]; rfl
  · rw [← h.2]; rfl
  · rw [← h.2]; rfl
  · rw [← h]; rfl
theorem quotient_notNaN {k : Nat} {d e s : Ieee.Datum} (h : d.quotient k e = some s) : s.isNaN = false := by
  cases d <;> cases e <;> simp [Ieee.Datum.quotient] at h
  · split at h
    · split at h
      · cases h
      · simp at h; rw [← h]; rfl
    · simp at h; rw [← h]; rfl
  · rw [← h]; rfl
  · rw [← h]; rfl

theorem canon_map_notN (o : Option Ieee.Datum) (h : ∀ d, o = some d → d.isNaN = false) : nrm (canon (o.map Ieee.double.write)) = canon (o.map Ieee.double.write) := by
  cases o with
  | none => exact nrm_of isN_nanB
  | some d => exact nrm_of_not (write_notN d (h d rfl))
theorem canon_map_lt (o : Option Ieee.Datum) : canon (o.map Ieee.double.write) < 18446744073709551616 := by
  cases o with
  | none => show nanB < _; decide +kernel
  | some d => exact write_lt64 d

theorem add_def (x y : Nat) : fadd x y = canon (((Ieee.double.read x).sum (Ieee.double.read y)).map Ieee.double.write) := rfl
theorem sub_def (x y : Nat) : fsub x y = canon (((Ieee.double.read x).sum (Ieee.double.read y).opposite).map Ieee.double.write) := rfl
theorem mul_def (x y : Nat) : fmul x y = canon (((Ieee.double.read x).product (Ieee.double.read y)).map Ieee.double.write) := rfl
theorem div_def (x y : Nat) : fdiv x y = canon (((Ieee.double.read x).quotient (Ieee.double.fractionBits + 2) (Ieee.double.read y)).map Ieee.double.write) := rfl

theorem nrm_fadd (x y : Nat) : nrm (fadd x y) = fadd x y := canon_map_notN _ fun _ h => sum_notNaN h
theorem nrm_fsub (x y : Nat) : nrm (fsub x y) = fsub x y := canon_map_notN _ fun _ h => sum_notNaN h
theorem nrm_fmul (x y : Nat) : nrm (fmul x y) = fmul x y := canon_map_notN _ fun _ h => product_notNaN h
theorem nrm_fdiv (x y : Nat) : nrm (fdiv x y) = fdiv x y := canon_map_notN _ fun _ h => quotient_notNaN h

theorem fadd_nrm (x y : Nat) : fadd (nrm x) (nrm y) = fadd x y := by
  simp only [add_def]
  cases hx : isN x
  · rw [nrm_of_not hx]
    cases hy : isN y
    · rw [nrm_of_not hy]
    · rw [nrm_of hy, sum_none _ _ (.inr hy), sum_none _ _ (.inr isN_nanB)]
  · rw [nrm_of hx, sum_none _ _ (.inl hx), sum_none _ _ (.inl isN_nanB)]
theorem fsub_nrm (x y : Nat) : fsub (nrm x) (nrm y) = fsub x y := by
  simp only [sub_def]
  cases hx : isN x
  · rw [nrm_of_not hx]
    cases hy : isN y
    · rw [nrm_of_not hy]
    · rw [nrm_of hy, sum_none _ _ (.inr ((opposite_isNaN _).trans hy)), sum_none _ _ (.inr ((opposite_isNaN _).trans isN_nanB))]
  · rw [nrm_of hx, sum_none _ _ (.inl hx), sum_none _ _ (.inl isN_nanB)]
theorem fmul_nrm (x y : Nat) : fmul (nrm x) (nrm y) = fmul x y := by
  simp only [mul_def]
  cases hx : isN x
  · rw [nrm_of_not hx]
    cases hy : isN y
    · rw [nrm_of_not hy]
    · rw [nrm_of hy, product_none _ _ (.inr hy), product_none _ _ (.inr isN_nanB)]
  · rw [nrm_of hx, product_none _ _ (.inl hx), product_none _ _ (.inl isN_nanB)]
theorem fdiv_nrm (x y : Nat) : fdiv (nrm x) (nrm y) = fdiv x y := by
  simp only [div_def]
  cases hx : isN x
  · rw [nrm_of_not hx]
    cases hy : isN y
    · rw [nrm_of_not hy]
    · rw [nrm_of hy, quotient_none _ _ _ (.inr hy), quotient_none _ _ _ (.inr isN_nanB)]
  · rw [nrm_of hx, quotient_none _ _ _ (.inl hx), quotient_none _ _ _ (.inl isN_nanB)]
theorem order_nrm (x y : Nat) : Ieee.double.order (nrm x) (nrm y) = Ieee.double.order x y := by
  simp only [Ieee.Format.order]
  cases hx : isN x
  · rw [nrm_of_not hx]
    cases hy : isN y
    · rw [nrm_of_not hy]
    · rw [nrm_of hy, order_none _ _ (.inr hy), order_none _ _ (.inr isN_nanB)]
  · rw [nrm_of hx, order_none _ _ (.inl hx), order_none _ _ (.inl isN_nanB)]

/-- What an operation gives in a world: the bits; of no number whatever the tape says. -/
def fres (op : BinOp) (x y : Nat) (w : World) : Nat :=
  match floatBits op .f64 x y with
  | some r => r
  | none => (Question.nanBits .f64 x y).cut (w.tape w.drawn (.nanBits .f64 x y))
def fdr (op : BinOp) (x y : Nat) : Nat :=
  match floatBits op .f64 x y with
  | some _ => 0
  | none => 1

section
variable {P : Program} (w : World) (t : TypeId) (x y : Nat)
theorem run_arith_some {op : BinOp} {x y r : Nat} (hop : op = .add ∨ op = .sub ∨ op = .mul ∨ op = .quo) (h : floatBits op .f64 x y = some r) : (Op.floatArith op .f64 x y).run P w = .ok (.float .f64 r) w := run_floatArith w h
theorem run_arith_none {op : BinOp} {x y : Nat} (hop : op = .add ∨ op = .sub ∨ op = .mul ∨ op = .quo) (h : floatBits op .f64 x y = none) :
    (Op.floatArith op .f64 x y).run P w = .ok (.float .f64 ((Question.nanBits .f64 x y).cut (w.tape w.drawn (.nanBits .f64 x y)))) (w.drewN 1) := by
  rcases hop with rfl | rfl | rfl | rfl <;> simp only [floatBits] at h <;> simp [Op.floatArith, h, choose, Sem.run, Question.forced, World.drewN]
theorem run_arith_any {op : BinOp} (hop : op = .add ∨ op = .sub ∨ op = .mul ∨ op = .quo) : (binOp op t (.float .f64 x) (.float .f64 y)).run P w = .ok (.float .f64 (fres op x y w)) (w.drewN (fdr op x y)) := by
  have hb : binOp op t (.float .f64 x) (.float .f64 y) = Op.floatArith op .f64 x y := by rcases hop with rfl | rfl | rfl | rfl <;> simp [binOp]
  rw [hb]
  unfold fres fdr
  cases h : floatBits op .f64 x y with
  | some r => simp only; rw [run_arith_some w hop h, World.drewN_zero]
  | none => simp only; rw [run_arith_none w hop h]
@[go_sem ↓] theorem run_fadd : (binOp .add t (.float .f64 x) (.float .f64 y)).run P w = .ok (.float .f64 (fres .add x y w)) (w.drewN (fdr .add x y)) := run_arith_any w t x y (by simp)
@[go_sem ↓] theorem run_fsub : (binOp .sub t (.float .f64 x) (.float .f64 y)).run P w = .ok (.float .f64 (fres .sub x y w)) (w.drewN (fdr .sub x y)) := run_arith_any w t x y (by simp)
@[go_sem ↓] theorem run_fmul : (binOp .mul t (.float .f64 x) (.float .f64 y)).run P w = .ok (.float .f64 (fres .mul x y w)) (w.drewN (fdr .mul x y)) := run_arith_any w t x y (by simp)
@[go_sem ↓] theorem run_fquo : (binOp .quo t (.float .f64 x) (.float .f64 y)).run P w = .ok (.float .f64 (fres .quo x y w)) (w.drewN (fdr .quo x y)) := run_arith_any w t x y (by simp)
end

theorem nanBits_cut (x y t : Nat) : isN ((Question.nanBits .f64 x y).cut t) = true ∧ (Question.nanBits .f64 x y).cut t < 18446744073709551616 := by
  rw [isN_iff]
  show 9218868437227405312 < ((t % 2) * 2 ^ 63 + 0x7ff0000000000000 + 1 + (t / 2) % (2 ^ 52 - 1)) % 9223372036854775808 ∧ (t % 2) * 2 ^ 63 + 0x7ff0000000000000 + 1 + (t / 2) % (2 ^ 52 - 1) < 18446744073709551616
  simp only [Nat.reducePow, Nat.reduceSub]
  have h1 : t / 2 % 4503599627370495 < 4503599627370495 := Nat.mod_lt _ (by decide)
  generalize t / 2 % 4503599627370495 = m at *
  rcases Nat.mod_two_eq_zero_or_one t with h | h <;> rw [h] <;> constructor <;> omega

theorem Rep.self {f : Nat} (h : f < 18446744073709551616) (hn : nrm f = f) : Rep f f := ⟨h, hn⟩
theorem Rep.nrm {f r : Nat} (h : Rep r f) : nrm f = f := by rw [← h.eq, nrm_nrm]
theorem Rep.of_isN {r f : Nat} (h : Rep r f) : isN r = isN f := by rw [← h.eq, isN_nrm]
theorem Rep.flt {r f : Nat} (h : Rep r f) : f < 18446744073709551616 := by
  rw [← h.eq]
  unfold Proofs.YtndknkdfbjfjcaaDoor.nrm
  split
  · decide +kernel
  · exact h.lt
theorem Rep.mk' (r : Nat) (h : r < 18446744073709551616) : Rep r (Proofs.YtndknkdfbjfjcaaDoor.nrm r) := ⟨h, rfl⟩
theorem Rep.nan {r : Nat} (h : r < 18446744073709551616) (hn : isN r = true) : Rep r nanB := ⟨h, nrm_of hn⟩
theorem Rep.eq_of {r f : Nat} (h : Rep r f) (hn : isN f = false) : r = f := by
  have := h.of_isN
  rw [hn] at this
  rw [← h.eq, nrm_of_not this]

theorem fres_rep (op : BinOp) (g : Nat → Nat → Option Nat) (hg : ∀ x y, floatBits op .f64 x y = g x y) (hlt : ∀ x y, canon (g x y) < 18446744073709551616) (hn : ∀ x y, Proofs.YtndknkdfbjfjcaaDoor.nrm (canon (g x y)) = canon (g x y)) (x y : Nat) (w : World) :
    Rep (fres op x y w) (canon (g x y)) := by
  unfold fres
  rw [hg]
  cases h : g x y with
  | some r =>
    have := hlt x y; have := hn x y; simp only [h, canon] at *
    exact ⟨by assumption, by assumption⟩
  | none => exact Rep.nan (nanBits_cut _ _ _).2 (nanBits_cut _ _ _).1
theorem Rep.add {x y f g : Nat} (hx : Rep x f) (hy : Rep y g) {w : World} : Rep (fres .add x y w) (fadd f g) := by
  have := fres_rep .add Ieee.double.add (fun _ _ => rfl) (fun x y => canon_map_lt _) nrm_fadd x y w
  rw [show canon (Ieee.double.add x y) = fadd x y from rfl, ← fadd_nrm, hx.eq, hy.eq] at this
  exact this
theorem Rep.sub {x y f g : Nat} (hx : Rep x f) (hy : Rep y g) {w : World} : Rep (fres .sub x y w) (fsub f g) := by
  have := fres_rep .sub Ieee.double.sub (fun _ _ => rfl) (fun x y => canon_map_lt _) nrm_fsub x y w
  rw [show canon (Ieee.double.sub x y) = fsub x y from rfl, ← fsub_nrm, hx.eq, hy.eq] at this
  exact this
theorem Rep.mul {x y f g : Nat} (hx : Rep x f) (hy : Rep y g) {w : World} : Rep (fres .mul x y w) (fmul f g) := by
  have := fres_rep .mul Ieee.double.mul (fun _ _ => rfl) (fun x y => canon_map_lt _) nrm_fmul x y w
  rw [show canon (Ieee.double.mul x y) = fmul x y from rfl, ← fmul_nrm, hx.eq, hy.eq] at this
  exact this
theorem Rep.quo {x y f g : Nat} (hx : Rep x f) (hy : Rep y g) {w : World} : Rep (fres .quo x y w) (fdiv f g) := by
  have := fres_rep .quo Ieee.double.div (fun _ _ => rfl) (fun x y => canon_map_lt _) nrm_fdiv x y w
  rw [show canon (Ieee.double.div x y) = fdiv x y from rfl, ← fdiv_nrm, hx.eq, hy.eq] at this
  exact this
theorem Rep.order {x y f g : Nat} (hx : Rep x f) (hy : Rep y g) : Ieee.double.order x y = Ieee.double.order f g := by
  rw [← order_nrm, hx.eq, hy.eq]
theorem xor_sign_mod (x : Nat) : (x ^^^ 9223372036854775808) % 9223372036854775808 = x % 9223372036854775808 := by
  have h : (x ^^^ 2 ^ 63) % 2 ^ 63 = x % 2 ^ 63 := by rw [Nat.xor_mod_two_pow]; simp
  exact h
theorem isN_xor (x : Nat) : isN (x ^^^ 9223372036854775808) = isN x := by
  rw [Bool.eq_iff_iff, isN_iff, isN_iff, xor_sign_mod]
theorem Rep.neg {x f : Nat} (hx : Rep x f) : Rep (x ^^^ 9223372036854775808) (fneg f) := by
  refine ⟨Nat.xor_lt_two_pow (n := 64) hx.lt (by decide), ?_⟩
  unfold fneg
  rw [← hx.of_isN]
  cases h : isN x
  · rw [nrm_of_not (by rw [isN_xor, h])]
    rw [← hx.eq, nrm_of_not h]; rfl
  · rw [nrm_of (by rw [isN_xor, h])]; rfl
theorem negFloat_eq (b : Nat) : Op.negFloat .f64 b = b ^^^ 9223372036854775808 := by
  unfold Op.negFloat
  rw [show 2 ^ (FloatKind.f64.format.exponentBits + FloatKind.f64.format.fractionBits) = 9223372036854775808 by decide +kernel]
@[go_sem ↓] theorem unary_fneg (b : Nat) : Op.unary .neg (.float .f64 b) = pure (.float .f64 (b ^^^ 9223372036854775808)) := by
  rw [← negFloat_eq]; rfl

/-! bits: the sign's -/
section
variable {P : Program} (w : World) (t : TypeId) (x : Nat)
theorem bits_andNot_sign : bits .andNot .u64 (x : Int) 9223372036854775808 = ((x % 9223372036854775808 : Nat) : Int) := by
  show IntKind.u64.wrap ((BitVec.ofInt 64 (x : Int) &&& ~~~BitVec.ofInt 64 (9223372036854775808 : Int)).toNat : Int) = _
  rw [BitVec.toNat_and, BitVec.toNat_not, BitVec.ofInt_natCast, BitVec.toNat_ofNat, show (BitVec.ofInt 64 9223372036854775808).toNat = 9223372036854775808 from by decide +kernel, IntKind.wrap_u64]
  rw [show 2 ^ 64 - 1 - 9223372036854775808 = 2 ^ 63 - 1 from by decide +kernel, Nat.and_two_pow_sub_one_eq_mod]
  simp only [Nat.reducePow]
  omega
@[go_sem ↓] theorem run_andNot_sign : (binOp .andNot t (.int .u64 (x : Int)) (.int .u64 9223372036854775808)).run P w = .ok (.int .u64 ((x % 9223372036854775808 : Nat) : Int)) w := by
  have h : binOp .andNot t (.int .u64 (x : Int)) (.int .u64 9223372036854775808) = pure (.int .u64 (bits .andNot .u64 (x : Int) 9223372036854775808)) := by simp only [binOp_andNot, intBits_andNot]
  rw [h, bits_andNot_sign]
  rfl
theorem bits_and_sign : bits .and .u64 (x : Int) 9223372036854775808 = ((x / 9223372036854775808 % 2 * 9223372036854775808 : Nat) : Int) := by
  show IntKind.u64.wrap ((BitVec.ofInt 64 (x : Int) &&& BitVec.ofInt 64 (9223372036854775808 : Int)).toNat : Int) = _
  rw [BitVec.toNat_and, BitVec.ofInt_natCast, BitVec.toNat_ofNat, show (BitVec.ofInt 64 9223372036854775808).toNat = 2 ^ 63 from by decide +kernel, IntKind.wrap_u64]
  rw [nat_bit]
  simp only [Nat.reducePow]
  omega
@[go_sem ↓] theorem run_and_sign : (binOp .and t (.int .u64 (x : Int)) (.int .u64 9223372036854775808)).run P w = .ok (.int .u64 ((x / 9223372036854775808 % 2 * 9223372036854775808 : Nat) : Int)) w := by
  have h : binOp .and t (.int .u64 (x : Int)) (.int .u64 9223372036854775808) = pure (.int .u64 (bits .and .u64 (x : Int) 9223372036854775808)) := by simp only [binOp_and, intBits_and]
  rw [h, bits_and_sign]
  rfl
end
/-- a sign's bit. -/
def sgn (x : Nat) : Bool := x / 9223372036854775808 % 2 == 1
def fabs (x : Nat) : Nat := if isN x then nanB else x % 9223372036854775808
theorem sgn_ne (x : Nat) : (((x / 9223372036854775808 % 2 * 9223372036854775808 : Nat) : Int) != 0) = sgn x := by
  unfold sgn
  rcases Nat.mod_two_eq_zero_or_one (x / 9223372036854775808) with h | h <;> rw [h] <;> decide +kernel
theorem Rep.abs {x f : Nat} (hx : Rep x f) : Rep (x % 9223372036854775808) (fabs f) := by
  refine ⟨by omega, ?_⟩
  unfold fabs
  rw [← hx.of_isN]
  cases h : isN x
  · rw [nrm_of_not]
    · rw [← hx.eq, nrm_of_not h]; rfl
    · rw [isN_false_iff] at *; omega
  · rw [nrm_of]
    · rfl
    · rw [isN_iff] at *; omega

/-! what a call hands back -/
def RetF (f : Nat) (w : World) (e : Ending) (w' : World) : Prop := ∃ r n, e = .returned (.float .f64 r) ∧ Rep r f ∧ w' = w.drewN n
def RetB (b : Bool) (w : World) (e : Ending) (w' : World) : Prop := ∃ n, e = .returned (.bool b) ∧ w' = w.drewN n
def RetI (k : IntKind) (i : Int) (w : World) (e : Ending) (w' : World) : Prop := ∃ n, e = .returned (.int k i) ∧ w' = w.drewN n
end Go.Proofs.YtndknkdfbjfjcaaDoor
