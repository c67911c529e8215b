/- Pairs of fractions: a ring with sizes; the turn by an angle as the exponential's sum over it. No text of the program. The arctangent's sum: the turn back by it brings 1 + u i beside the real line, by small steps. No text of the program. -/
import Derived.Test.YtcfkhhnkboealaaRda
import Derived.Test.YtcfkhhnkboealaaMv
namespace Go.Proofs.Ytcfkhhnkboealaa
set_option linter.unusedVariables false
set_option linter.unusedSimpArgs false
set_option maxRecDepth 100000
set_option maxHeartbeats 4000000
open Turns Sizes
/-- pairs of fractions: numbers with an imaginary part. -/
structure Cq where
  re : Rat
  im : Rat
namespace Cq
@[ext, grind ext] theorem ext' {a b : Cq} (h1 : a.re = b.re) (h2 : a.im = b.im) : a = b := by cases a; cases b; simp at h1 h2; rw [h1, h2]
instance : Zero Cq := ⟨⟨0, 0⟩⟩
instance : One Cq := ⟨⟨1, 0⟩⟩
instance : Add Cq := ⟨fun a b => ⟨a.re + b.re, a.im + b.im⟩⟩
instance : Neg Cq := ⟨fun a => ⟨-a.re, -a.im⟩⟩
instance : Sub Cq := ⟨fun a b => ⟨a.re - b.re, a.im - b.im⟩⟩
instance : Mul Cq := ⟨fun a b => ⟨a.re * b.re - a.im * b.im, a.re * b.im + a.im * b.re⟩⟩
@[grind =] theorem add_re (a b : Cq) : (a + b).re = a.re + b.re := rfl
@[grind =] theorem add_im (a b : Cq) : (a + b).im = a.im + b.im := rfl
@[grind =] theorem sub_re (a b : Cq) : (a - b).re = a.re - b.re := rfl
@[grind =] theorem sub_im (a b : Cq) : (a - b).im = a.im - b.im := rfl
@[grind =] theorem mul_re (a b : Cq) : (a * b).re = a.re * b.re - a.im * b.im := rfl
@[grind =] theorem mul_im (a b : Cq) : (a * b).im = a.re * b.im + a.im * b.re := rfl
@[grind =] theorem neg_re (a : Cq) : (-a).re = -a.re := rfl
@[grind =] theorem neg_im (a : Cq) : (-a).im = -a.im := rfl
@[grind =] theorem zero_re : (0 : Cq).re = 0 := rfl
@[grind =] theorem zero_im : (0 : Cq).im = 0 := rfl
@[grind =] theorem one_re : (1 : Cq).re = 1 := rfl
@[grind =] theorem one_im : (1 : Cq).im = 0 := rfl
theorem eqs {a b : Cq} (h : a.re = b.re ∧ a.im = b.im) : a = b := ext' h.1 h.2
end Cq
theorem cq_split (a b x y : Cq) : (a + b) * (x * y) = a * x * y + x * (b * y) := Cq.eqs (by simp only [Cq.add_re, Cq.add_im, Cq.mul_re, Cq.mul_im]; constructor <;> grind)
theorem cq_cancel {c v A B : Cq} (h : c * v = 1) (k : c * A = c * B) : A = B := by
  have e : ∀ X : Cq, v * (c * X) = X := fun X => by
    have e1 : v * (c * X) = c * v * X := by grind
    rw [e1, h]; grind
  rw [← e A, k, e B]
/-- sums of n terms. -/
def csm (f : Nat → Cq) : Nat → Cq
  | 0 => 0
  | n + 1 => csm f n + f n
/-- whole numbers in a ring, and turned over. -/
def cnc : Nat → Cq
  | 0 => 0
  | n + 1 => cnc n + 1
theorem nc_cq (n : Nat) : cnc n = (⟨(n : Rat), 0⟩ : Cq) := by
  induction n with
  | zero => rfl
  | succ n ih =>
    simp only [cnc]
    rw [ih]
    exact Cq.eqs ⟨(by show (n : Rat) + 1 = ((n + 1 : Nat) : Rat); grind), (by show (0 : Rat) + 0 = 0; grind)⟩
theorem cnc_add (a b : Nat) : (cnc (a + b) : Cq) = cnc a + cnc b := by
  induction b with
  | zero => simp [cnc]; grind
  | succ b ih => rw [show a + (b + 1) = a + b + 1 by omega]; simp only [cnc]; rw [ih]; grind
def civ (n : Nat) : Cq := ⟨1 / (n : Rat), 0⟩
theorem civ_eq (n : Nat) : cnc (n + 1) * civ (n + 1) = 1 := by
  rw [nc_cq]
  have h : (((n + 1 : Nat)) : Rat) ≠ 0 := by have := cast_nn n; grind
  refine Cq.eqs ⟨?_, ?_⟩
  · show (((n + 1 : Nat)) : Rat) * (1 / (((n + 1 : Nat)) : Rat)) - 0 * 0 = 1; grind
  · show (((n + 1 : Nat)) : Rat) * 0 + 0 * (1 / (((n + 1 : Nat)) : Rat)) = 0; grind
/-- a power by its factorial. -/
def cee (x : Cq) : Nat → Cq
  | 0 => 1
  | k + 1 => cee x k * x * civ (k + 1)
/-- the exponential's sum, up to the power n. -/
def cTT (x : Cq) (n : Nat) : Cq := csm (cee x) (n + 1)
theorem csm_congr {f g : Nat → Cq} {n : Nat} (h : ∀ i, i < n → f i = g i) : csm f n = csm g n := by
  induction n with
  | zero => rfl
  | succ n ih => unfold csm; rw [ih (fun i hi => h i (by omega)), h n (by omega)]
theorem csm_add (f g : Nat → Cq) (n : Nat) : csm (fun i => f i + g i) n = csm f n + csm g n := by
  induction n with
  | zero => unfold csm; grind
  | succ n ih => unfold csm; rw [ih]; grind
theorem csm_mul (a : Cq) (f : Nat → Cq) (n : Nat) : csm (fun i => a * f i) n = a * csm f n := by
  induction n with
  | zero => unfold csm; grind
  | succ n ih => unfold csm; rw [ih]; grind
theorem csm_head (f : Nat → Cq) (n : Nat) : csm f (n + 1) = f 0 + csm (fun i => f (i + 1)) n := by
  induction n with
  | zero => simp [csm]; grind
  | succ n ih => rw [show csm f (n + 1 + 1) = csm f (n + 1) + f (n + 1) from rfl, ih]; simp only [csm]; grind
theorem cee_step (x : Cq) (k : Nat) : (cnc (k + 1) : Cq) * cee x (k + 1) = cee x k * x := by
  have h := civ_eq k
  show (cnc (k + 1) : Cq) * (cee x k * x * civ (k + 1)) = _
  grind
/-- THE BINOMIAL LAW. -/
theorem cee_add (x y : Cq) : ∀ k : Nat, csm (fun i => cee x i * cee y (k - i)) (k + 1) = cee (x + y) k
  | 0 => by simp [csm, cee]; grind
  | k + 1 => by
    have ih := cee_add x y k
    -- (k+1) times both sides
    have key : (cnc (k + 1) : Cq) * csm (fun i => cee x i * cee y (k + 1 - i)) (k + 1 + 1) = (x + y) * csm (fun i => cee x i * cee y (k - i)) (k + 1) := by
      -- split (k+1) = i + (k+1-i)
      have e1 : (cnc (k + 1) : Cq) * csm (fun i => cee x i * cee y (k + 1 - i)) (k + 1 + 1) = csm (fun i => (cnc i : Cq) * cee x i * cee y (k + 1 - i)) (k + 1 + 1) + csm (fun i => cee x i * ((cnc (k + 1 - i) : Cq) * cee y (k + 1 - i))) (k + 1 + 1) := by
        rw [← csm_mul, ← csm_add]
        refine csm_congr fun i hi => ?_
        have : k + 1 = i + (k + 1 - i) := by omega
        have e : (cnc (k + 1) : Cq) = (cnc i : Cq) + (cnc (k + 1 - i) : Cq) := by rw [← cnc_add, ← this]
        rw [e]; exact cq_split _ _ _ _
      have e2 : csm (fun i => (cnc i : Cq) * cee x i * cee y (k + 1 - i)) (k + 1 + 1) = x * csm (fun i => cee x i * cee y (k - i)) (k + 1) := by
        rw [csm_head, ← csm_mul]
        have e0 : ((cnc 0 : Cq) * cee x 0 * cee y (k + 1 - 0)) = 0 := by simp only [cnc]; grind
        rw [e0]
        have : csm (fun i => (cnc (i + 1) : Cq) * cee x (i + 1) * cee y (k + 1 - (i + 1))) (k + 1) = csm (fun i => x * (cee x i * cee y (k - i))) (k + 1) := by
          refine csm_congr fun i hi => ?_
          have h := cee_step x i
          rw [show k + 1 - (i + 1) = k - i by omega]
          grind
        rw [this]; grind
      have e3 : csm (fun i => cee x i * ((cnc (k + 1 - i) : Cq) * cee y (k + 1 - i))) (k + 1 + 1) = y * csm (fun i => cee x i * cee y (k - i)) (k + 1) := by
        rw [show csm (fun i => cee x i * ((cnc (k + 1 - i) : Cq) * cee y (k + 1 - i))) (k + 1 + 1) = csm (fun i => cee x i * ((cnc (k + 1 - i) : Cq) * cee y (k + 1 - i))) (k + 1) + cee x (k + 1) * ((cnc (k + 1 - (k + 1)) : Cq) * cee y (k + 1 - (k + 1))) from rfl, ← csm_mul]
        have e0 : cee x (k + 1) * ((cnc (k + 1 - (k + 1)) : Cq) * cee y (k + 1 - (k + 1))) = 0 := by rw [Nat.sub_self]; simp only [cnc]; grind
        rw [e0]
        have : csm (fun i => cee x i * ((cnc (k + 1 - i) : Cq) * cee y (k + 1 - i))) (k + 1) = csm (fun i => y * (cee x i * cee y (k - i))) (k + 1) := by
          refine csm_congr fun i hi => ?_
          have h := cee_step y (k - i)
          rw [show k + 1 - i = k - i + 1 by omega]
          grind
        rw [this]; grind
      rw [e1, e2, e3]; grind
    rw [ih] at key
    have h1 := cee_step (x + y) k
    have h2 := civ_eq k
    have h3 : (cnc (k + 1) : Cq) * csm (fun i => cee x i * cee y (k + 1 - i)) (k + 1 + 1) = (cnc (k + 1) : Cq) * cee (x + y) (k + 1) := by rw [key, h1]; grind
    have h4 : civ (k + 1) * ((cnc (k + 1) : Cq) * csm (fun i => cee x i * cee y (k + 1 - i)) (k + 1 + 1)) = civ (k + 1) * ((cnc (k + 1) : Cq) * cee (x + y) (k + 1)) := by rw [h3]
    generalize csm (fun i => cee x i * cee y (k + 1 - i)) (k + 1 + 1) = A at *
    generalize cee (x + y) (k + 1) = B at *
    generalize (cnc (k + 1) : Cq) = c at *
    exact cq_cancel h2 h3
/-- the exponential's sum of a sum. -/
theorem cTT_add (x y : Cq) (n : Nat) : cTT (x + y) n = csm (fun i => cee x i * cTT y (n - i)) (n + 1) := by
  induction n with
  | zero => simp [cTT, csm, cee]; grind
  | succ n ih =>
    have e1 : cTT (x + y) (n + 1) = cTT (x + y) n + cee (x + y) (n + 1) := rfl
    rw [e1, ih, ← cee_add]
    rw [show csm (fun i => cee x i * cTT y (n + 1 - i)) (n + 1 + 1) = csm (fun i => cee x i * cTT y (n + 1 - i)) (n + 1) + cee x (n + 1) * cTT y (n + 1 - (n + 1)) from rfl]
    rw [show csm (fun i => cee x i * cee y (n + 1 - i)) (n + 1 + 1) = csm (fun i => cee x i * cee y (n + 1 - i)) (n + 1) + cee x (n + 1) * cee y (n + 1 - (n + 1)) from rfl]
    have e2 : csm (fun i => cee x i * cTT y (n + 1 - i)) (n + 1) = csm (fun i => cee x i * cTT y (n - i)) (n + 1) + csm (fun i => cee x i * cee y (n + 1 - i)) (n + 1) := by
      rw [← csm_add]
      refine csm_congr fun i hi => ?_
      rw [show n + 1 - i = n - i + 1 by omega]
      have : cTT y (n - i + 1) = cTT y (n - i) + cee y (n - i + 1) := rfl
      rw [this]; grind
    rw [e2, Nat.sub_self]
    have : cTT y 0 = 1 := by simp [cTT, csm, cee]; grind
    have e3 : cee y 0 = 1 := rfl
    rw [this, e3]; grind
theorem nrm_mul (a b c d : Rat) : ab (a * c - b * d) + ab (a * d + b * c) ≤ (ab a + ab b) * (ab c + ab d) := by
  have h1 := ab_sub (a * c) (b * d)
  have h2 := ab_add (a * d) (b * c)
  rw [ab_mul, ab_mul] at h1 h2
  grind
namespace Cs
def cnr (a : Cq) : Rat := ab a.re + ab a.im
theorem nn (a : Cq) : 0 ≤ cnr a := by have := ab_nn a.re; have := ab_nn a.im; unfold cnr; grind
theorem add (a b : Cq) : cnr (a + b) ≤ cnr a + cnr b := by
  have h1 := ab_add a.re b.re
  have h2 := ab_add a.im b.im
  show ab (a.re + b.re) + ab (a.im + b.im) ≤ ab a.re + ab a.im + (ab b.re + ab b.im)
  grind
theorem mul (a b : Cq) : cnr (a * b) ≤ cnr a * cnr b := nrm_mul _ _ _ _
theorem neg (a : Cq) : cnr (-a) = cnr a := by show ab (-a.re) + ab (-a.im) = _; rw [ab_neg, ab_neg]; rfl
theorem zero : cnr 0 = 0 := by decide +kernel
theorem one : cnr 1 = 1 := by decide +kernel
theorem iv (n : Nat) : cnr (civ (n + 1)) ≤ 1 / ((n + 1 : Nat) : Rat) := by
  show ab (1 / ((n + 1 : Nat) : Rat)) + ab 0 ≤ _
  rw [show ab (0 : Rat) = 0 by decide +kernel, ab_pos (inv_nn n)]
  grind
end Cs
open Cs (cnr)
theorem cnr_ee (x : Cq) : ∀ k, cnr (cee x k) ≤ ee (cnr x) k
  | 0 => by show cnr (1 : Cq) ≤ 1; rw [Cs.one]; exact Rat.le_refl
  | k + 1 => by
    have h1 := cnr_ee x k
    have h2 := Cs.mul (cee x k * x) (civ (k + 1))
    have h3 := Cs.mul (cee x k) x
    have h4 := Cs.iv k
    have h5 : cnr (cee x k) * cnr x ≤ ee (cnr x) k * cnr x := Rat.mul_le_mul_of_nonneg_right h1 (Cs.nn x)
    have h6 := mul_mono (Cs.nn (cee x k * x)) (Rat.le_trans h3 h5) (Cs.nn (civ (k + 1))) h4
    exact Rat.le_trans h2 h6
theorem cnr_sm (f : Nat → Cq) (g : Nat → Rat) (n : Nat) (h : ∀ i, i < n → cnr (f i) ≤ g i) : cnr (csm f n) ≤ sm g n := by
  induction n with
  | zero => show cnr (0 : Cq) ≤ 0; rw [Cs.zero]; exact Rat.le_refl
  | succ n ih =>
    have h1 := ih (fun i hi => h i (by omega))
    have h2 := h n (by omega)
    have h3 := Cs.add (csm f n) (f n)
    show cnr (csm f n + f n) ≤ sm g n + g n
    grind
theorem cnr_TT_sub (y : Cq) (m : Nat) : ∀ k, cnr (cTT y (m + k) - cTT y m) ≤ TT (cnr y) (m + k) - TT (cnr y) m
  | 0 => by
    have e : cTT y (m + 0) - cTT y m = 0 := by rw [Nat.add_zero]; grind
    have e2 : TT (cnr y) (m + 0) - TT (cnr y) m = 0 := by rw [Nat.add_zero]; grind
    rw [e, e2, Cs.zero]; exact Rat.le_refl
  | k + 1 => by
    have h1 := cnr_TT_sub y m k
    have h2 := cnr_ee y (m + k + 1)
    have e : cTT y (m + (k + 1)) - cTT y m = (cTT y (m + k) - cTT y m) + cee y (m + k + 1) := by
      have : cTT y (m + (k + 1)) = cTT y (m + k) + cee y (m + k + 1) := rfl
      rw [this]; grind
    have e2 : TT (cnr y) (m + (k + 1)) = TT (cnr y) (m + k) + ee (cnr y) (m + k + 1) := rfl
    have h3 := Cs.add (cTT y (m + k) - cTT y m) (cee y (m + k + 1))
    rw [e, e2]; grind
theorem cTT_zero (y : Cq) : cTT y 0 = 1 := by simp [cTT, csm, cee]; grind
theorem cnr_TT (y : Cq) (n : Nat) : cnr (cTT y n) ≤ TT (cnr y) n := by
  have h := cnr_TT_sub y 0 n
  rw [Nat.zero_add, cTT_zero, TT_zero] at h
  have h2 := Cs.add (cTT y n - 1) 1
  rw [show cTT y n - 1 + 1 = cTT y n by grind, Cs.one] at h2
  grind
/-- how far the sum of a sum is from the product of sums. -/
theorem cTT_diff (x y : Cq) (n : Nat) : cTT x n * cTT y n - cTT (x + y) n = csm (fun i => cee x i * (cTT y n - cTT y (n - i))) (n + 1) := by
  have h1 := cTT_add x y n
  have h2 : cTT x n * cTT y n = csm (fun i => cee x i * cTT y n) (n + 1) := by
    have : csm (fun i => cee x i * cTT y n) (n + 1) = csm (fun i => cTT y n * cee x i) (n + 1) := csm_congr fun i _ => by grind
    rw [this, csm_mul]
    unfold cTT; grind
  have h3 : csm (fun i => cee x i * cTT y n) (n + 1) = csm (fun i => cee x i * (cTT y n - cTT y (n - i))) (n + 1) + csm (fun i => cee x i * cTT y (n - i)) (n + 1) := by
    rw [← csm_add]; exact csm_congr fun i _ => by grind
  rw [h2, h1, h3]; grind
/-- THE PRODUCT OF TWO SUMS is near to the sum of both. -/
theorem cTT_near (x y : Cq) {a b : Rat} (ha : cnr x ≤ a) (hb : cnr y ≤ b) {n : Nat} (h : 2 * (a + b) ≤ ((n + 2 : Nat) : Rat)) :
    cnr (cTT x n * cTT y n - cTT (x + y) n) ≤ 2 * ee (a + b) (n + 1) := by
  have a0 := Cs.nn x
  have b0 := Cs.nn y
  have h1 : cnr (cTT x n * cTT y n - cTT (x + y) n) ≤ sm (fun i => ee (cnr x) i * (TT (cnr y) n - TT (cnr y) (n - i))) (n + 1) := by
    rw [cTT_diff]
    refine cnr_sm _ _ _ fun i hi => ?_
    have k1 := Cs.mul (cee x i) (cTT y n - cTT y (n - i))
    have k2 := cnr_TT_sub y (n - i) i
    rw [show n - i + i = n by omega] at k2
    exact Rat.le_trans k1 (mul_mono (Cs.nn _) (cnr_ee x i) (Cs.nn _) k2)
  rw [← TT_diff] at h1
  have h2 := TT_prod_le a0 b0 n
  have hs0 : 0 ≤ cnr x + cnr y := by grind
  have hs : cnr x + cnr y ≤ a + b := by grind
  have h3 := tail_le' hs0 (n := n) (by grind) n
  have h4 := ee_mono hs0 hs (n + 1)
  grind
theorem cTT_succ (x : Cq) (n : Nat) : cTT x (n + 1) = cTT x n + cee x (n + 1) := rfl
theorem cee_zero (x : Cq) : cee x 0 = 1 := rfl
namespace Cq
def conj (a : Cq) : Cq := ⟨a.re, -a.im⟩
theorem conj_mul (a b : Cq) : conj (a * b) = conj a * conj b := eqs (by simp only [conj, mul_re, mul_im]; constructor <;> grind)
theorem conj_add (a b : Cq) : conj (a + b) = conj a + conj b := eqs (by simp only [conj, add_re, add_im]; constructor <;> grind)
theorem conj_conj (a : Cq) : conj (conj a) = a := eqs (by simp only [conj]; constructor <;> grind)
end Cq
theorem conj_ee (x : Cq) : ∀ k, Cq.conj (cee x k) = cee (Cq.conj x) k
  | 0 => Cq.eqs ⟨rfl, (by show -(0 : Rat) = 0; grind)⟩
  | k + 1 => by
    have h := conj_ee x k
    have e : Cq.conj (civ (k + 1) : Cq) = civ (k + 1) := Cq.eqs ⟨rfl, (by show -(0 : Rat) = 0; grind)⟩
    show Cq.conj (cee x k * x * civ (k + 1)) = cee (Cq.conj x) k * Cq.conj x * civ (k + 1)
    rw [Cq.conj_mul, Cq.conj_mul, h, e]
theorem conj_sm (f : Nat → Cq) : ∀ n, Cq.conj (csm f n) = csm (fun i => Cq.conj (f i)) n
  | 0 => Cq.eqs ⟨rfl, (by show -(0 : Rat) = 0; grind)⟩
  | n + 1 => by
    show Cq.conj (csm f n + f n) = csm (fun i => Cq.conj (f i)) n + Cq.conj (f n)
    rw [Cq.conj_add, conj_sm f n]
theorem conj_TT (x : Cq) (n : Nat) : Cq.conj (cTT x n) = cTT (Cq.conj x) n := by
  show Cq.conj (csm (cee x) (n + 1)) = csm (cee (Cq.conj x)) (n + 1)
  rw [conj_sm]
  exact csm_congr fun i _ => conj_ee x i
/-- the turn by an angle. -/
def kN : Nat := 200
def ig (y : Rat) : Cq := ⟨0, y⟩
def CS (y : Rat) : Cq := cTT (ig y) kN
theorem nr_ig (y : Rat) : cnr (ig y) = ab y := by
  show ab 0 + ab y = ab y
  rw [show ab (0 : Rat) = 0 by decide +kernel]
  grind
theorem ig_add (x y : Rat) : ig x + ig y = ig (x + y) := Cq.eqs ⟨(by show (0 : Rat) + 0 = 0; grind), rfl⟩
theorem ig_conj (y : Rat) : Cq.conj (ig y) = ig (-y) := rfl
theorem CS_neg (y : Rat) : CS (-y) = Cq.conj (CS y) := by
  unfold CS
  rw [conj_TT, ig_conj]
theorem ee_big : 2 * ee (16 : Rat) 201 ≤ tw 440 := by decide +kernel
theorem CS_add {x y : Rat} (hx : ab x ≤ 8) (hy : ab y ≤ 8) : cnr (CS x * CS y - CS (x + y)) ≤ tw 440 := by
  have h := cTT_near (ig x) (ig y) (a := 8) (b := 8) (by rw [nr_ig]; exact hx) (by rw [nr_ig]; exact hy) (n := 200) (by decide +kernel)
  rw [ig_add, show (8 : Rat) + 8 = 16 by decide +kernel, show 200 + 1 = 201 from rfl] at h
  exact Rat.le_trans h ee_big
theorem CS_zero : CS 0 = 1 := by
  have key : ∀ n, cTT (0 : Cq) n = 1 := by
    intro n
    have z : ∀ k, cee (0 : Cq) (k + 1) = 0 := by
      intro k
      show cee (0 : Cq) k * 0 * civ (k + 1) = 0
      grind
    induction n with
    | zero => rw [cTT_zero]
    | succ n ih => rw [cTT_succ, ih, z]; grind
  exact key kN
theorem CS_small {d : Rat} (h : ab d ≤ 1 / 10) : cnr (CS d - (1 + ig d)) ≤ d * d := by
  have h1 := cnr_TT_sub (ig d) 1 199
  have h2 := tail_le' (ab_nn d) (n := 1) (by have : ((1 + 2 : Nat) : Rat) = 3 := rfl
                                             rw [this]; grind) 199
  rw [nr_ig] at h1
  have e1' : cTT (ig d) 1 = 1 + ig d := by
    show csm (cee (ig d)) 2 = _
    simp only [csm, cee]
    have e : (civ (0 + 1) : Cq) = 1 := Cq.eqs ⟨(by show 1 / ((1 : Nat) : Rat) = 1; decide +kernel), rfl⟩
    rw [e]
    grind
  have e2 : ee (ab d) 2 = ab d * ab d * (1 / 2) := by
    rw [ee_rat, ee_rat, ee_zero]
    have : ((1 + 1 : Nat) : Rat) = 2 := rfl
    have e3 : ((0 + 1 : Nat) : Rat) = 1 := rfl
    rw [this, e3]
    grind
  have dd : d * d = ab d * ab d := by
    rcases (show 0 ≤ d ∨ d < 0 by grind) with q | q
    · rw [ab_pos q]
    · have : ab d = -d := by unfold ab; grind
      rw [this]; grind
  rw [e1'] at h1
  rw [dd]
  have e5 : cTT (ig d) (1 + 199) = CS d := rfl
  rw [e5] at h1
  rw [show 1 + 1 = 2 from rfl, e2] at h2
  exact Rat.le_trans h1 (by grind)
end Go.Proofs.Ytcfkhhnkboealaa
namespace Go.Proofs.Ytcfkhhnkboealaa
set_option linter.unusedVariables false
set_option linter.unusedSimpArgs false
set_option maxRecDepth 100000
set_option maxHeartbeats 4000000
open Turns Sizes
open Cs (cnr)
def sn : Nat → Rat
  | 0 => 1
  | k + 1 => -sn k
theorem sn_ab : ∀ k, ab (sn k) = 1
  | 0 => by simp only [sn]; decide +kernel
  | k + 1 => by
    have := sn_ab k
    show ab (-sn k) = 1
    rw [ab_neg, this]
def BT (x : Rat) : Nat → Rat
  | 0 => 0
  | k + 1 => BT x k + sn k * (pn x (2 * k + 1) / ((2 * k + 1 : Nat) : Rat))
def GA (x : Rat) : Nat → Rat
  | 0 => 0
  | k + 1 => GA x k + sn k * pn x (2 * k)
theorem GA_sum (x : Rat) : ∀ k, GA x k * (1 + x * x) = 1 - sn k * pn x (2 * k)
  | 0 => by simp only [GA, sn, pn]; grind
  | k + 1 => by
    have h := GA_sum x k
    have e : pn x (2 * (k + 1)) = pn x (2 * k) * x * x := rfl
    show (GA x k + sn k * pn x (2 * k)) * (1 + x * x) = 1 - -sn k * pn x (2 * (k + 1))
    rw [e]
    grind
theorem BT_diff {x y : Rat} (h : 0 ≤ x) (k : x ≤ y) : ∀ n, ab (BT y n - BT x n - (y - x) * GA x n) ≤ (y - x) * (GS y n - GS x n)
  | 0 => by
    simp only [BT, GA, GS]
    rw [show (0 : Rat) - 0 - (y - x) * 0 = 0 by grind, show ab (0 : Rat) = 0 by decide +kernel]
    grind
  | n + 1 => by
    have ih := BT_diff h k n
    obtain ⟨c, d⟩ := pn_diff h k (2 * n)
    have hN : (0 : Rat) < ((2 * n + 1 : Nat) : Rat) := by
      have h1 : ((1 : Nat) : Rat) ≤ ((2 * n + 1 : Nat) : Rat) := cast_le.2 (by omega)
      have e : ((1 : Nat) : Rat) = 1 := rfl
      grind
    show ab (BT y n + sn n * (pn y (2 * n + 1) / ((2 * n + 1 : Nat) : Rat)) - (BT x n + sn n * (pn x (2 * n + 1) / ((2 * n + 1 : Nat) : Rat))) - (y - x) * (GA x n + sn n * pn x (2 * n))) ≤ (y - x) * (GS y n + pn y (2 * n) - (GS x n + pn x (2 * n)))
    generalize ((2 * n + 1 : Nat) : Rat) = N at *
    have e : pn y (2 * n + 1) / N - pn x (2 * n + 1) / N = (pn y (2 * n + 1) - pn x (2 * n + 1)) / N := by grind
    have u : (pn y (2 * n + 1) - pn x (2 * n + 1)) / N ≤ (y - x) * pn y (2 * n) := by rw [div_le hN]; grind
    have l : (y - x) * pn x (2 * n) ≤ (pn y (2 * n + 1) - pn x (2 * n + 1)) / N := by rw [le_div hN]; grind
    have t : ab (pn y (2 * n + 1) / N - pn x (2 * n + 1) / N - (y - x) * pn x (2 * n)) ≤ (y - x) * (pn y (2 * n) - pn x (2 * n)) := by
      rw [e, ab_le]
      constructor <;> grind
    have s := sn_ab n
    have t2 : ab (sn n * (pn y (2 * n + 1) / N - pn x (2 * n + 1) / N - (y - x) * pn x (2 * n))) ≤ (y - x) * (pn y (2 * n) - pn x (2 * n)) := by
      rw [ab_mul, s, Rat.one_mul]; exact t
    have a := ab_add (BT y n - BT x n - (y - x) * GA x n) (sn n * (pn y (2 * n + 1) / N - pn x (2 * n + 1) / N - (y - x) * pn x (2 * n)))
    have e2 : BT y n + sn n * (pn y (2 * n + 1) / N) - (BT x n + sn n * (pn x (2 * n + 1) / N)) - (y - x) * (GA x n + sn n * pn x (2 * n)) = BT y n - BT x n - (y - x) * GA x n + sn n * (pn y (2 * n + 1) / N - pn x (2 * n + 1) / N - (y - x) * pn x (2 * n)) := by grind
    rw [e2]
    grind
theorem GS_diff {x y : Rat} (h : 0 ≤ x) (k : x ≤ y) (hy : y ≤ 1 / 2) (n : Nat) : GS y n - GS x n ≤ 2 * (y - x) := by
  have a := GS_sum x n
  have b := GS_sum y n
  have p := pn_mono h k (2 * n)
  have px := pn_nn h (2 * n)
  have g := GS_nn h n
  have x2 := mul_mono h (show x ≤ 1 / 2 by grind) h (show x ≤ 1 / 2 by grind)
  have y2 := mul_mono (show 0 ≤ y by grind) hy (show 0 ≤ y by grind) hy
  have g1 : GS x n ≤ 4 / 3 := by
    have := Rat.mul_le_mul_of_nonneg_left (show 3 / 4 ≤ 1 - x * x by grind) g
    grind
  have e : (GS y n - GS x n) * (1 - y * y) = (1 - pn y (2 * n)) - (1 - pn x (2 * n)) + GS x n * (y * y - x * x) := by
    rw [← a, ← b]; grind
  have m : GS x n * (y * y - x * x) ≤ 4 / 3 * (y - x) := by
    have h1 : y * y - x * x ≤ y - x := by
      have := Rat.mul_le_mul_of_nonneg_left (show x + y ≤ 1 by grind) (show 0 ≤ y - x by grind)
      grind
    have h2 : 0 ≤ y * y - x * x := by
      have := Rat.mul_nonneg (show 0 ≤ y - x by grind) (show 0 ≤ x + y by grind)
      grind
    exact mul_mono g g1 h2 h1
  rcases (show GS y n - GS x n ≤ 2 * (y - x) ∨ 2 * (y - x) < GS y n - GS x n by grind) with q | q
  · exact q
  · exfalso
    have := Rat.mul_le_mul_of_nonneg_right (Rat.le_of_lt q) (show 0 ≤ 1 - y * y by grind)
    have := Rat.mul_le_mul_of_nonneg_left (show 3 / 4 ≤ 1 - y * y by grind) (show 0 ≤ 2 * (y - x) by grind)
    grind
/-- the step's inner part. -/
theorem inner_step {u h d p e : Rat} (hu : 0 ≤ u) (hu1 : u ≤ 1 / 2) (hh : 0 ≤ h) (hh1 : h ≤ 1 / 100) (he : (d - e) * (1 + u * u) = h - h * p) (he1 : ab e ≤ 2 * (h * h)) (hp : ab p ≤ 1) :
    ∃ ρ, 0 ≤ ρ ∧ ρ ≤ h * u ∧ cnr ((⟨1, u + h⟩ : Cq) * (1 + ig (-d)) - ⟨1 + ρ, u * (1 + ρ)⟩) ≤ 8 * (h * h) + 2 * (h * ab p) ∧ ab d ≤ 21 / 10 * h := by
  have u2 := mul_mono hu hu1 hu hu1
  have u0 := Rat.mul_nonneg hu hu
  have hw : 0 < 1 + u * u := by grind
  obtain ⟨ρ, hρ⟩ : ∃ ρ, ρ = h * u / (1 + u * u) := ⟨_, rfl⟩
  have hρ1 : ρ * (1 + u * u) = h * u := by rw [hρ]; exact div_self_mul _ (by grind)
  have hu3 := Rat.mul_nonneg hh hu
  have ρ0 : 0 ≤ ρ := by rw [hρ, le_div hw]; grind
  have ρ1 : ρ ≤ h * u := by
    rw [hρ, div_le hw]
    have := Rat.mul_nonneg hu3 u0
    grind
  have h2 := Rat.mul_nonneg hh hh
  have hp' := ab_le.1 hp
  have he' := ab_le.1 he1
  have hhh : h * h ≤ 1 / 100 * h := Rat.mul_le_mul_of_nonneg_right hh1 hh
  -- q: the rest of d beside h / (1 + u^2)
  obtain ⟨q, hq⟩ : ∃ q, q = d - h / (1 + u * u) := ⟨_, rfl⟩
  have e5 : h / (1 + u * u) * (1 + u * u) = h := div_self_mul _ (by grind)
  have hq1 : (q - e) * (1 + u * u) = -(h * p) := by
    have : q - e = (d - e) - h / (1 + u * u) := by rw [hq]; grind
    rw [this]
    grind
  have pn := ab_nn p
  have hab := Rat.mul_nonneg hh pn
  have qe : ab (q - e) ≤ h * ab p := by
    have m : ab (q - e) * (1 + u * u) = h * ab p := by
      have : ab ((q - e) * (1 + u * u)) = ab (h * p) := by rw [hq1, ab_neg]
      rw [ab_mul, ab_mul, ab_pos (Rat.le_of_lt hw), ab_pos hh] at this
      exact this
    have := Rat.mul_nonneg (ab_nn (q - e)) u0
    grind
  have qb : ab q ≤ 2 * (h * h) + h * ab p := by
    have := ab_add (q - e) e
    rw [show q - e + e = q by grind] at this
    grind
  have hp3 : h * ab p ≤ h := by
    have := Rat.mul_le_mul_of_nonneg_left hp hh
    grind
  have hd1 : 0 ≤ h / (1 + u * u) ∧ h / (1 + u * u) ≤ h := by
    constructor
    · rw [le_div hw]; grind
    · rw [div_le hw]
      have := Rat.mul_nonneg hh u0
      grind
  have db : ab d ≤ 21 / 10 * h := by
    have := ab_add q (h / (1 + u * u))
    rw [show q + h / (1 + u * u) = d by rw [hq]; grind, ab_pos hd1.1] at this
    grind
  refine ⟨ρ, ρ0, ρ1, ?_, db⟩
  have eRe : ((⟨1, u + h⟩ : Cq) * (1 + ig (-d)) - ⟨1 + ρ, u * (1 + ρ)⟩).re = u * q + h * d := by
    show 1 * (1 + 0) - (u + h) * (0 + -d) - (1 + ρ) = u * q + h * d
    have : u * (h / (1 + u * u)) = ρ := by
      have : (u * (h / (1 + u * u)) - ρ) * (1 + u * u) = 0 := by grind
      grind
    rw [hq]
    grind
  have eIm : ((⟨1, u + h⟩ : Cq) * (1 + ig (-d)) - ⟨1 + ρ, u * (1 + ρ)⟩).im = -q := by
    show 1 * (0 + -d) + (u + h) * (1 + 0) - u * (1 + ρ) = -q
    have : h - u * ρ = h / (1 + u * u) := by
      have : (h - u * ρ - h / (1 + u * u)) * (1 + u * u) = 0 := by grind
      grind
    rw [hq]
    grind
  show ab _ + ab _ ≤ _
  rw [eRe, eIm, ab_neg]
  have a1 := ab_add (u * q) (h * d)
  rw [ab_mul u, ab_mul h, ab_pos hu, ab_pos hh] at a1
  have a2 := mul_mono hu hu1 (ab_nn q) qb
  have a3 := Rat.mul_le_mul_of_nonneg_left db hh
  grind
theorem CS_len {y : Rat} (hy : ab y ≤ 8) : ab ((CS y).re * (CS y).re + (CS y).im * (CS y).im - 1) ≤ tw 440 ∧ cnr (CS y) ≤ 21 / 10 := by
  have h := CS_add (x := y) (y := -y) hy (by rw [ab_neg]; exact hy)
  rw [show y + -y = 0 by grind, CS_zero, CS_neg] at h
  have e : ((CS y * Cq.conj (CS y) - 1 : Cq)).re = (CS y).re * (CS y).re + (CS y).im * (CS y).im - 1 := by
    show (CS y).re * (CS y).re - (CS y).im * -(CS y).im - 1 = _
    grind
  have h1 : ab ((CS y * Cq.conj (CS y) - 1 : Cq)).re ≤ tw 440 := by
    have := ab_nn ((CS y * Cq.conj (CS y) - 1 : Cq)).im
    have h' : ab ((CS y * Cq.conj (CS y) - 1 : Cq)).re + ab ((CS y * Cq.conj (CS y) - 1 : Cq)).im ≤ tw 440 := h
    grind
  rw [e] at h1
  refine ⟨h1, ?_⟩
  have t : tw 440 ≤ 1 / 1000 := by decide +kernel
  have h2 := (ab_le.1 h1).2
  have sq : ∀ x : Rat, 0 ≤ x * x ∧ (x * x ≤ 1002 / 1000 → ab x ≤ 102 / 100) := by
    intro x
    have e : x * x = ab x * ab x := by
      rcases (show 0 ≤ x ∨ x < 0 by grind) with q | q
      · rw [ab_pos q]
      · have : ab x = -x := by unfold ab; grind
        rw [this]; grind
    refine ⟨by rw [e]; exact Rat.mul_nonneg (ab_nn x) (ab_nn x), fun h => ?_⟩
    rcases (show ab x ≤ 102 / 100 ∨ 102 / 100 < ab x by grind) with q | q
    · exact q
    · exfalso
      have := mul_mono (by decide +kernel : (0 : Rat) ≤ 102 / 100) (Rat.le_of_lt q) (by decide +kernel : (0 : Rat) ≤ 102 / 100) (Rat.le_of_lt q)
      grind
  have a := sq (CS y).re
  have b := sq (CS y).im
  have a2 := a.2 (by grind)
  have b2 := b.2 (by grind)
  show ab (CS y).re + ab (CS y).im ≤ 21 / 10
  grind
theorem GA_zero : ∀ n, GA 0 n = 0 ∨ GA 0 n = 1
  | 0 => .inl rfl
  | n + 1 => by
    rcases Nat.eq_zero_or_pos n with h | h
    · subst h
      right
      simp only [GA, sn, pn]
      grind
    · have z : pn 0 (2 * n) = 0 := by
        obtain ⟨m, hm⟩ : ∃ m, 2 * n = m + 1 := ⟨2 * n - 1, by omega⟩
        rw [hm]
        show pn 0 m * 0 = 0
        grind
      have e : GA 0 (n + 1) = GA 0 n := by
        show GA 0 n + sn n * pn 0 (2 * n) = GA 0 n
        rw [z]; grind
      rw [e]
      exact GA_zero n
theorem BT_zero : ∀ n, BT 0 n = 0
  | 0 => rfl
  | n + 1 => by
    have ih := BT_zero n
    show BT 0 n + sn n * (pn 0 (2 * n + 1) / ((2 * n + 1 : Nat) : Rat)) = 0
    have z : pn 0 (2 * n + 1) = 0 := by show pn 0 (2 * n) * 0 = 0; grind
    rw [ih, z]
    grind
theorem GS_zero_nn (n : Nat) : 0 ≤ GS 0 n := GS_nn Rat.le_refl n
theorem BT_size {u : Rat} (hu : 0 ≤ u) (hu1 : u ≤ 1 / 2) (n : Nat) : ab (BT u n) ≤ 1 := by
  have a := BT_diff Rat.le_refl hu n
  have g := GS_diff Rat.le_refl hu hu1 n
  rw [BT_zero, show u - 0 = u by grind, show BT u n - 0 = BT u n by grind] at a
  rw [show u - 0 = u by grind] at g
  have m := Rat.mul_le_mul_of_nonneg_left g hu
  have m2 := mul_mono hu hu1 hu hu1
  have t := ab_add (BT u n - u * GA 0 n) (u * GA 0 n)
  rw [show BT u n - u * GA 0 n + u * GA 0 n = BT u n by grind] at t
  have z : ab (u * GA 0 n) ≤ 1 / 2 := by
    rcases GA_zero n with h | h
    · rw [h, show u * 0 = 0 by grind, show ab (0 : Rat) = 0 by decide +kernel]; decide +kernel
    · rw [h, show u * 1 = u by grind, ab_pos hu]; exact hu1
  grind
theorem cq_sq (A S K : Cq) : -(A * A - S) + ((A - K) * A + K * (A - K)) = S - K * K := Cq.eqs (by simp only [Cq.add_re, Cq.add_im, Cq.sub_re, Cq.sub_im, Cq.mul_re, Cq.mul_im, Cq.neg_re, Cq.neg_im]; constructor <;> grind)
theorem cq_back (A K : Cq) : -(A - K) + A = K := Cq.eqs (by simp only [Cq.add_re, Cq.add_im, Cq.sub_re, Cq.sub_im, Cq.mul_re, Cq.mul_im, Cq.neg_re, Cq.neg_im]; constructor <;> grind)
theorem cq_via (A Q Z : Cq) : A - Q + (Q - Z) = A - Z := Cq.eqs (by simp only [Cq.add_re, Cq.add_im, Cq.sub_re, Cq.sub_im, Cq.mul_re, Cq.mul_im, Cq.neg_re, Cq.neg_im]; constructor <;> grind)
theorem cq_turn (A H Z I : Cq) : -(A * H - Z) + A * (H - I) = Z - A * I := Cq.eqs (by simp only [Cq.add_re, Cq.add_im, Cq.sub_re, Cq.sub_im, Cq.mul_re, Cq.mul_im, Cq.neg_re, Cq.neg_im]; constructor <;> grind)
theorem cq_far (T C Y G A q : Cq) : T * C - T * (q * A) = T * ((C - Y) + (-(G * A - Y)) + (G - q) * A) := Cq.eqs (by simp only [Cq.add_re, Cq.add_im, Cq.sub_re, Cq.sub_im, Cq.mul_re, Cq.mul_im, Cq.neg_re, Cq.neg_im]; constructor <;> grind)
theorem cq_four (P F R Z A D X : Cq) : P * F - R * (Z * A) = -(P * (A * D - F)) + P * A * (D - X) + A * (P * X - R * Z) :=
  Cq.eqs (by simp only [Cq.add_re, Cq.add_im, Cq.sub_re, Cq.sub_im, Cq.mul_re, Cq.mul_im, Cq.neg_re, Cq.neg_im]; constructor <;> grind)
def ZZ (u : Rat) (K : Nat) : Cq := ⟨1, u⟩ * CS (-(BT u K))
theorem ZZ_step {u h : Rat} {K : Nat} (hu : 0 ≤ u) (hh : 0 ≤ h) (hm : u + h ≤ 1 / 2) (hh1 : h ≤ 1 / 100) :
    ∃ ρ, 0 ≤ ρ ∧ ρ ≤ h * u ∧ cnr (ZZ (u + h) K - (⟨1 + ρ, 0⟩ : Cq) * ZZ u K) ≤ tw 438 + 32 * (h * h) + 5 * (h * pn u (2 * K)) := by
  obtain ⟨d, hd⟩ : ∃ d, d = BT (u + h) K - BT u K := ⟨_, rfl⟩
  obtain ⟨e, he⟩ : ∃ e, e = d - h * GA u K := ⟨_, rfl⟩
  have b := BT_diff hu (show u ≤ u + h by grind) K
  have g := GS_diff hu (show u ≤ u + h by grind) hm K
  rw [show u + h - u = h by grind] at b g
  have he1 : ab e ≤ 2 * (h * h) := by
    rw [he, hd]
    have := Rat.mul_le_mul_of_nonneg_left g hh
    grind
  have hp0 := pn_nn hu (2 * K)
  have hpab : ab (sn K * pn u (2 * K)) = pn u (2 * K) := by rw [ab_mul, sn_ab, Rat.one_mul, ab_pos hp0]
  have hp1 : pn u (2 * K) ≤ 1 := by
    have := pn_mono hu (show u ≤ 1 by grind) (2 * K)
    have one : ∀ n, pn 1 n = 1 := by
      intro n
      induction n with
      | zero => rfl
      | succ n ih => show pn 1 n * 1 = 1; rw [ih]; grind
    rw [one] at this
    exact this
  have hgs := GA_sum u K
  obtain ⟨ρ, r0, r1, r2, r3⟩ := inner_step (d := d) (e := e) (p := sn K * pn u (2 * K)) hu (by grind) hh hh1 (by rw [he]; grind) he1 (by rw [hpab]; exact hp1)
  rw [hpab] at r2
  refine ⟨ρ, r0, r1, ?_⟩
  have B1 := BT_size hu (show u ≤ 1 / 2 by grind) K
  have len := CS_len (y := -(BT u K)) (by rw [ab_neg]; grind)
  have db : ab d ≤ 1 / 10 := by grind
  have add := CS_add (x := -(BT u K)) (y := -d) (by rw [ab_neg]; grind) (by rw [ab_neg]; grind)
  have small := CS_small (d := -d) (by rw [ab_neg]; exact db)
  have eB : -(BT u K) + -d = -(BT (u + h) K) := by rw [hd]; grind
  rw [eB] at add
  have dd : -d * -d ≤ 441 / 100 * (h * h) := by
    have m := mul_mono (ab_nn d) r3 (ab_nn d) r3
    have : -d * -d = ab d * ab d := by
      rcases (show 0 ≤ d ∨ d < 0 by grind) with q | q
      · rw [ab_pos q]; grind
      · have : ab d = -d := by unfold ab; grind
        rw [this]
    grind
  obtain ⟨P, hP⟩ : ∃ P : Cq, P = ⟨1, u + h⟩ := ⟨_, rfl⟩
  have nP : cnr P ≤ 3 / 2 := by
    rw [hP]
    show ab 1 + ab (u + h) ≤ 3 / 2
    rw [show ab (1 : Rat) = 1 by decide +kernel, ab_pos (show 0 ≤ u + h by grind)]
    grind
  rw [← hP] at r2
  obtain ⟨A, hA⟩ : ∃ A : Cq, A = CS (-(BT u K)) := ⟨_, rfl⟩
  obtain ⟨D, hD⟩ : ∃ D : Cq, D = CS (-d) := ⟨_, rfl⟩
  obtain ⟨F, hF⟩ : ∃ F : Cq, F = CS (-(BT (u + h) K)) := ⟨_, rfl⟩
  have eq : ZZ (u + h) K - (⟨1 + ρ, 0⟩ : Cq) * ZZ u K = -(P * (A * D - F)) + P * A * (D - (1 + ig (-d))) + A * (P * (1 + ig (-d)) - ⟨1 + ρ, u * (1 + ρ)⟩) := by
    have e1 : (⟨1 + ρ, u * (1 + ρ)⟩ : Cq) = ⟨1 + ρ, 0⟩ * ⟨1, u⟩ := Cq.eqs ⟨(by show 1 + ρ = (1 + ρ) * 1 - 0 * u; grind), (by show u * (1 + ρ) = (1 + ρ) * u + 0 * 1; grind)⟩
    unfold ZZ
    rw [← hP, ← hF, ← hA, e1]
    exact cq_four _ _ _ _ _ _ _
  rw [eq]
  rw [← hA, ← hD, ← hF] at add
  rw [← hD] at small
  rw [← hA] at len
  have s1 := Cs.add (-(P * (A * D - F)) + P * A * (D - (1 + ig (-d)))) (A * (P * (1 + ig (-d)) - ⟨1 + ρ, u * (1 + ρ)⟩))
  have s2 := Cs.add (-(P * (A * D - F))) (P * A * (D - (1 + ig (-d))))
  have s3 := Cs.neg (P * (A * D - F))
  have s4 := Cs.mul P (A * D - F)
  have s5 := Cs.mul (P * A) (D - (1 + ig (-d)))
  have s6 := Cs.mul P A
  have s7 := Cs.mul A (P * (1 + ig (-d)) - ⟨1 + ρ, u * (1 + ρ)⟩)
  have t4 := mul_mono (Cs.nn P) nP (Cs.nn _) add
  have t6 := mul_mono (Cs.nn P) nP (Cs.nn A) len.2
  have t5 := mul_mono (Cs.nn (P * A)) (Rat.le_trans s6 t6) (Cs.nn _) (Rat.le_trans small dd)
  have t7 := mul_mono (Cs.nn A) len.2 (Cs.nn _) r2
  have tt : 3 / 2 * tw 440 ≤ tw 438 := by decide +kernel
  have h2 := Rat.mul_nonneg hh hh
  have h3 := Rat.mul_nonneg hh hp0
  rw [s3] at s2
  generalize cnr (-(P * (A * D - F)) + P * A * (D - (1 + ig (-d))) + A * (P * (1 + ig (-d)) - ⟨1 + ρ, u * (1 + ρ)⟩)) = N1 at *
  generalize cnr (-(P * (A * D - F)) + P * A * (D - (1 + ig (-d)))) = N2 at *
  generalize cnr (A * (P * (1 + ig (-d)) - ⟨1 + ρ, u * (1 + ρ)⟩)) = N3 at *
  generalize cnr (P * (A * D - F)) = N4 at *
  generalize cnr (P * A * (D - (1 + ig (-d)))) = N5 at *
  clear add small len r2 eq s3 s6
  grind
theorem ZZ_walk {u h ε : Rat} {K : Nat} (hu : 0 ≤ u) (hu1 : u ≤ 1 / 2) (hh : 0 ≤ h) (hh1 : h ≤ 1 / 100) (hε : tw 438 + 32 * (h * h) + 5 * (h * pn u (2 * K)) ≤ ε) (hε0 : 0 ≤ ε) : ∀ j : Nat, (j : Rat) * h ≤ u → (j : Rat) * ε ≤ 1 →
    1 - (j : Rat) * ε ≤ (ZZ ((j : Rat) * h) K).re ∧ ab (ZZ ((j : Rat) * h) K).im ≤ 2 * ((j : Rat) * ε)
  | 0, _, _ => by
    have e : ((0 : Nat) : Rat) = 0 := rfl
    rw [e, Rat.zero_mul, Rat.zero_mul]
    have z : ZZ 0 K = 1 := by
      unfold ZZ
      rw [BT_zero, show -(0 : Rat) = 0 by decide +kernel, CS_zero]
      exact Cq.eqs ⟨(by show (1 : Rat) * 1 - 0 * 0 = 1; grind), (by show (1 : Rat) * 0 + 0 * 1 = 0; grind)⟩
    rw [z]
    show (1 : Rat) - 0 ≤ 1 ∧ ab 0 ≤ 2 * 0
    rw [show ab (0 : Rat) = 0 by decide +kernel]
    constructor <;> grind
  | j + 1, k1, k2 => by
    have ec := cast_succ j
    have hj := cast_nn j
    obtain ⟨x, hx⟩ : ∃ x, x = (j : Rat) * h := ⟨_, rfl⟩
    have e1 : ((j + 1 : Nat) : Rat) * h = x + h := by rw [ec, hx]; grind
    have e2 : ((j + 1 : Nat) : Rat) * ε = (j : Rat) * ε + ε := by rw [ec]; grind
    rw [e1] at k1
    rw [e2] at k2
    rw [e1, e2]
    have x0 : 0 ≤ x := by rw [hx]; exact Rat.mul_nonneg hj hh
    obtain ⟨a, b⟩ := ZZ_walk hu hu1 hh hh1 hε hε0 j (by rw [← hx]; grind) (by grind)
    rw [← hx] at a b
    obtain ⟨ρ, r0, r1, r2⟩ := ZZ_step (K := K) x0 hh (by grind) hh1
    have hp := pn_mono x0 (show x ≤ u by grind) (2 * K)
    have hp2 := Rat.mul_le_mul_of_nonneg_left hp hh
    have r3 : cnr (ZZ (x + h) K - (⟨1 + ρ, 0⟩ : Cq) * ZZ x K) ≤ ε := by grind
    have r4 : ab ((ZZ (x + h) K).re - (1 + ρ) * (ZZ x K).re) + ab ((ZZ (x + h) K).im - (1 + ρ) * (ZZ x K).im) ≤ ε := by
      have eR : (ZZ (x + h) K - (⟨1 + ρ, 0⟩ : Cq) * ZZ x K).re = (ZZ (x + h) K).re - (1 + ρ) * (ZZ x K).re := by
        show (ZZ (x + h) K).re - ((1 + ρ) * (ZZ x K).re - 0 * (ZZ x K).im) = _
        grind
      have eI : (ZZ (x + h) K - (⟨1 + ρ, 0⟩ : Cq) * ZZ x K).im = (ZZ (x + h) K).im - (1 + ρ) * (ZZ x K).im := by
        show (ZZ (x + h) K).im - ((1 + ρ) * (ZZ x K).im + 0 * (ZZ x K).re) = _
        grind
      rw [← eR, ← eI]
      exact r3
    have jε : 0 ≤ (j : Rat) * ε := Rat.mul_nonneg hj hε0
    -- h x times the error so far is under half of a step
    have small : ρ * (2 * ((j : Rat) * ε)) ≤ 1 / 2 * ε := by
      have s1 := Rat.mul_le_mul_of_nonneg_right r1 (show 0 ≤ 2 * ((j : Rat) * ε) by grind)
      have s2 : h * x * (2 * ((j : Rat) * ε)) = 2 * (x * x) * ε := by rw [hx]; grind
      have s3 := mul_mono x0 (show x ≤ 1 / 2 by grind) x0 (show x ≤ 1 / 2 by grind)
      have s4 := Rat.mul_le_mul_of_nonneg_right (show 2 * (x * x) ≤ 1 / 2 by grind) hε0
      grind
    generalize (j : Rat) * ε = J at *
    generalize (ZZ (x + h) K).re = R' at *
    generalize (ZZ (x + h) K).im = I' at *
    generalize (ZZ x K).re = R at *
    generalize (ZZ x K).im = I at *
    have n1 := ab_nn (R' - (1 + ρ) * R)
    have n2 := ab_nn (I' - (1 + ρ) * I)
    have R0 : 0 ≤ R := by grind
    have ρR := Rat.mul_nonneg r0 R0
    constructor
    · have := (ab_le.1 (show ab (R' - (1 + ρ) * R) ≤ ε by grind)).1
      grind
    · have t := ab_add (I' - (1 + ρ) * I) ((1 + ρ) * I)
      rw [show I' - (1 + ρ) * I + (1 + ρ) * I = I' by grind] at t
      have m : ab ((1 + ρ) * I) = (1 + ρ) * ab I := by rw [ab_mul, ab_pos (show 0 ≤ 1 + ρ by grind)]
      have m2 := Rat.mul_le_mul_of_nonneg_left b r0
      grind
/-- THE TURN BACK by the arctangent's sum. -/
theorem ZZ_all {u : Rat} (hu : 0 ≤ u) (hu1 : u ≤ 1 / 2) (K : Nat) (hK : pn u (2 * K) ≤ 1 / 100) :
    1 - (tw 94 + 5 * (u * pn u (2 * K))) ≤ (ZZ u K).re ∧ ab (ZZ u K).im ≤ 2 * (tw 94 + 5 * (u * pn u (2 * K))) := by
  obtain ⟨N, hN⟩ : ∃ N : Nat, N = 2 ^ 100 := ⟨_, rfl⟩
  have hNt : (N : Rat) * tw 100 = 1 := by rw [hN]; decide +kernel
  obtain ⟨h, hh⟩ : ∃ h, h = u * tw 100 := ⟨_, rfl⟩
  have t := tw_pos 100
  have h0 : 0 ≤ h := by rw [hh]; exact Rat.mul_nonneg hu (Rat.le_of_lt t)
  have h1 : h ≤ tw 101 := by
    have := Rat.mul_le_mul_of_nonneg_right hu1 (Rat.le_of_lt t)
    have e : tw 101 = 1 / 2 * tw 100 := by decide +kernel
    grind
  have h2 : h ≤ 1 / 100 := Rat.le_trans h1 (by decide +kernel)
  have hNh : (N : Rat) * h = u := by rw [hh]; grind
  have pu := pn_nn hu (2 * K)
  have hp := Rat.mul_nonneg h0 pu
  have hh0 := Rat.mul_nonneg h0 h0
  obtain ⟨ε, hε⟩ : ∃ ε, ε = tw 438 + 32 * (h * h) + 5 * (h * pn u (2 * K)) := ⟨_, rfl⟩
  have t438 := tw_pos 438
  have k1 : (N : Rat) * tw 438 ≤ 1 / 2 * tw 94 := by rw [hN]; decide +kernel
  have k2 : 32 * (u * h) ≤ 1 / 2 * tw 94 := by
    have m := mul_mono hu hu1 h0 h1
    have e : 32 * (1 / 2 * tw 101) ≤ 1 / 2 * tw 94 := by decide +kernel
    grind
  have k3 : (N : Rat) * ε ≤ tw 94 + 5 * (u * pn u (2 * K)) := by
    have : (N : Rat) * ε = (N : Rat) * tw 438 + 32 * ((N : Rat) * h * h) + 5 * ((N : Rat) * h * pn u (2 * K)) := by rw [hε]; grind
    rw [this, hNh]
    grind
  have up := mul_mono hu hu1 pu hK
  have t94 : tw 94 ≤ 1 / 1000 := by decide +kernel
  obtain ⟨a, b⟩ := ZZ_walk (K := K) hu hu1 h0 h2 (ε := ε) (by rw [hε]; exact Rat.le_refl) (by rw [hε]; grind) N (by rw [hNh]; exact Rat.le_refl) (by grind)
  rw [hNh] at a b
  constructor <;> grind
end Go.Proofs.Ytcfkhhnkboealaa
