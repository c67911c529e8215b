/- The nearest float to a whole number by a power of two: plain. -/
import Derived.Test.YtndknkdfbjfjcaaDoorBigU
import Derived.Test.YtndknkdfbjfjcaaDoorScv
namespace Go.Proofs.YtndknkdfbjfjcaaDoor
open Go.RowKit
set_option linter.unusedVariables false
set_option linter.unusedSimpArgs false
set_option maxRecDepth 100000
/-- the rounded figures, and their unit. -/
def nrN (a d : Nat) : Nat := if nrA a d / nrD a d < 9007199254740992 then rne (nrA a d) (nrD a d) else rne (nrA a d) (2 * nrD a d)
def nrV (a d : Nat) : Int := if nrA a d / nrD a d < 9007199254740992 then nrU a d else nrU a d + 1
theorem bl_pow (j : Nat) : bl (2 ^ j) = j + 1 := by
  unfold bl
  rw [if_neg (Nat.ne_of_gt (Nat.two_pow_pos j)), Nat.log2_two_pow]
theorem nrN_le {a d : Nat} (ha : a ≠ 0) (hd : d ≠ 0) : nrN a d ≤ 9007199254740992 := by
  have hD : 0 < nrD a d := Nat.mul_pos (Nat.pos_of_ne_zero hd) (Nat.two_pow_pos _)
  have h54 := nr_lt ha hd
  unfold nrN
  split
  · rename_i h
    apply rne_le_of hD
    rw [Nat.div_lt_iff_lt_mul hD] at h
    omega
  · apply rne_le_of (by omega)
    rw [Nat.div_lt_iff_lt_mul hD, show (2 : Nat) ^ 54 = 9007199254740992 * 2 by decide, Nat.mul_assoc] at h54
    omega
/-- a figure of 53 bits at its place. -/
theorem rnd_place {n k : Nat} (h1 : n ≤ 9007199254740992) (h2 : k = 0 ∨ 4503599627370496 ≤ n) : rndE n (k : Int) = min (k * 4503599627370496 + n) 9218868437227405312 := by
  by_cases h0 : n = 0
  · subst h0
    rw [rndE_zero]
    have : k = 0 := by omega
    subst this; decide
  · by_cases h53 : n = 9007199254740992
    · subst h53
      have hl : (9007199254740992 : Nat).log2 = 53 := (Nat.log2_eq_iff (by omega)).2 ⟨by decide, by decide⟩
      rw [rndE_form (m := 9007199254740992) (L := k + 1) (p := k) (q := k + 1) (by omega) (by rw [hl]; omega) (by omega)]
      rw [show 9007199254740992 * 2 ^ k = 4503599627370496 * 2 ^ (k + 1) by rw [Nat.pow_succ]; omega, rne_mul _ _ (Nat.two_pow_pos _), show (k + 1) * 4503599627370496 + 4503599627370496 = k * 4503599627370496 + 9007199254740992 by omega]
    · have hl : n.log2 ≤ 52 := by
        have := (Nat.log2_lt h0 (k := 53)).2 (by omega)
        omega
      have hl2 : k = 0 ∨ n.log2 = 52 := by
        rcases h2 with h2 | h2
        · exact .inl h2
        · exact .inr (log2_52 h2 (by omega))
      rw [rndE_form (m := n) (L := k) (p := k) (q := k) h0 (by omega) (by omega), rne_mul _ _ (Nat.two_pow_pos _)]
/-- THE NEAREST FLOAT of a by a power of two. -/
theorem near_pow {a j : Nat} (ha : a ≠ 0) : ∃ k : Nat, nrV a (2 ^ j) + 1074 = (k : Int) ∧ rndE (nrN a (2 ^ j)) (k : Int) = rndE a (1074 - (j : Int)) := by
  have hd : (2 : Nat) ^ j ≠ 0 := Nat.ne_of_gt (Nat.two_pow_pos j)
  have hD : 0 < nrD a (2 ^ j) := Nat.mul_pos (Nat.pos_of_ne_zero hd) (Nat.two_pow_pos _)
  have h54 := nr_lt ha hd
  have hle := nrN_le ha hd
  have l1 := Nat.log2_self_le ha
  have l2 := @Nat.lt_log2_self a
  obtain ⟨l, hl⟩ : ∃ l, a.log2 = l := ⟨_, rfl⟩
  rw [hl] at l1 l2
  have hU : nrU a (2 ^ j) = max ((l : Int) - (j : Int) - 53) (-1074) := by
    unfold nrU; rw [bl_pow]; unfold bl; rw [if_neg ha, hl]; omega
  obtain ⟨u, hu⟩ : ∃ u, nrU a (2 ^ j) = u := ⟨_, rfl⟩
  rw [hu] at hU
  have hA : nrA a (2 ^ j) = a * 2 ^ (-u).toNat := by unfold nrA; rw [hu]
  have hDD : nrD a (2 ^ j) = 2 ^ (j + u.toNat) := by unfold nrD; rw [hu, ← Nat.pow_add]
  obtain ⟨P, hP⟩ : ∃ P, P = (-u).toNat := ⟨_, rfl⟩
  obtain ⟨Q, hQ⟩ : ∃ Q, Q = j + u.toNat := ⟨_, rfl⟩
  have hA1 : 2 ^ (l + P) ≤ a * 2 ^ P := by rw [Nat.pow_add]; exact Nat.mul_le_mul_right _ l1
  have hA2 : a * 2 ^ P < 2 ^ (l + 1 + P) := by rw [Nat.pow_add]; exact Nat.mul_lt_mul_of_pos_right l2 (Nat.two_pow_pos _)
  unfold nrN at hle ⊢
  unfold nrV
  rw [hA, hDD, ← hP, ← hQ] at hle ⊢
  rw [hu]
  by_cases h : a * 2 ^ P / 2 ^ Q < 9007199254740992
  · rw [if_pos h] at hle
    rw [if_pos h, if_pos h]
    have hlow : l + P < 53 + Q := by
      rw [Nat.div_lt_iff_lt_mul (Nat.two_pow_pos _), show (9007199254740992 : Nat) = 2 ^ 53 by decide, ← Nat.pow_add] at h
      exact (Nat.pow_lt_pow_iff_right (by decide)).1 (Nat.lt_of_le_of_lt hA1 h)
    have hu2 : u = -1074 := by omega
    refine ⟨0, by omega, ?_⟩
    rw [rnd_place hle (.inl rfl)]
    rw [rndE_form (m := a) (t := 1074 - (j : Int)) (L := 0) (p := P) (q := Q) ha (by rw [hl]; omega) (by omega)]
  · rw [if_neg h] at hle
    rw [if_neg h, if_neg h]
    have hhigh : 53 + Q < l + 1 + P := by
      have h' : 9007199254740992 ≤ a * 2 ^ P / 2 ^ Q := by omega
      rw [Nat.le_div_iff_mul_le (Nat.two_pow_pos _), show (9007199254740992 : Nat) = 2 ^ 53 by decide, ← Nat.pow_add] at h'
      exact (Nat.pow_lt_pow_iff_right (by decide)).1 (Nat.lt_of_le_of_lt h' hA2)
    have hge : 4503599627370496 ≤ rne (a * 2 ^ P) (2 * 2 ^ Q) := by
      apply le_rne_of (by have := Nat.two_pow_pos Q; omega)
      have h' : 9007199254740992 ≤ a * 2 ^ P / 2 ^ Q := by omega
      rw [Nat.le_div_iff_mul_le (Nat.two_pow_pos _)] at h'
      omega
    obtain ⟨k, hk⟩ : ∃ k : Nat, u + 1 + 1074 = (k : Int) := ⟨(u + 1 + 1074).toNat, by omega⟩
    refine ⟨k, hk, ?_⟩
    rw [rnd_place hle (.inr hge)]
    rw [show 2 * 2 ^ Q = 2 ^ (Q + 1) by rw [Nat.pow_succ]; omega]
    rw [rndE_form (m := a) (t := 1074 - (j : Int)) (L := k) (p := P) (q := Q + 1) ha (by rw [hl]; omega) (by omega)]
theorem wd_false' (r : Nat) : wd false r = r := by unfold wd; exact if_neg (by decide)
theorem U_pow : U = 2 ^ e1 := by unfold U; rfl
/-- the float of figures, times their unit. -/
theorem scale_ofInt {n : Nat} (h1 : n ≤ 9007199254740992) (v : Int) : scaleF (ofInt n) v = rndE n (v + 1074) := by
  have he : (e1 : Int) = 1074 := by rw [e1_eq]; rfl
  have he2 : e1 = 1074 := e1_eq
  have hr : ofInt (n : Int) = rndN (n * 2 ^ e1) := by
    rw [ofInt_eq, show decide ((n : Int) < 0) = false from decide_eq_false (by omega)]
    rw [wd_false', show (n : Int).natAbs = n by omega, U_pow]
  rw [← he, ← rndE_shift]
  generalize hE : e1 = E at *
  by_cases h0 : n = 0
  · subst h0
    rw [Nat.zero_mul, rndE_zero, hr, Nat.zero_mul]
    have hz : rndN 0 = 0 := by unfold rndN rndQ; exact if_pos rfl
    rw [hz]
    exact scale_nought (f := 0) (by decide +kernel) (by decide +kernel) v
  · have key : rndN (n * 2 ^ E) < 9218868437227405312 ∧ mval (rndN (n * 2 ^ E)) = n * 2 ^ E := by
      by_cases h53 : n = 9007199254740992
      · have e : n * 2 ^ E = 1 * 2 ^ (53 + E) := by rw [h53, Nat.pow_add, Nat.one_mul]
        rw [e]
        exact rnd_exact (by decide) (by omega)
      · exact rnd_exact (by omega) (by omega)
    obtain ⟨h2, h3⟩ := key
    have hm : n * 2 ^ E ≠ 0 := Nat.mul_ne_zero h0 (Nat.ne_of_gt (Nat.two_pow_pos _))
    rw [hr]
    generalize rndN (n * 2 ^ E) = r at h2 h3
    have hrr : rung r = r := by unfold rung; omega
    have hs : sgn r = false := by unfold sgn; simp; omega
    rw [scale_val (by omega) (by unfold fin; rw [hrr]; simpa using h2) (by rw [hrr]; intro hz; rw [hz, mval_zero] at h3; exact hm h3.symm) v, hrr, hs, h3, wd_false']
end Go.Proofs.YtndknkdfbjfjcaaDoor
