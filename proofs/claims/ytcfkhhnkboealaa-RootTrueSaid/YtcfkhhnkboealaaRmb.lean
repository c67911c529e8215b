/- Roots of floats by their squares. Plain. -/
import Derived.Test.YtcfkhhnkboealaaRma
import Derived.Test.YtcfkhhnkboealaaDiv
namespace Go.Proofs.Ytcfkhhnkboealaa
set_option linter.unusedVariables false
set_option linter.unusedSimpArgs false
set_option maxRecDepth 100000
theorem rootFrom_ok (n : Nat) : ∀ (k r : Nat), r * r ≤ n → n < (r + 2 ^ k) * (r + 2 ^ k) → Ieee.Datum.rootFrom n k r * Ieee.Datum.rootFrom n k r ≤ n ∧ n < (Ieee.Datum.rootFrom n k r + 1) * (Ieee.Datum.rootFrom n k r + 1)
  | 0, r, h1, h2 => by simp only [Ieee.Datum.rootFrom]; exact ⟨h1, by simpa using h2⟩
  | k + 1, r, h1, h2 => by
    simp only [Ieee.Datum.rootFrom]
    rw [Nat.one_shiftLeft]
    split
    · rename_i h
      refine rootFrom_ok n k _ h ?_
      rw [show r + 2 ^ k + 2 ^ k = r + 2 ^ (k + 1) by rw [Nat.pow_succ]; omega]
      exact h2
    · rename_i h
      exact rootFrom_ok n k r h1 (by omega)
theorem wd_f0 (r : Nat) : wd false r = r := by unfold wd; exact if_neg (by decide)
theorem dvd_grid {r G : Nat} (h : (G + 1) * 4503599627370496 ≤ r) : 2 ^ G ∣ mval r := by
  unfold mval
  rw [if_neg (by omega)]
  exact Nat.dvd_trans (Nat.pow_dvd_pow 2 (by omega)) (Nat.dvd_mul_left _ _)
theorem sq_lt {x y : Nat} (h : x * x < y * y) : x < y := by
  rcases Nat.lt_or_ge x y with h2 | h2
  · exact h2
  · exact absurd (Nat.mul_le_mul h2 h2) (by omega)
theorem sq_le {x y : Nat} (h : x ≤ y) : x * x ≤ y * y := Nat.mul_le_mul h h
/-- a root's figures. -/
theorem sqrt_parts {r : Nat} (h0 : 0 < r) (hr : r < 9218868437227405312) : ∃ n w a : Nat, ∃ st : Bool, fsqrt r = rndN ((2 * w + st.toNat) * 2 ^ a) ∧ w * w ≤ n ∧ n < (w + 1) * (w + 1) ∧ (st = false → w * w = n) ∧ mval r * U = n * (4 * (2 ^ a * 2 ^ a)) ∧ 2 ^ 54 ≤ w ∧ w < 2 ^ 55 ∧ a ≤ 1600 := by
  have hrr : rung r = r := by unfold rung; omega
  have hs : sgn r = false := by unfold sgn; simp; omega
  obtain ⟨m, k, er, e2, e3, e4⟩ := read_number (x := r) (by rw [hrr]; exact hr)
  rw [hrr] at e2
  rw [hs] at er
  have hm : m ≠ 0 := by intro e; rw [e, Nat.zero_mul] at e2; have := mval_pos h0; omega
  obtain ⟨more, hmore⟩ : ∃ more : Nat, more = 2 * (52 + 2) - m.log2 + (((-1074 + (k : Int)) - ((2 * (52 + 2) - m.log2 : Nat) : Int)) % 2).toNat := ⟨_, rfl⟩
  have hl : m.log2 ≤ 52 := by
    have := (Nat.log2_lt hm (k := 53)).2 (by omega)
    omega
  have hev : ((-1074 + (k : Int)) - (more : Int)) % 2 = 0 := by omega
  obtain ⟨h, hh⟩ : ∃ h : Int, (-1074 + (k : Int)) - (more : Int) = 2 * h := ⟨((-1074 + (k : Int)) - (more : Int)) / 2, by omega⟩
  have hm1 : more ≤ 109 := by omega
  have hm2 : 56 ≤ more := by omega
  obtain ⟨a, ha⟩ : ∃ a : Nat, (a : Int) = h + 1073 := ⟨(h + 1073).toNat, by omega⟩
  obtain ⟨n, hn⟩ : ∃ n, n = m * 2 ^ more := ⟨_, rfl⟩
  have hn0 : n ≠ 0 := by rw [hn]; exact Nat.mul_ne_zero hm (Nat.ne_of_gt (Nat.two_pow_pos _))
  have hlog : n.log2 = m.log2 + more := by rw [hn]; exact log2_mul m more hm
  have hl1 : 108 ≤ n.log2 := by rw [hlog]; omega
  have hl2 : n.log2 ≤ 109 := by rw [hlog]; omega
  obtain ⟨w, hw⟩ : ∃ w, w = Ieee.Datum.rootFrom n (n.log2 / 2 + 1) 0 := ⟨_, rfl⟩
  have hlt := @Nat.lt_log2_self n
  have hge := Nat.log2_self_le hn0
  have hspec := rootFrom_ok n (n.log2 / 2 + 1) 0 (Nat.zero_le _) (by
    rw [Nat.zero_add, ← Nat.pow_add]
    exact Nat.lt_of_lt_of_le hlt (Nat.pow_le_pow_right (by decide) (by omega)))
  rw [← hw] at hspec
  have hwlo : 2 ^ 54 ≤ w := by
    rcases Nat.lt_or_ge w (2 ^ 54) with h3 | h3
    · have h4 : (w + 1) * (w + 1) ≤ 2 ^ 54 * 2 ^ 54 := sq_le h3
      rw [← Nat.pow_add] at h4
      have h5 : 2 ^ 108 ≤ n := Nat.le_trans (Nat.pow_le_pow_right (by decide) hl1) hge
      omega
    · exact h3
  have hwhi : w < 2 ^ 55 := by
    apply sq_lt
    rw [← Nat.pow_add]
    have h5 : n < 2 ^ 110 := Nat.lt_of_lt_of_le hlt (Nat.pow_le_pow_right (by decide) (by omega))
    omega
  refine ⟨n, w, a, (w * w != n), ?_, hspec.1, hspec.2, ?_, ?_, hwlo, hwhi, by omega⟩
  · rw [sqrt_def, er]
    have e5 : Ieee.double.fractionBits = 52 := rfl
    rw [e5]
    have key : (Ieee.Datum.number false m (-1074 + (k : Int))).root (52 + 2) = some (.number false (2 * w + (w * w != n).toNat) (h - 1)) := by
      simp only [Ieee.Datum.root]
      rw [if_neg hm]
      simp only [Bool.false_eq_true, if_false]
      rw [← hmore, Nat.shiftLeft_eq, ← hn, ← hw, hh]
      congr 3
      omega
    rw [key]
    show canon (some (Ieee.double.nearest false _ (h - 1))) = _
    rw [nearest_any false _ a 0 (h - 1) (by omega), word_eq, wd_f0]
    rfl
  · intro hst
    simpa using hst
  · have e6 : k + e1 = more + (2 * a + 2) := by have := e1_eq; omega
    rw [e2, hn, show U = 2 ^ e1 from by unfold U; rfl, Nat.mul_assoc, Nat.mul_assoc, ← Nat.pow_add, e6, Nat.pow_add, show 2 * a + 2 = a + a + 2 by omega, Nat.pow_add 2 (a + a), Nat.pow_add 2 a a]
    congr 2
    rw [show (2 : Nat) ^ 2 = 4 by decide, Nat.mul_comm]
theorem sqrt_fin {r : Nat} (h0 : 0 < r) (hr : r < 9218868437227405312) : fsqrt r < 9218868437227405312 := by
  obtain ⟨n, w, a, st, e, _, _, _, _, _, hw, ha⟩ := sqrt_parts h0 hr
  rw [e]
  obtain ⟨K, hK⟩ : ∃ K : Nat, K = 1600 := ⟨_, rfl⟩
  have hst : st.toNat ≤ 1 := by cases st <;> decide
  have hm := mval_stp (s := K + 4) (q := 4503599627370496) (by omega) (by omega)
  have hw2 : 2 * w + st.toNat ≤ 72057594037927936 := by
    rw [show (2 : Nat) ^ 55 = 36028797018963968 by decide] at hw; omega
  have h1 : (2 * w + st.toNat) * 2 ^ a ≤ mval ((K + 4) * 4503599627370496 + 4503599627370496) := by
    rw [hm, Nat.pow_add 2 K 4, show (2 : Nat) ^ 4 = 16 by decide, Nat.mul_comm (2 ^ K) 16, ← Nat.mul_assoc, show 4503599627370496 * 16 = 72057594037927936 by decide]
    exact Nat.mul_le_mul hw2 (Nat.pow_le_pow_right (by decide) (by omega))
  exact Nat.lt_of_le_of_lt (rndN_le_of (by omega) h1) (by omega)
/-- the figure's place: far above the last digit of the root. -/
theorem sqrt_place {r : Nat} (h0 : 0 < r) (hr : r < 9218868437227405312) {w a : Nat} {st : Bool} (e : fsqrt r = rndN ((2 * w + st.toNat) * 2 ^ a)) (hw : 2 ^ 54 ≤ w) : (a + 4) * 4503599627370496 ≤ fsqrt r := by
  have hm := mval_stp (s := a + 3) (q := 4503599627370496) (by omega) (by omega)
  have hf := sqrt_fin h0 hr
  rcases Nat.lt_or_ge (fsqrt r) ((a + 4) * 4503599627370496) with h | h
  · exfalso
    have hw2 : 18014398509481984 ≤ w := by rw [show (2 : Nat) ^ 54 = 18014398509481984 by decide] at hw; exact hw
    have h1 : mval ((a + 3) * 4503599627370496 + 4503599627370496) ≤ (2 * w + st.toNat) * 2 ^ a := by
      rw [hm, Nat.pow_add 2 a 3, show (2 : Nat) ^ 3 = 8 by decide, Nat.mul_comm (2 ^ a) 8, ← Nat.mul_assoc]
      exact Nat.mul_le_mul_right _ (by omega)
    have hcinf : (a + 3) * 4503599627370496 + 4503599627370496 < 9218868437227405312 ∨ 9218868437227405312 ≤ (a + 3) * 4503599627370496 + 4503599627370496 := by omega
    rcases hcinf with hc | hc
    · have := le_rndN_of hc h1
      rw [← e] at this
      omega
    · -- beyond all: then the root would be infinite
      have h2 : mval 9218868437227405311 ≤ (2 * w + st.toNat) * 2 ^ a := Nat.le_trans (mval_le_iff.2 (by omega)) h1
      have h3 : rndN (mval 9218868437227405312) ≤ rndN ((2 * w + st.toNat) * 2 ^ a) := rndN_mono (Nat.le_trans (mval_le_iff.2 hc) h1)
      have h4 : rndN (mval 9218868437227405312) = 9218868437227405312 := by decide +kernel
      rw [h4, ← e] at h3
      omega
  · exact h
theorem sq_parts (A t : Nat) : (4 * A) * t * ((4 * A) * t) = t * t * (16 * (A * A)) := by
  rw [Nat.mul_mul_mul_comm (4 * A) t, Nat.mul_mul_mul_comm 4 A 4 A, Nat.mul_comm (t * t)]
theorem place_lo {a s : Nat} (h : (a + 4) * 4503599627370496 ≤ s) : (a + 2 + 1) * 4503599627370496 ≤ s - 1 ∧ (a + 2 + 1) * 4503599627370496 ≤ s := by omega
/-- A ROOT FROM BELOW -/
theorem sqrt_lo {r c : Nat} (h0 : 0 < r) (hr : r < 9218868437227405312) (h1 : 1 ≤ c) (hc : c < 9218868437227405312) (h : (mval (c - 1) + mval c) * (mval (c - 1) + mval c) < 4 * (mval r * U)) : c ≤ fsqrt r := by
  rcases Nat.lt_or_ge (fsqrt r) c with hlt | hge
  · exfalso
    obtain ⟨n, w, a, st, e, w1, w2, w3, hV, hw, _, _⟩ := sqrt_parts h0 hr
    have hpl := sqrt_place h0 hr e hw
    have hf := sqrt_fin h0 hr
    have hb := rnd_below (m := (2 * w + st.toNat) * 2 ^ a) (d := 0) (r := fsqrt r) (by rw [e]; rfl) hf
    rw [Nat.pow_zero, Nat.mul_one] at hb
    have g1 := mval_le_iff.2 (show fsqrt r ≤ c - 1 by omega)
    have g2 := mval_le_iff.2 (show fsqrt r + 1 ≤ c by omega)
    have d1 : 2 ^ (a + 3) ∣ mval (c - 1) := dvd_grid (by omega)
    have d2 : 2 ^ (a + 3) ∣ mval c := dvd_grid (by omega)
    obtain ⟨t, ht⟩ := Nat.dvd_add d1 d2
    rw [Nat.pow_add, show (2 : Nat) ^ 3 = 8 by decide] at ht
    rw [ht, hV] at h
    have hp : 0 < 2 ^ a := Nat.two_pow_pos a
    generalize 2 ^ a = A at *
    -- 8 A t squared below 16 n A A
    have e1 : A * 8 * t * (A * 8 * t) = (2 * t) * (2 * t) * (16 * (A * A)) := by
      rw [show A * 8 * t = (4 * A) * (2 * t) by rw [Nat.mul_mul_mul_comm 4 A 2 t, Nat.mul_comm A 8, Nat.mul_assoc]]
      exact sq_parts A (2 * t)
    have e2 : 4 * (n * (4 * (A * A))) = n * (16 * (A * A)) := by
      rw [Nat.mul_left_comm n 4, ← Nat.mul_assoc 4 4, show 4 * 4 = 16 by decide, Nat.mul_left_comm n 16]
    rw [e1, e2] at h
    have h2 : (2 * t) * (2 * t) < n := Nat.lt_of_mul_lt_mul_right h
    have h3 : 2 * t < w + 1 := sq_lt (by omega)
    have h4 : 2 * ((2 * w + st.toNat) * A) ≤ A * 8 * t := by omega
    have h5 : 2 * (2 * w + st.toNat) ≤ 8 * t := by
      have e3 : 2 * ((2 * w + st.toNat) * A) = 2 * (2 * w + st.toNat) * A := (Nat.mul_assoc _ _ _).symm
      have e4 : A * 8 * t = 8 * t * A := by rw [Nat.mul_assoc, Nat.mul_comm]
      rw [e3, e4] at h4
      exact Nat.le_of_mul_le_mul_right h4 hp
    cases st
    · have h6 := w3 rfl
      have h7 : w = 2 * t := by simp at h5; omega
      rw [← h7, h6] at h2
      omega
    · simp at h5; omega
  · exact hge
/-- A ROOT FROM ABOVE -/
theorem sqrt_hi {r c : Nat} (h0 : 0 < r) (hr : r < 9218868437227405312) (h : 4 * (mval r * U) < (mval c + mval (c + 1)) * (mval c + mval (c + 1))) : fsqrt r ≤ c := by
  rcases Nat.lt_or_ge c (fsqrt r) with hlt | hge
  · exfalso
    obtain ⟨n, w, a, st, e, w1, w2, w3, hV, hw, _, _⟩ := sqrt_parts h0 hr
    have hpl := sqrt_place h0 hr e hw
    have hf := sqrt_fin h0 hr
    have hb := rnd_above (m := (2 * w + st.toNat) * 2 ^ a) (d := 0) (r := fsqrt r) (by rw [e]; rfl) (by omega) hf
    rw [Nat.pow_zero, Nat.mul_one] at hb
    have g1 := mval_le_iff.2 (show c ≤ fsqrt r - 1 by omega)
    have g2 := mval_le_iff.2 (show c + 1 ≤ fsqrt r by omega)
    have d1 : 2 ^ (a + 2) ∣ mval (fsqrt r - 1) := dvd_grid (place_lo hpl).1
    have d2 : 2 ^ (a + 2) ∣ mval (fsqrt r) := dvd_grid (place_lo hpl).2
    obtain ⟨t, ht⟩ := Nat.dvd_add d1 d2
    rw [Nat.pow_add, show (2 : Nat) ^ 2 = 4 by decide] at ht
    have h8 : 4 * (mval r * U) < (mval (fsqrt r - 1) + mval (fsqrt r)) * (mval (fsqrt r - 1) + mval (fsqrt r)) := Nat.lt_of_lt_of_le h (sq_le (by omega))
    rw [ht, hV] at h8
    rw [ht] at hb
    have hp : 0 < 2 ^ a := Nat.two_pow_pos a
    generalize 2 ^ a = A at *
    have e1 : A * 4 * t * (A * 4 * t) = t * t * (16 * (A * A)) := by
      rw [show A * 4 * t = (4 * A) * t by rw [Nat.mul_comm A 4]]
      exact sq_parts A t
    have e2 : 4 * (n * (4 * (A * A))) = n * (16 * (A * A)) := by
      rw [Nat.mul_left_comm n 4, ← Nat.mul_assoc 4 4, show 4 * 4 = 16 by decide, Nat.mul_left_comm n 16]
    rw [e1, e2] at h8
    have h2 : n < t * t := Nat.lt_of_mul_lt_mul_right h8
    have h3 : w < t := sq_lt (by omega)
    have h5 : 4 * t ≤ 2 * (2 * w + st.toNat) := by
      have e3 : 2 * ((2 * w + st.toNat) * A) = 2 * (2 * w + st.toNat) * A := (Nat.mul_assoc _ _ _).symm
      have e4 : A * 4 * t = 4 * t * A := by rw [Nat.mul_assoc, Nat.mul_comm]
      rw [e3, e4] at hb
      exact Nat.le_of_mul_le_mul_right hb hp
    have hst : st.toNat ≤ 1 := by cases st <;> decide
    omega
  · exact hge
end Go.Proofs.Ytcfkhhnkboealaa
