/- What a sum loses is a float: the sum and what it lost are both numbers together, exactly. Plain. -/
import Derived.Test.YtcfkhhnkboealaaScv
namespace Go.Proofs.Ytcfkhhnkboealaa
open Go.RowKit
set_option linter.unusedVariables false
set_option linter.unusedSimpArgs false
set_option maxRecDepth 100000
set_option maxHeartbeats 4000000
theorem rne_near {n g : Nat} (hg : 0 < g) : 2 * n ≤ 2 * (rne n g * g) + g ∧ 2 * (rne n g * g) ≤ 2 * n + g ∧ (g ∣ n → rne n g * g = n) := by
  have e := Nat.div_add_mod n g
  have hl := Nat.mod_lt n hg
  rw [Nat.mul_comm] at e
  refine ⟨?_, ?_, ?_⟩
  · unfold rne
    rw [Nat.add_mul]
    split <;> rename_i h <;> simp at h <;> omega
  · unfold rne
    rw [Nat.add_mul]
    split <;> rename_i h <;> simp at h <;> omega
  · rintro ⟨q, rfl⟩
    rw [Nat.mul_comm g q, rne_mul q g hg]
/-- the shape of a rounded number. -/
theorem rnd_shape (m : Nat) (h : rndN m < 9218868437227405312) : ∃ s q : Nat, rndN m = s * 4503599627370496 + q ∧ mval (rndN m) = q * 2 ^ s ∧ q ≤ 9007199254740992 ∧ s ≤ 2045 ∧ (s = 0 → m = q) ∧
    (0 < s → 4503599627370496 ≤ q ∧ 4503599627370496 * 2 ^ s ≤ m ∧ m < 9007199254740992 * 2 ^ s) ∧ 2 * m ≤ 2 * (q * 2 ^ s) + 2 ^ s ∧ 2 * (q * 2 ^ s) ≤ 2 * m + 2 ^ s ∧ (2 ^ s ∣ m → q * 2 ^ s = m) := by
  by_cases h0 : m = 0
  · subst h0
    exact ⟨0, 0, rfl, by decide, by decide, by decide, fun _ => rfl, fun h => absurd h (by decide), by decide, by decide, fun _ => rfl⟩
  have hd : rndN m = min ((m.log2 - 52) * 4503599627370496 + rne m (2 ^ (m.log2 - 52))) 9218868437227405312 := by
    unfold rndN rndQ
    rw [if_neg h0, Nat.zero_add]; rfl
  have a1 := Nat.log2_self_le h0
  have a2 : m < 2 ^ (m.log2 + 1) := Nat.lt_log2_self
  by_cases hs : m.log2 ≤ 52
  · have e : m.log2 - 52 = 0 := by omega
    rw [e, Nat.pow_zero, rne_one, Nat.zero_mul, Nat.zero_add] at hd
    have hm : m < 9007199254740992 := by
      have : (2 : Nat) ^ (m.log2 + 1) ≤ 2 ^ 53 := Nat.pow_le_pow_right (by decide) (by omega)
      rw [show (2 : Nat) ^ 53 = 9007199254740992 by decide] at this
      omega
    have hr : rndN m = m := by omega
    have hx := rnd_exact (m := m) (k := 0) hm (by decide)
    rw [Nat.pow_zero, Nat.mul_one] at hx
    exact ⟨0, m, by omega, by rw [hx.2, Nat.pow_zero, Nat.mul_one], by omega, by decide, fun _ => rfl, fun h => absurd h (by decide), by omega, by omega, fun _ => by rw [Nat.pow_zero, Nat.mul_one]⟩
  · obtain ⟨s, es⟩ : ∃ s, s = m.log2 - 52 := ⟨_, rfl⟩
    rw [← es] at hd
    have el : m.log2 = s + 52 := by omega
    have b1 : 4503599627370496 * 2 ^ s ≤ m := by
      rw [el, Nat.pow_add, show (2 : Nat) ^ 52 = 4503599627370496 by decide] at a1
      omega
    have b2 : m < 9007199254740992 * 2 ^ s := by
      rw [el, show s + 52 + 1 = s + 53 by omega, Nat.pow_add, show (2 : Nat) ^ 53 = 9007199254740992 by decide] at a2
      omega
    have q1 := le_rne_of (Nat.two_pow_pos s) b1
    have q2 := rne_le_of (Nat.two_pow_pos s) (Nat.le_of_lt b2)
    obtain ⟨n1, n2, n3⟩ := rne_near (n := m) (Nat.two_pow_pos s)
    generalize rne m (2 ^ s) = q at *
    have hr : rndN m = s * 4503599627370496 + q := by omega
    have hv : mval (rndN m) = q * 2 ^ s := by
      rw [hr]
      by_cases h53 : q = 9007199254740992
      · subst h53
        rw [show s * 4503599627370496 + 9007199254740992 = (s + 1) * 4503599627370496 + 4503599627370496 by omega, mval_stp (by decide) (by decide), Nat.pow_succ]
        omega
      · exact mval_stp q1 (by omega)
    exact ⟨s, q, hr, hv, q2, by omega, fun h => by omega, fun _ => ⟨q1, b1, b2⟩, n1, n2, n3⟩
/-- figures times a power: a float. -/
theorem rnd_fits {c k : Nat} (hc : c ≤ 9007199254740992) (hk : k + 1 ≤ 2045) : rndN (c * 2 ^ k) < 9218868437227405312 ∧ mval (rndN (c * 2 ^ k)) = c * 2 ^ k := by
  by_cases h : c = 9007199254740992
  · subst h
    have e : 9007199254740992 * 2 ^ k = 4503599627370496 * 2 ^ (k + 1) := by rw [Nat.pow_succ]; omega
    rw [e]
    exact rnd_exact (by decide) hk
  · exact rnd_exact (by omega) (by omega)
/-- a float's figures. -/
theorem mval_form {r : Nat} (h : r < 9218868437227405312) : ∃ m k : Nat, mval r = m * 2 ^ k ∧ m < 9007199254740992 ∧ k ≤ 2045 ∧ (0 < k → 4503599627370496 ≤ m) := by
  unfold mval
  split
  · exact ⟨r, 0, by rw [Nat.pow_zero, Nat.mul_one], by omega, by decide, fun h => absurd h (by decide)⟩
  · exact ⟨_, _, rfl, by omega, by omega, fun _ => by omega⟩
theorem dvd_cast {k : Nat} {z : Int} : ((2 ^ k : Nat) : Int) ∣ z ↔ 2 ^ k ∣ z.natAbs := Int.ofNat_dvd_left
/-- THE LOSS, in numbers: x, y floats' numbers, y not the greater; S their sum, s the rounded one. -/
theorem two_sum {x y : Int} {rx ry : Nat} (hx : rx < 9218868437227405312) (hy : ry < 9218868437227405312) (ex : x.natAbs = mval rx) (ey : y.natAbs = mval ry) (hle : ry ≤ rx)
    (hS : rndN (x + y).natAbs < 9218868437227405312) {s : Int} (hs : s = if x + y < 0 then -(mval (rndN (x + y).natAbs) : Int) else (mval (rndN (x + y).natAbs) : Int)) :
    (rndN (s - x).natAbs < 9218868437227405312 ∧ mval (rndN (s - x).natAbs) = (s - x).natAbs) ∧ (rndN (x + y - s).natAbs < 9218868437227405312 ∧ mval (rndN (x + y - s).natAbs) = (x + y - s).natAbs) ∧
    (x + y - s = 0 ∨ ∃ es q : Nat, 0 < es ∧ rndN (x + y).natAbs = es * 4503599627370496 + q ∧ 4503599627370496 ≤ q ∧ q ≤ 9007199254740992 ∧ 2 * (x + y - s).natAbs ≤ 2 ^ es) := by
  obtain ⟨es, q, hr, hv, hq, hes, h0, h1, n1, n2, n3⟩ := rnd_shape _ hS
  rw [hv] at hs
  have exact0 : (x + y - s = 0) → (rndN (s - x).natAbs < 9218868437227405312 ∧ mval (rndN (s - x).natAbs) = (s - x).natAbs) ∧ (rndN (x + y - s).natAbs < 9218868437227405312 ∧ mval (rndN (x + y - s).natAbs) = (x + y - s).natAbs) := by
    intro h
    have e1 : (s - x).natAbs = mval ry := by rw [← ey]; omega
    rw [e1, rnd_mval hy, h]
    exact ⟨⟨hy, rfl⟩, by decide +kernel⟩
  have exact1 : q * 2 ^ es = (x + y).natAbs → x + y - s = 0 := by
    intro h
    rw [hs, h]
    split <;> omega
  by_cases hes0 : es = 0
  · have hz := exact1 (by rw [hes0, Nat.pow_zero, Nat.mul_one]; exact (h0 hes0).symm)
    exact ⟨(exact0 hz).1, (exact0 hz).2, .inl hz⟩
  obtain ⟨hq1, b1, b2⟩ := h1 (by omega)
  obtain ⟨m, k, em, hm, hk, hk0⟩ := mval_form hx
  obtain ⟨n, j, en, hn, hj, hj0⟩ := mval_form hy
  have hxy : y.natAbs ≤ x.natAbs := by rw [ex, ey]; exact mval_le_iff.2 hle
  rw [em] at ex
  rw [en] at ey
  -- y's power is not above x's
  have hjk : j ≤ k := by
    rcases Nat.lt_or_ge k j with c | c
    · exfalso
      have g1 := hj0 (by omega)
      have g2 : 2 ^ (k + 1) ≤ 2 ^ j := Nat.pow_le_pow_right (by decide) c
      have g3 : 4503599627370496 * 2 ^ j ≤ n * 2 ^ j := Nat.mul_le_mul_right _ g1
      have g4 : m * 2 ^ k < 9007199254740992 * 2 ^ k := Nat.mul_lt_mul_of_pos_right hm (Nat.two_pow_pos k)
      rw [Nat.pow_succ] at g2
      omega
    · exact c
  by_cases hz : x + y - s = 0
  · exact ⟨(exact0 hz).1, (exact0 hz).2, .inl hz⟩
  have hej : j < es := by
    rcases Nat.lt_or_ge j es with c | c
    · exact c
    · exfalso
      refine hz (exact1 (n3 ?_))
      have d1 : ((2 ^ es : Nat) : Int) ∣ x := dvd_cast.2 (by rw [ex]; exact Nat.dvd_trans (Nat.pow_dvd_pow 2 (by omega)) (Nat.dvd_mul_left _ _))
      have d2 : ((2 ^ es : Nat) : Int) ∣ y := dvd_cast.2 (by rw [ey]; exact Nat.dvd_trans (Nat.pow_dvd_pow 2 c) (Nat.dvd_mul_left _ _))
      exact dvd_cast.1 (Int.dvd_add d1 d2)
  have hpj : 2 ^ (j + 1) ≤ 2 ^ es := Nat.pow_le_pow_right (by decide) hej
  rw [Nat.pow_succ] at hpj
  have hy2 : n * 2 ^ j + 2 ^ j ≤ 9007199254740992 * 2 ^ j := by
    have := Nat.mul_le_mul_right (2 ^ j) (show n + 1 ≤ 9007199254740992 by omega)
    rwa [Nat.add_mul, Nat.one_mul] at this
  have hx2 : m * 2 ^ k + 2 ^ k ≤ 9007199254740992 * 2 ^ k := by
    have := Nat.mul_le_mul_right (2 ^ k) (show m + 1 ≤ 9007199254740992 by omega)
    rwa [Nat.add_mul, Nat.one_mul] at this
  have hek : es ≤ k + 1 := by
    rcases Nat.lt_or_ge (k + 1) es with c | c
    · exfalso
      have g2 : 2 ^ (k + 2) ≤ 2 ^ es := Nat.pow_le_pow_right (by decide) c
      rw [show k + 2 = k + 1 + 1 by omega, Nat.pow_succ, Nat.pow_succ] at g2
      omega
    · exact c
  have hlost : 2 * (x + y - s).natAbs ≤ 2 ^ es := by
    rw [hs]
    split <;> omega
  have d1 : ((2 ^ j : Nat) : Int) ∣ x := dvd_cast.2 (by rw [ex]; exact Nat.dvd_trans (Nat.pow_dvd_pow 2 hjk) (Nat.dvd_mul_left _ _))
  have d2 : ((2 ^ j : Nat) : Int) ∣ y := dvd_cast.2 (by rw [ey]; exact Nat.dvd_mul_left _ _)
  have sabs : s.natAbs = q * 2 ^ es := by rw [hs]; split <;> omega
  have d3 : ∀ i, i ≤ es → ((2 ^ i : Nat) : Int) ∣ s := fun i hi => dvd_cast.2 (by rw [sabs]; exact Nat.dvd_trans (Nat.pow_dvd_pow 2 hi) (Nat.dvd_mul_left _ _))
  refine ⟨?_, ?_, .inr ⟨es, q, by omega, hr, hq1, hq, hlost⟩⟩
  · -- s - x
    rcases Nat.lt_or_ge k es with c | c
    · -- es = k + 1
      have e : es = k + 1 := by omega
      have d4 : ((2 ^ k : Nat) : Int) ∣ s - x := Int.dvd_sub (d3 k (by omega)) (dvd_cast.2 (by rw [ex]; exact Nat.dvd_mul_left _ _))
      obtain ⟨t, ht⟩ := dvd_cast.1 d4
      rw [Nat.mul_comm] at ht
      have p : (2 : Nat) ^ es = 2 ^ k * 2 := by rw [e, Nat.pow_succ]
      have hb : t * 2 ^ k ≤ 9007199254740992 * 2 ^ k := by
        rw [← ht]
        omega
      have := Nat.le_of_mul_le_mul_right hb (Nat.two_pow_pos k)
      rw [ht]
      exact rnd_fits this (by omega)
    · have d4 : ((2 ^ es : Nat) : Int) ∣ s - x := Int.dvd_sub (d3 es (Nat.le_refl _)) (dvd_cast.2 (by rw [ex]; exact Nat.dvd_trans (Nat.pow_dvd_pow 2 c) (Nat.dvd_mul_left _ _)))
      obtain ⟨t, ht⟩ := dvd_cast.1 d4
      rw [Nat.mul_comm] at ht
      have hb : t * 2 ^ es ≤ 4503599627370496 * 2 ^ es := by
        rw [← ht]
        omega
      have := Nat.le_of_mul_le_mul_right hb (Nat.two_pow_pos es)
      rw [ht]
      exact rnd_exact (by omega) hes
  · have d4 : ((2 ^ j : Nat) : Int) ∣ x + y - s := Int.dvd_sub (Int.dvd_add d1 d2) (d3 j (by omega))
    -- the loss is not above y
    have hyb : (x + y - s).natAbs ≤ y.natAbs := by
      rcases Nat.lt_or_ge k es with c | c
      · have e : es = k + 1 := by omega
        have p : (2 : Nat) ^ es = 2 ^ k * 2 := by rw [e, Nat.pow_succ]
        omega
      · have d5 : ((2 ^ es : Nat) : Int) ∣ s - x := Int.dvd_sub (d3 es (Nat.le_refl _)) (dvd_cast.2 (by rw [ex]; exact Nat.dvd_trans (Nat.pow_dvd_pow 2 c) (Nat.dvd_mul_left _ _)))
        obtain ⟨t, ht⟩ := dvd_cast.1 d5
        by_cases ht0 : t = 0
        · rw [ht0, Nat.mul_zero] at ht
          omega
        · have : 2 ^ es * 1 ≤ 2 ^ es * t := Nat.mul_le_mul_left _ (by omega)
          omega
    obtain ⟨t, ht⟩ := dvd_cast.1 d4
    rw [Nat.mul_comm] at ht
    have hb : t * 2 ^ j < 9007199254740992 * 2 ^ j := by
      rw [← ht]
      have := Nat.two_pow_pos j
      omega
    have := Nat.lt_of_mul_lt_mul_right hb
    rw [ht]
    exact rnd_exact this hj
end Go.Proofs.Ytcfkhhnkboealaa
