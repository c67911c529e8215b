/- What a sum loses is a float: the sum and what it lost are both numbers together, exactly. Plain. What a sum loses, of floats. Plain. Parts times their power are the float; a float times a power of two is that, exactly, unless too great or too small. Plain. -/
import Derived.Test.YtcfkhhnkboealaaRmz
namespace Go.Proofs.Ytcfkhhnkboealaa
open Go.RowKit
set_option linter.unusedVariables false
set_option linter.unusedSimpArgs false
set_option maxRecDepth 100000
set_option maxHeartbeats 4000000
theorem rne_near {n g : Nat} (hg : 0 < g) : 2 * n ≤ 2 * (rne n g * g) + g ∧ 2 * (rne n g * g) ≤ 2 * n + g ∧ (g ∣ n → rne n g * g = n) := by
  have e := Nat.div_add_mod n g
  have hl := Nat.mod_lt n hg
  rw [Nat.mul_comm] at e
  refine ⟨?_, ?_, ?_⟩
  · unfold rne
    rw [Nat.add_mul]
    split <;> rename_i h <;> simp at h <;> omega
  · unfold rne
    rw [Nat.add_mul]
    split <;> rename_i h <;> simp at h <;> omega
  · rintro ⟨q, rfl⟩
    rw [Nat.mul_comm g q, rne_mul q g hg]
/-- the shape of a rounded number. -/
theorem rnd_shape (m : Nat) (h : rndN m < 9218868437227405312) : ∃ s q : Nat, rndN m = s * 4503599627370496 + q ∧ mval (rndN m) = q * 2 ^ s ∧ q ≤ 9007199254740992 ∧ s ≤ 2045 ∧ (s = 0 → m = q) ∧
    (0 < s → 4503599627370496 ≤ q ∧ 4503599627370496 * 2 ^ s ≤ m ∧ m < 9007199254740992 * 2 ^ s) ∧ 2 * m ≤ 2 * (q * 2 ^ s) + 2 ^ s ∧ 2 * (q * 2 ^ s) ≤ 2 * m + 2 ^ s ∧ (2 ^ s ∣ m → q * 2 ^ s = m) := by
  by_cases h0 : m = 0
  · subst h0
    exact ⟨0, 0, rfl, by decide, by decide, by decide, fun _ => rfl, fun h => absurd h (by decide), by decide, by decide, fun _ => rfl⟩
  have hd : rndN m = min ((m.log2 - 52) * 4503599627370496 + rne m (2 ^ (m.log2 - 52))) 9218868437227405312 := by
    unfold rndN rndQ
    rw [if_neg h0, Nat.zero_add]; rfl
  have a1 := Nat.log2_self_le h0
  have a2 : m < 2 ^ (m.log2 + 1) := Nat.lt_log2_self
  by_cases hs : m.log2 ≤ 52
  · have e : m.log2 - 52 = 0 := by omega
    rw [e, Nat.pow_zero, rne_one, Nat.zero_mul, Nat.zero_add] at hd
    have hm : m < 9007199254740992 := by
      have : (2 : Nat) ^ (m.log2 + 1) ≤ 2 ^ 53 := Nat.pow_le_pow_right (by decide) (by omega)
      rw [show (2 : Nat) ^ 53 = 9007199254740992 by decide] at this
      omega
    have hr : rndN m = m := by omega
    have hx := rnd_exact (m := m) (k := 0) hm (by decide)
    rw [Nat.pow_zero, Nat.mul_one] at hx
    exact ⟨0, m, by omega, by rw [hx.2, Nat.pow_zero, Nat.mul_one], by omega, by decide, fun _ => rfl, fun h => absurd h (by decide), by omega, by omega, fun _ => by rw [Nat.pow_zero, Nat.mul_one]⟩
  · obtain ⟨s, es⟩ : ∃ s, s = m.log2 - 52 := ⟨_, rfl⟩
    rw [← es] at hd
    have el : m.log2 = s + 52 := by omega
    have b1 : 4503599627370496 * 2 ^ s ≤ m := by
      rw [el, Nat.pow_add, show (2 : Nat) ^ 52 = 4503599627370496 by decide] at a1
      omega
    have b2 : m < 9007199254740992 * 2 ^ s := by
      rw [el, show s + 52 + 1 = s + 53 by omega, Nat.pow_add, show (2 : Nat) ^ 53 = 9007199254740992 by decide] at a2
      omega
    have q1 := le_rne_of (Nat.two_pow_pos s) b1
    have q2 := rne_le_of (Nat.two_pow_pos s) (Nat.le_of_lt b2)
    obtain ⟨n1, n2, n3⟩ := rne_near (n := m) (Nat.two_pow_pos s)
    generalize rne m (2 ^ s) = q at *
    have hr : rndN m = s * 4503599627370496 + q := by omega
    have hv : mval (rndN m) = q * 2 ^ s := by
      rw [hr]
      by_cases h53 : q = 9007199254740992
      · subst h53
        rw [show s * 4503599627370496 + 9007199254740992 = (s + 1) * 4503599627370496 + 4503599627370496 by omega, mval_stp (by decide) (by decide), Nat.pow_succ]
        omega
      · exact mval_stp q1 (by omega)
    exact ⟨s, q, hr, hv, q2, by omega, fun h => by omega, fun _ => ⟨q1, b1, b2⟩, n1, n2, n3⟩
/-- figures times a power: a float. -/
theorem rnd_fits {c k : Nat} (hc : c ≤ 9007199254740992) (hk : k + 1 ≤ 2045) : rndN (c * 2 ^ k) < 9218868437227405312 ∧ mval (rndN (c * 2 ^ k)) = c * 2 ^ k := by
  by_cases h : c = 9007199254740992
  · subst h
    have e : 9007199254740992 * 2 ^ k = 4503599627370496 * 2 ^ (k + 1) := by rw [Nat.pow_succ]; omega
    rw [e]
    exact rnd_exact (by decide) hk
  · exact rnd_exact (by omega) (by omega)
/-- a float's figures. -/
theorem mval_form {r : Nat} (h : r < 9218868437227405312) : ∃ m k : Nat, mval r = m * 2 ^ k ∧ m < 9007199254740992 ∧ k ≤ 2045 ∧ (0 < k → 4503599627370496 ≤ m) := by
  unfold mval
  split
  · exact ⟨r, 0, by rw [Nat.pow_zero, Nat.mul_one], by omega, by decide, fun h => absurd h (by decide)⟩
  · exact ⟨_, _, rfl, by omega, by omega, fun _ => by omega⟩
theorem dvd_cast {k : Nat} {z : Int} : ((2 ^ k : Nat) : Int) ∣ z ↔ 2 ^ k ∣ z.natAbs := Int.ofNat_dvd_left
/-- THE LOSS, in numbers: x, y floats' numbers, y not the greater; S their sum, s the rounded one. -/
theorem two_sum {x y : Int} {rx ry : Nat} (hx : rx < 9218868437227405312) (hy : ry < 9218868437227405312) (ex : x.natAbs = mval rx) (ey : y.natAbs = mval ry) (hle : ry ≤ rx)
    (hS : rndN (x + y).natAbs < 9218868437227405312) {s : Int} (hs : s = if x + y < 0 then -(mval (rndN (x + y).natAbs) : Int) else (mval (rndN (x + y).natAbs) : Int)) :
    (rndN (s - x).natAbs < 9218868437227405312 ∧ mval (rndN (s - x).natAbs) = (s - x).natAbs) ∧ (rndN (x + y - s).natAbs < 9218868437227405312 ∧ mval (rndN (x + y - s).natAbs) = (x + y - s).natAbs) ∧
    (x + y - s = 0 ∨ ∃ es q : Nat, 0 < es ∧ rndN (x + y).natAbs = es * 4503599627370496 + q ∧ 4503599627370496 ≤ q ∧ q ≤ 9007199254740992 ∧ 2 * (x + y - s).natAbs ≤ 2 ^ es) := by
  obtain ⟨es, q, hr, hv, hq, hes, h0, h1, n1, n2, n3⟩ := rnd_shape _ hS
  rw [hv] at hs
  have exact0 : (x + y - s = 0) → (rndN (s - x).natAbs < 9218868437227405312 ∧ mval (rndN (s - x).natAbs) = (s - x).natAbs) ∧ (rndN (x + y - s).natAbs < 9218868437227405312 ∧ mval (rndN (x + y - s).natAbs) = (x + y - s).natAbs) := by
    intro h
    have e1 : (s - x).natAbs = mval ry := by rw [← ey]; omega
    rw [e1, rnd_mval hy, h]
    exact ⟨⟨hy, rfl⟩, by decide +kernel⟩
  have exact1 : q * 2 ^ es = (x + y).natAbs → x + y - s = 0 := by
    intro h
    rw [hs, h]
    split <;> omega
  by_cases hes0 : es = 0
  · have hz := exact1 (by rw [hes0, Nat.pow_zero, Nat.mul_one]; exact (h0 hes0).symm)
    exact ⟨(exact0 hz).1, (exact0 hz).2, .inl hz⟩
  obtain ⟨hq1, b1, b2⟩ := h1 (by omega)
  obtain ⟨m, k, em, hm, hk, hk0⟩ := mval_form hx
  obtain ⟨n, j, en, hn, hj, hj0⟩ := mval_form hy
  have hxy : y.natAbs ≤ x.natAbs := by rw [ex, ey]; exact mval_le_iff.2 hle
  rw [em] at ex
  rw [en] at ey
  -- y's power is not above x's
  have hjk : j ≤ k := by
    rcases Nat.lt_or_ge k j with c | c
    · exfalso
      have g1 := hj0 (by omega)
      have g2 : 2 ^ (k + 1) ≤ 2 ^ j := Nat.pow_le_pow_right (by decide) c
      have g3 : 4503599627370496 * 2 ^ j ≤ n * 2 ^ j := Nat.mul_le_mul_right _ g1
      have g4 : m * 2 ^ k < 9007199254740992 * 2 ^ k := Nat.mul_lt_mul_of_pos_right hm (Nat.two_pow_pos k)
      rw [Nat.pow_succ] at g2
      omega
    · exact c
  by_cases hz : x + y - s = 0
  · exact ⟨(exact0 hz).1, (exact0 hz).2, .inl hz⟩
  have hej : j < es := by
    rcases Nat.lt_or_ge j es with c | c
    · exact c
    · exfalso
      refine hz (exact1 (n3 ?_))
      have d1 : ((2 ^ es : Nat) : Int) ∣ x := dvd_cast.2 (by rw [ex]; exact Nat.dvd_trans (Nat.pow_dvd_pow 2 (by omega)) (Nat.dvd_mul_left _ _))
      have d2 : ((2 ^ es : Nat) : Int) ∣ y := dvd_cast.2 (by rw [ey]; exact Nat.dvd_trans (Nat.pow_dvd_pow 2 c) (Nat.dvd_mul_left _ _))
      exact dvd_cast.1 (Int.dvd_add d1 d2)
  have hpj : 2 ^ (j + 1) ≤ 2 ^ es := Nat.pow_le_pow_right (by decide) hej
  rw [Nat.pow_succ] at hpj
  have hy2 : n * 2 ^ j + 2 ^ j ≤ 9007199254740992 * 2 ^ j := by
    have := Nat.mul_le_mul_right (2 ^ j) (show n + 1 ≤ 9007199254740992 by omega)
    rwa [Nat.add_mul, Nat.one_mul] at this
  have hx2 : m * 2 ^ k + 2 ^ k ≤ 9007199254740992 * 2 ^ k := by
    have := Nat.mul_le_mul_right (2 ^ k) (show m + 1 ≤ 9007199254740992 by omega)
    rwa [Nat.add_mul, Nat.one_mul] at this
  have hek : es ≤ k + 1 := by
    rcases Nat.lt_or_ge (k + 1) es with c | c
    · exfalso
      have g2 : 2 ^ (k + 2) ≤ 2 ^ es := Nat.pow_le_pow_right (by decide) c
      rw [show k + 2 = k + 1 + 1 by omega, Nat.pow_succ, Nat.pow_succ] at g2
      omega
    · exact c
  have hlost : 2 * (x + y - s).natAbs ≤ 2 ^ es := by
    rw [hs]
    split <;> omega
  have d1 : ((2 ^ j : Nat) : Int) ∣ x := dvd_cast.2 (by rw [ex]; exact Nat.dvd_trans (Nat.pow_dvd_pow 2 hjk) (Nat.dvd_mul_left _ _))
  have d2 : ((2 ^ j : Nat) : Int) ∣ y := dvd_cast.2 (by rw [ey]; exact Nat.dvd_mul_left _ _)
  have sabs : s.natAbs = q * 2 ^ es := by rw [hs]; split <;> omega
  have d3 : ∀ i, i ≤ es → ((2 ^ i : Nat) : Int) ∣ s := fun i hi => dvd_cast.2 (by rw [sabs]; exact Nat.dvd_trans (Nat.pow_dvd_pow 2 hi) (Nat.dvd_mul_left _ _))
  refine ⟨?_, ?_, .inr ⟨es, q, by omega, hr, hq1, hq, hlost⟩⟩
  · -- s - x
    rcases Nat.lt_or_ge k es with c | c
    · -- es = k + 1
      have e : es = k + 1 := by omega
      have d4 : ((2 ^ k : Nat) : Int) ∣ s - x := Int.dvd_sub (d3 k (by omega)) (dvd_cast.2 (by rw [ex]; exact Nat.dvd_mul_left _ _))
      obtain ⟨t, ht⟩ := dvd_cast.1 d4
      rw [Nat.mul_comm] at ht
      have p : (2 : Nat) ^ es = 2 ^ k * 2 := by rw [e, Nat.pow_succ]
      have hb : t * 2 ^ k ≤ 9007199254740992 * 2 ^ k := by
        rw [← ht]
        omega
      have := Nat.le_of_mul_le_mul_right hb (Nat.two_pow_pos k)
      rw [ht]
      exact rnd_fits this (by omega)
    · have d4 : ((2 ^ es : Nat) : Int) ∣ s - x := Int.dvd_sub (d3 es (Nat.le_refl _)) (dvd_cast.2 (by rw [ex]; exact Nat.dvd_trans (Nat.pow_dvd_pow 2 c) (Nat.dvd_mul_left _ _)))
      obtain ⟨t, ht⟩ := dvd_cast.1 d4
      rw [Nat.mul_comm] at ht
      have hb : t * 2 ^ es ≤ 4503599627370496 * 2 ^ es := by
        rw [← ht]
        omega
      have := Nat.le_of_mul_le_mul_right hb (Nat.two_pow_pos es)
      rw [ht]
      exact rnd_exact (by omega) hes
  · have d4 : ((2 ^ j : Nat) : Int) ∣ x + y - s := Int.dvd_sub (Int.dvd_add d1 d2) (d3 j (by omega))
    -- the loss is not above y
    have hyb : (x + y - s).natAbs ≤ y.natAbs := by
      rcases Nat.lt_or_ge k es with c | c
      · have e : es = k + 1 := by omega
        have p : (2 : Nat) ^ es = 2 ^ k * 2 := by rw [e, Nat.pow_succ]
        omega
      · have d5 : ((2 ^ es : Nat) : Int) ∣ s - x := Int.dvd_sub (d3 es (Nat.le_refl _)) (dvd_cast.2 (by rw [ex]; exact Nat.dvd_trans (Nat.pow_dvd_pow 2 c) (Nat.dvd_mul_left _ _)))
        obtain ⟨t, ht⟩ := dvd_cast.1 d5
        by_cases ht0 : t = 0
        · rw [ht0, Nat.mul_zero] at ht
          omega
        · have : 2 ^ es * 1 ≤ 2 ^ es * t := Nat.mul_le_mul_left _ (by omega)
          omega
    obtain ⟨t, ht⟩ := dvd_cast.1 d4
    rw [Nat.mul_comm] at ht
    have hb : t * 2 ^ j < 9007199254740992 * 2 ^ j := by
      rw [← ht]
      have := Nat.two_pow_pos j
      omega
    have := Nat.lt_of_mul_lt_mul_right hb
    rw [ht]
    exact rnd_exact this hj
end Go.Proofs.Ytcfkhhnkboealaa
namespace Go.Proofs.Ytcfkhhnkboealaa
open Go.RowKit
set_option linter.unusedVariables false
set_option linter.unusedSimpArgs false
set_option maxRecDepth 100000
set_option maxHeartbeats 4000000
theorem fadd_exact {f g : Nat} (hf : fin f = true) (hg : fin g = true) (h : rndN (sval f + sval g).natAbs < 9218868437227405312 ∧ mval (rndN (sval f + sval g).natAbs) = (sval f + sval g).natAbs) :
    fin (fadd f g) = true ∧ sval (fadd f g) = sval f + sval g := by
  rw [fadd_fin hf hg]
  refine ⟨by unfold fin; rw [wd_rung (rndN_le _)]; simpa using h.1, ?_⟩
  rw [wd_sval (rndN_le _), h.2]
  by_cases h0 : sval f + sval g = 0
  · rw [h0]; simp
  · rw [if_neg h0]
    by_cases h1 : sval f + sval g < 0
    · rw [decide_eq_true h1, if_pos rfl]; omega
    · rw [decide_eq_false h1, if_neg (by decide)]; omega
theorem fsub_exact {f g : Nat} (hf : fin f = true) (hg : fin g = true) (hl : g < 18446744073709551616) (h : rndN (sval f - sval g).natAbs < 9218868437227405312 ∧ mval (rndN (sval f - sval g).natAbs) = (sval f - sval g).natAbs) :
    fin (fsub f g) = true ∧ sval (fsub f g) = sval f - sval g := by
  rw [fsub_fin hf hg hl]
  refine ⟨by unfold fin; rw [wd_rung (rndN_le _)]; simpa using h.1, ?_⟩
  rw [wd_sval (rndN_le _), h.2]
  by_cases h0 : sval f - sval g = 0
  · rw [h0]; simp
  · rw [if_neg h0]
    by_cases h1 : sval f - sval g < 0
    · rw [decide_eq_true h1, if_pos rfl]; omega
    · rw [decide_eq_false h1, if_neg (by decide)]; omega
theorem sval_nat (f : Nat) : (sval f).natAbs = mval (rung f) := by unfold sval; split <;> omega
theorem sval_sum {f g : Nat} (hf : fin f = true) (hg : fin g = true) : sval (fadd f g) = if sval f + sval g < 0 then -(mval (rndN (sval f + sval g).natAbs) : Int) else (mval (rndN (sval f + sval g).natAbs) : Int) := by
  rw [fadd_fin hf hg, wd_sval (rndN_le _)]
  by_cases h0 : sval f + sval g = 0
  · rw [h0, if_neg (by decide : ¬ (0 : Int) < 0)]
    have : mval (rndN (0 : Int).natAbs) = 0 := by decide +kernel
    rw [this]; simp
  · rw [if_neg h0]
    by_cases h1 : sval f + sval g < 0
    · rw [decide_eq_true h1, if_pos rfl, if_pos h1]
    · rw [decide_eq_false h1, if_neg (by decide), if_neg h1]
/-- half the loss's law: the smaller one second. -/
theorem lost_half {f g : Nat} (hf : fin f = true) (hg : fin g = true) (hlf : f < 18446744073709551616) (hs : fin (fadd f g) = true) (hle : rung g ≤ rung f) :
    (let l := fadd (fsub g (fsub (fadd f g) f)) 0; fin l = true ∧ sval l = sval f + sval g - sval (fadd f g) ∧ l = (if sval f + sval g - sval (fadd f g) = 0 then 0 else wd (decide (sval f + sval g - sval (fadd f g) < 0)) (rndN (sval f + sval g - sval (fadd f g)).natAbs))) ∧
    (sval f + sval g - sval (fadd f g) = 0 ∨ ∃ es q : Nat, 0 < es ∧ rung (fadd f g) = es * 4503599627370496 + q ∧ 4503599627370496 ≤ q ∧ q ≤ 9007199254740992 ∧ 2 * (sval f + sval g - sval (fadd f g)).natAbs ≤ 2 ^ es) := by
  have hr : rung (fadd f g) = rndN (sval f + sval g).natAbs := by rw [fadd_fin hf hg, wd_rung (rndN_le _)]
  have hS := fin_rung hs
  rw [hr] at hS
  obtain ⟨a, b, c⟩ := two_sum (x := sval f) (y := sval g) (fin_rung hf) (fin_rung hg) (sval_nat f) (sval_nat g) hle hS (sval_sum hf hg)
  obtain ⟨t1, t2⟩ := fsub_exact (f := fadd f g) (g := f) hs hf hlf a
  have e : sval g - sval (fsub (fadd f g) f) = sval f + sval g - sval (fadd f g) := by rw [t2]; omega
  obtain ⟨u1, u2⟩ := fsub_exact (f := g) (g := fsub (fadd f g) f) hg t1 (fsub_lt _ _) (by rw [e]; exact b)
  rw [e] at u2
  have z : sval (0 : Nat) = 0 := by decide +kernel
  have e2 : sval (fsub g (fsub (fadd f g) f)) + sval 0 = sval f + sval g - sval (fadd f g) := by rw [u2, z]; omega
  have f0 : fin 0 = true := by decide +kernel
  obtain ⟨v1, v2⟩ := fadd_exact (f := fsub g (fsub (fadd f g) f)) (g := 0) u1 f0 (by rw [e2]; exact b)
  refine ⟨⟨v1, by rw [v2, e2], ?_⟩, by rw [hr]; exact c⟩
  rw [fadd_fin u1 f0, e2]
  by_cases h : sval f + sval g - sval (fadd f g) = 0
  · rw [if_pos h, if_pos h, h]
    have s0 : sgn 0 = false := by decide +kernel
    rw [s0, Bool.and_false]; decide +kernel
  · rw [if_neg h, if_neg h]
theorem fabs_lt {f g : Nat} (hf : fin f = true) (hg : fin g = true) : flt (fabs f) (fabs g) = decide (rung f < rung g) := by
  have a := fin_notN hf
  have b := fin_notN hg
  rw [flt_eq, isN_abs, isN_abs, a, b, sval_abs a, sval_abs b]
  simp only [Bool.not_false, Bool.true_and]
  rw [decide_eq_decide]
  rw [← mval_lt_iff (r := rung f)]
  omega
/-- THE LOSS: what is lost, exactly, and how little. -/
theorem lost_val {f g : Nat} (hlf : f < 18446744073709551616) (hlg : g < 18446744073709551616) (hs : fin (fadd f g) = true) :
    fin (lostF f g) = true ∧ sval (lostF f g) = sval f + sval g - sval (fadd f g) ∧ lostF f g = (if sval f + sval g - sval (fadd f g) = 0 then 0 else wd (decide (sval f + sval g - sval (fadd f g) < 0)) (rndN (sval f + sval g - sval (fadd f g)).natAbs)) ∧
    (sval f + sval g - sval (fadd f g) = 0 ∨ ∃ es q : Nat, 0 < es ∧ rung (fadd f g) = es * 4503599627370496 + q ∧ 4503599627370496 ≤ q ∧ q ≤ 9007199254740992 ∧ 2 * (sval f + sval g - sval (fadd f g)).natAbs ≤ 2 ^ es) := by
  obtain ⟨hf, hg⟩ := fadd_notN_finite hs
  unfold lostF
  rw [hs, Bool.not_true, if_neg (by decide), fabs_lt hf hg]
  by_cases h : rung f < rung g
  · rw [decide_eq_true h, if_pos rfl]
    have hc : fadd f g = fadd g f := by rw [fadd_fin hf hg, fadd_fin hg hf, Int.add_comm, Bool.and_comm]
    have hc2 : sval f + sval g = sval g + sval f := Int.add_comm _ _
    rw [hc, hc2]
    have := lost_half hg hf hlg (by rw [← hc]; exact hs) (Nat.le_of_lt h)
    exact ⟨this.1.1, this.1.2.1, this.1.2.2, this.2⟩
  · rw [decide_eq_false h, if_neg (by decide)]
    have := lost_half hf hg hlf hs (by omega)
    exact ⟨this.1.1, this.1.2.1, this.1.2.2, this.2⟩
end Go.Proofs.Ytcfkhhnkboealaa
namespace Go.Proofs.Ytcfkhhnkboealaa
open Go.RowKit
set_option linter.unusedVariables false
set_option linter.unusedSimpArgs false
set_option maxRecDepth 100000
set_option maxHeartbeats 4000000
theorem dblN_reach {r : Nat} (h : 0 < r) (hr : r < 4602678819172646912) : ∃ j, 4602678819172646912 ≤ dblN j r ∧ dblN j r < 4607182418800017408 := by
  have hex : ∃ j, 4602678819172646912 ≤ dblN j r := ⟨4602678819172646912, le_dblN h _⟩
  have key : ∀ n, 4602678819172646912 ≤ dblN n r → ∃ j, 4602678819172646912 ≤ dblN j r ∧ dblN j r < 4607182418800017408 := by
    intro n
    induction n with
    | zero => intro hn; rw [show dblN 0 r = r from rfl] at hn; omega
    | succ n ih =>
      intro hn
      by_cases h2 : 4602678819172646912 ≤ dblN n r
      · exact ih h2
      · refine ⟨n + 1, hn, ?_⟩
        have e : dblN (n + 1) r = dbl (dblN n r) := rfl
        rw [e]
        unfold dbl
        split <;> omega
  obtain ⟨n, hn⟩ := hex
  exact key n hn
theorem parts_exist {s : Bool} {r0 : Nat} (h : 0 < r0) (hr : r0 < 9218868437227405312) : ∃ r n, PartRel s r0 r n ∧ 4602678819172646912 ≤ r ∧ r < 4607182418800017408 := by
  by_cases hb : r0 < 4602678819172646912
  · obtain ⟨j, h1, h2⟩ := dblN_reach h hb
    exact ⟨dblN j r0, -(j : Int), .inr ⟨j, rfl, rfl⟩, h1, h2⟩
  · exact ⟨r0 - (r0 / 4503599627370496 - 1022) * 4503599627370496, ((r0 / 4503599627370496 - 1022 : Nat) : Int), .inl ⟨r0 / 4503599627370496 - 1022, rfl, by omega, by omega⟩, by omega, by omega⟩
theorem mval_up (k : Nat) {r : Nat} (h : 4503599627370496 ≤ r) : mval (r + k * 4503599627370496) = mval r * 2 ^ k := by
  rw [← dblN_big h, mval_dblN]
theorem clamp_id {n : Int} (h1 : -5000 ≤ n) (h2 : n ≤ 5000) : clampN n = n := by unfold clampN; split <;> split <;> omega
theorem sval_pos' {r : Nat} (h : r ≤ 9218868437227405312) : sval r = (mval r : Int) := by
  unfold sval; rw [sgn_rung (by omega), rung_pos h]; rfl
theorem mval_oneT : mval 4607182418800017408 = U := by decide +kernel
/-- THE PARTS: from a half to below one, and times their power the float. -/
theorem parts_back {f : Nat} (hl : f < 18446744073709551616) (hf : fin f = true) (h0 : rung f ≠ 0) :
    fin (partF f) = true ∧ flt (fabs (partF f)) 4602678819172646912 = false ∧ fle 4607182418800017408 (fabs (partF f)) = false ∧ scaleF (partF f) (clampN (partE f)) = f := by
  have hr := fin_rung hf
  obtain ⟨r, n, hp, h1, h2⟩ := parts_exist (s := sgn f) (Nat.pos_of_ne_zero h0) hr
  obtain ⟨e1', e2'⟩ := parts_end hl hf h0 hp h1 h2
  rw [e1', e2']
  have hle : r ≤ 9218868437227405312 := by omega
  have hfw : fin (wd (sgn f) r) = true := by unfold fin; rw [wd_rung hle]; simp; omega
  have hnw := wd_notN (s := sgn f) hle
  have hab : fabs (wd (sgn f) r) = r := by rw [fabs_of hnw, wd_rung hle]
  have hbd : -5000 ≤ n ∧ n ≤ 5000 := by
    rcases hp with ⟨k, rfl, hk, _⟩ | ⟨j, rfl, hj⟩
    · omega
    · have hm := mval_dblN j (rung f)
      rw [← hj] at hm
      have hlt := mval_lt h2
      rw [mval_oneT] at hlt
      have hpos := mval_pos (Nat.pos_of_ne_zero h0)
      have : 2 ^ j < 2 ^ e1 := by
        have h3 : 1 * 2 ^ j ≤ mval (rung f) * 2 ^ j := Nat.mul_le_mul_right _ hpos
        have hU : U = 2 ^ e1 := by unfold U; rfl
        rw [← hU]; omega
      have := (Nat.pow_lt_pow_iff_right (show 1 < 2 by decide)).1 this
      rw [e1_eq] at this
      omega
  refine ⟨hfw, ?_, ?_, ?_⟩
  · rw [hab, flt_eq, num_pos hle, sval_pos' hle, show sval 4602678819172646912 = (mval 4602678819172646912 : Int) by decide +kernel, show isN 4602678819172646912 = false by decide +kernel]
    have := mval_le_iff.2 h1
    simp; omega
  · rw [hab, fle_eq, num_pos hle]
    simp
    intro _
    rw [sval_pos' hle, show sval 4607182418800017408 = (mval 4607182418800017408 : Int) by decide +kernel]
    have := mval_lt h2
    omega
  · rw [clamp_id hbd.1 hbd.2, scale_val (wd_lt hle) hfw (by rw [wd_rung hle]; omega), wd_sgn hle, wd_rung hle]
    have : rndE (mval r) n = rung f := by
      rcases hp with ⟨k, rfl, hk, hk2⟩ | ⟨j, rfl, hj⟩
      · rw [rndE_nat, ← mval_up k (by omega), hk, rnd_mval hr]
      · rw [hj, mval_dblN, rndE_shift, show -(j : Int) + (j : Int) = ((0 : Nat) : Int) by omega, rndE_nat, Nat.pow_zero, Nat.mul_one, rnd_mval hr]
    rw [this]; exact wd_self hl
theorem mval_inf_lt : ∃ K, K = 2099 ∧ mval 9218868437227405312 ≤ 2 ^ K := ⟨2099, rfl, by decide +kernel⟩
/-- a rounded product by a power of two, where it is finite, is exact. -/
theorem rnd_shift_exact {m t : Nat} (hm : m < 9007199254740992) (h : rndN (m * 2 ^ t) < 9218868437227405312) : mval (rndN (m * 2 ^ t)) = m * 2 ^ t := by
  obtain ⟨s, q, hr, hv, hq, hs, h0, h1, n1, n2, n3⟩ := rnd_shape _ h
  rw [hv]
  refine n3 ?_
  by_cases hs0 : s = 0
  · subst hs0; exact Nat.one_dvd _
  · obtain ⟨_, b1, _⟩ := h1 (by omega)
    have hst : s ≤ t := by
      rcases Nat.lt_or_ge t s with c | c
      · exfalso
        have g : 2 ^ (t + 1) ≤ 2 ^ s := Nat.pow_le_pow_right (by decide) c
        have g2 : m * 2 ^ t < 9007199254740992 * 2 ^ t := Nat.mul_lt_mul_of_pos_right hm (Nat.two_pow_pos t)
        rw [Nat.pow_succ] at g
        omega
      · exact c
    exact Nat.dvd_trans (Nat.pow_dvd_pow 2 hst) (Nat.dvd_mul_left _ _)
/-- a float times a power of two, neither too great nor too small: exact, and the power was not cut. -/
theorem scale_exact {f : Nat} {n : Int} (hl : f < 18446744073709551616) (hf : fin f = true) (h0 : rung f ≠ 0) (hs : fin (scaleF f (clampN n)) = true) (hb : 4503599627370496 < rung (scaleF f (clampN n))) :
    (∀ j : Nat, n = j → sval (scaleF f (clampN n)) = sval f * ((2 ^ j : Nat) : Int)) ∧ (∀ j : Nat, n = -(j : Int) → sval (scaleF f (clampN n)) * ((2 ^ j : Nat) : Int) = sval f) ∧ -5000 ≤ n ∧ n ≤ 5000 := by
  obtain ⟨m, k, em, hm, hk, hk0⟩ := mval_form (fin_rung hf)
  rw [scale_val hl hf h0] at hs hb ⊢
  have hle := rndE_le (mval (rung f)) (clampN n)
  have hfr := fin_rung hs
  rw [wd_rung hle] at hb hfr
  have hm0 : m ≠ 0 := by
    rintro rfl
    rw [Nat.zero_mul] at em
    have := mval_pos (Nat.pos_of_ne_zero h0)
    omega
  obtain ⟨c, hc⟩ : ∃ c, clampN n = c := ⟨_, rfl⟩
  rw [hc] at hb hfr hle ⊢
  have hcb : -5000 ≤ c ∧ c ≤ 5000 := by rw [← hc]; unfold clampN; split <;> split <;> omega
  have ht : 0 ≤ (k : Int) + c := by
    rcases Int.lt_or_le ((k : Int) + c) 0 with g | g
    · exfalso
      obtain ⟨d, hd⟩ : ∃ d : Nat, (k : Int) + c = -(d : Int) := ⟨(-((k : Int) + c)).toNat, by omega⟩
      rw [em, rndE_shift, show c + (k : Int) = -(d : Int) by omega, rndE_neg] at hb
      have h2 : rndQ m d ≤ rndQ (4503599627370496 * 2 ^ d) d := rndQ_mono (by
        have : 2 ^ 1 ≤ 2 ^ d := Nat.pow_le_pow_right (by decide) (by omega)
        omega)
      rw [rndQ_cancel, show rndN 4503599627370496 = 4503599627370496 by decide +kernel] at h2
      omega
    · exact g
  obtain ⟨t, htt⟩ : ∃ t : Nat, (k : Int) + c = (t : Int) := ⟨((k : Int) + c).toNat, by omega⟩
  have hE : rndE (mval (rung f)) c = rndN (m * 2 ^ t) := by rw [em, rndE_shift, show c + (k : Int) = ((t : Nat) : Int) by omega, rndE_nat]
  rw [hE] at hfr hle ⊢
  have hex := rnd_shift_exact hm hfr
  have hcn : c = n := by
    have hbig : t < 2099 := by
      obtain ⟨K, hK, a2⟩ := mval_inf_lt
      rcases Nat.lt_or_ge t K with g | g
      · omega
      · exfalso
        have a1 := mval_lt hfr
        have a3 : 2 ^ K ≤ 2 ^ t := Nat.pow_le_pow_right (by decide) g
        have a4 : 1 * 2 ^ t ≤ m * 2 ^ t := Nat.mul_le_mul_right _ (Nat.pos_of_ne_zero hm0)
        rw [hex] at a1
        omega
    have h9 := hc
    unfold clampN at h9
    split at h9 <;> split at h9 <;> omega
  subst hcn
  have hv : sval (wd (sgn f) (rndN (m * 2 ^ t))) = if sgn f then -((m * 2 ^ t : Nat) : Int) else ((m * 2 ^ t : Nat) : Int) := by rw [wd_sval hle, hex]
  have hvf : sval f = if sgn f then -((m * 2 ^ k : Nat) : Int) else ((m * 2 ^ k : Nat) : Int) := by unfold sval; rw [em]
  refine ⟨fun j hj => ?_, fun j hj => ?_, hcb.1, hcb.2⟩
  · have e : m * 2 ^ t = m * 2 ^ k * 2 ^ j := by rw [Nat.mul_assoc, ← Nat.pow_add]; congr 2; omega
    rw [hv, hvf, e]
    generalize m * 2 ^ k = X
    generalize 2 ^ j = Y
    cases sgn f <;> simp [Int.natCast_mul, Int.neg_mul]
  · have e : m * 2 ^ k = m * 2 ^ t * 2 ^ j := by rw [Nat.mul_assoc, ← Nat.pow_add]; congr 2; omega
    rw [hv, hvf, e]
    generalize m * 2 ^ t = X
    generalize 2 ^ j = Y
    cases sgn f <;> simp [Int.natCast_mul, Int.neg_mul]
theorem scale_sgn {f : Nat} {n : Int} (hl : f < 18446744073709551616) (hf : fin f = true) (h0 : rung f ≠ 0) : sgn (scaleF f n) = sgn f ∧ isN (scaleF f n) = false ∧ scaleF f n < 18446744073709551616 := by
  rw [scale_val hl hf h0]
  exact ⟨wd_sgn (rndE_le _ _), wd_notN (rndE_le _ _), wd_lt (rndE_le _ _)⟩
theorem parts_none {f : Nat} (h : (fin f && !feq f 0) = false) : partF f = f ∧ partE f = 0 := parts_plain h
end Go.Proofs.Ytcfkhhnkboealaa
