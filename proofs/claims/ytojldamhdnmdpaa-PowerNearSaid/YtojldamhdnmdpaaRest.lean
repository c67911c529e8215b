/- The rest less whole quarters is small; sines and cosines are at most one. -/
import Derived.Test.YtojldamhdnmdpaaMir2
import Derived.Test.YtojldamhdnmdpaaTwos
namespace Go.Proofs.Ytojldamhdnmdpaa
open Go.RowKit
set_option linter.unusedVariables false
set_option linter.unusedSimpArgs false
set_option maxRecDepth 100000

theorem fmul_lt' (f g : Nat) : fmul f g < 18446744073709551616 := canon_map_lt _
theorem lin0 (A X Y : Nat) (h2 : A < 2 * X) (h3 : X ≤ Y) : A ≤ 2 * Y := by omega
theorem lin1 (A C D : Nat) (h2 : A < D * 9007199254740992) (h3 : D * 4503599627370496 ≤ C * 4503599627370497) : A ≤ 2 * C * 4503599627370497 := by
  have e1 : D * 9007199254740992 = 2 * (D * 4503599627370496) := by rw [← Nat.mul_assoc, Nat.mul_comm 2 D, Nat.mul_assoc]
  have e2 : 2 * C * 4503599627370497 = 2 * (C * 4503599627370497) := Nat.mul_assoc _ _ _
  rw [e1] at h2
  rw [e2]
  exact lin0 _ _ _ h2 h3
theorem lin4 (X Y C D : Nat) (h : X + C ≤ Y + D) (h2 : D ≤ C) : X ≤ Y := by omega
theorem lin5 (A X Y : Nat) (h2 : 2 * Y < A) (h3 : X ≤ Y) : 2 * X ≤ A := by omega
theorem lin2 (A C D : Nat) (h2 : D * 9007199254740992 < A) (h3 : C * 4503599627370496 ≤ D * 4503599627370497) : 2 * C * 4503599627370495 ≤ A := by
  have e1 : D * 9007199254740992 = 2 * (D * 4503599627370496) := by rw [← Nat.mul_assoc, Nat.mul_comm 2 D, Nat.mul_assoc]
  have e2 : 2 * C * 4503599627370495 = 2 * (C * 4503599627370495) := Nat.mul_assoc _ _ _
  have e3 : C * 4503599627370496 = C * 4503599627370495 + C := Nat.mul_succ C 4503599627370495
  have e4 : D * 4503599627370497 = D * 4503599627370496 + D := Nat.mul_succ D 4503599627370496
  rw [e1] at h2
  rw [e2]
  refine lin5 _ _ _ h2 ?_
  rcases Nat.le_total D C with g | g
  · rw [e3, e4] at h3
    exact lin4 _ _ _ _ h3 g
  · exact Nat.le_trans (Nat.mul_le_mul_right _ g) (Nat.mul_le_mul_left _ (by decide))
theorem lin3 (a W g : Nat) (v3 : a ≤ W * 1048577) (v4 : 2 * W * 1048576 ≤ g) : a ≤ g := by
  have e : 2 * W * 1048576 = W * 2097152 := by rw [Nat.mul_comm 2 W, Nat.mul_assoc]
  rw [e] at v4
  exact Nat.le_trans v3 (Nat.le_trans (Nat.mul_le_mul_left _ (by decide)) v4)
theorem rne_bd {n g : Nat} (hg : 0 < g) : 2 * n ≤ (2 * rne n g + 1) * g ∧ 2 * rne n g * g ≤ 2 * n + g := by
  have e := Nat.div_add_mod n g
  have hm := Nat.mod_lt n hg
  unfold rne
  generalize n / g = q at *
  generalize n % g = r at *
  have e1 : g * q = q * g := Nat.mul_comm _ _
  rw [e1] at e
  by_cases h : g < 2 * r
  · rw [if_pos (by simp [h])]
    have e2 : (2 * (q + 1) + 1) * g = 2 * (q * g) + 3 * g := by rw [Nat.add_mul, Nat.mul_assoc, Nat.add_mul]; omega
    have e3 : 2 * (q + 1) * g = 2 * (q * g) + 2 * g := by rw [Nat.mul_assoc, Nat.add_mul]; omega
    omega
  · by_cases h2 : g = 2 * r ∧ q % 2 = 1
    · rw [if_pos (by simp [h2.1, h2.2])]
      have e2 : (2 * (q + 1) + 1) * g = 2 * (q * g) + 3 * g := by rw [Nat.add_mul, Nat.mul_assoc, Nat.add_mul]; omega
      have e3 : 2 * (q + 1) * g = 2 * (q * g) + 2 * g := by rw [Nat.mul_assoc, Nat.add_mul]; omega
      omega
    · rw [if_neg (by simp [h]; intro a; by_cases b : q % 2 = 1; exact absurd ⟨a, b⟩ h2; omega)]
      have e2 : (2 * (q + 0) + 1) * g = 2 * (q * g) + g := by rw [Nat.add_mul, Nat.mul_assoc]; simp
      have e3 : 2 * (q + 0) * g = 2 * (q * g) := by rw [Nat.mul_assoc]; simp
      omega
theorem mval_succ {c : Nat} (h : 4503599627370496 ≤ c) : mval (c + 1) * 4503599627370496 ≤ mval c * 4503599627370497 := by
  unfold mval
  rw [if_neg (by omega), if_neg (by omega)]
  have hm := Nat.mod_lt c (show 0 < 4503599627370496 by decide)
  by_cases h2 : (c + 1) % 4503599627370496 = 0
  · have e1 : (c + 1) / 4503599627370496 = c / 4503599627370496 + 1 := by omega
    have e2 : c % 4503599627370496 = 4503599627370495 := by omega
    rw [h2, e1, e2, show c / 4503599627370496 + 1 - 1 = (c / 4503599627370496 - 1) + 1 by omega, Nat.pow_succ]
    generalize 2 ^ (c / 4503599627370496 - 1) = P
    omega
  · have e1 : (c + 1) / 4503599627370496 = c / 4503599627370496 := by omega
    have e2 : (c + 1) % 4503599627370496 = c % 4503599627370496 + 1 := by omega
    rw [e1, e2]
    generalize c % 4503599627370496 = r at *
    generalize 2 ^ (c / 4503599627370496 - 1) = P
    rw [Nat.mul_right_comm, Nat.mul_right_comm _ P]
    apply Nat.mul_le_mul_right
    omega
/-- what a rounded product tells of the exact one. -/
theorem rnd_above {n d c : Nat} (hc : c + 1 < 9218868437227405312) (h : rndQ n d ≤ c) : n < mval (c + 1) * 2 ^ d := by
  rcases Nat.lt_or_ge n (mval (c + 1) * 2 ^ d) with h2 | h2
  · exact h2
  · have h3 := rndQ_mono (d := d) h2
    rw [rndQ_cancel, rnd_mval hc] at h3
    omega
theorem rnd_below {n d c : Nat} (hc : c < 9218868437227405312) (h : c < rndQ n d) : mval c * 2 ^ d < n := by
  rcases Nat.lt_or_ge (mval c * 2 ^ d) n with h2 | h2
  · exact h2
  · have h3 := rndQ_mono (d := d) h2
    rw [rndQ_cancel, rnd_mval hc] at h3
    omega
def kG : Nat := 1021
theorem mulG_ok : mval 4603909380684499075 = 5734161139222659 * 2 ^ kG := by decide +kernel
theorem kG_eq : 1074 = 53 + kG := rfl
theorem halfU (M : Nat) (h : M < 4503599627370496) (h0 : 0 < M) : ∃ c, 4503599627370496 < c ∧ c + 1 < 9218868437227405312 ∧ 2 * mval c = M * U := by
  obtain ⟨r, h1, h2⟩ := exact_pow (m := M) (k := e1 - 1) (by omega) (by rw [e1_eq]; decide)
  have e : U = 2 ^ (e1 - 1) * 2 := by unfold U; rw [← Nat.pow_succ, show (e1 - 1).succ = e1 by rw [e1_eq]]
  have h3 : 2 * mval r = M * U := by rw [h2, e, ← Nat.mul_assoc M]; omega
  have b1 : mval 4503599627370496 < mval r := by
    rw [h2]
    have : mval 4503599627370496 < 2 ^ (e1 - 1) := by decide +kernel
    exact Nat.lt_of_lt_of_le this (Nat.le_mul_of_pos_left _ h0)
  have b2 : mval r < mval 9007199254740992000 := by
    have : 4503599627370496 * 2 ^ (e1 - 1) ≤ mval 9007199254740992000 := by decide +kernel
    rw [h2]
    exact Nat.lt_of_lt_of_le (Nat.mul_lt_mul_of_pos_right h (Nat.two_pow_pos _)) this
  exact ⟨r, mval_lt_iff.1 b1, by have := mval_lt_iff.1 b2; omega, h3⟩
/-- the rounded number of quarters, and how far the float is from them. -/
theorem quarters {f : Nat} (hl : f < 18446744073709551616) (h : fit f = true) : ∃ M, M ≤ 1048576 ∧ Proofs.Ytojldamhdnmdpaa.fin (quarterM f) = true ∧ mval (rung (quarterM f)) = M * U ∧ sgn (quarterM f) = sgn f ∧
    mval (rung f) * 5734161139222659 ≤ (2 * M + 1) * 4503599627370497 * U ∧ (2 * M - 1) * 4503599627370495 * U ≤ mval (rung f) * 5734161139222659 := by
  have hb := fit_bd hl h
  have hm := quarterM_bd hl h
  have hN := (((hb.mul (Bd.mk_c (c := 4603909380684499075) (k := 0) (by decide +kernel)) (by decide)).whole (by decide)).2)
  have e2 : fmul f 4603909380684499075 = wd (sgn f) (rndQ (mval (rung f) * 5734161139222659) 53) := by
    rw [fmul_fin hb.fin (by decide +kernel), show sgn 4603909380684499075 = false by decide +kernel, Bool.xor_false, show rung 4603909380684499075 = 4603909380684499075 by decide +kernel, mulG_ok, ← Nat.mul_assoc]
    rw [kG_eq, rndQ_scale]
  have hfin : Proofs.Ytojldamhdnmdpaa.fin (fmul f 4603909380684499075) = true := (hb.mul (Bd.mk_c (c := 4603909380684499075) (k := 0) (by decide +kernel)) (by decide)).fin
  have er : rung (fmul f 4603909380684499075) = rndQ (mval (rung f) * 5734161139222659) 53 := by rw [e2, wd_rung (rndQ_le _ _)]
  have es : sgn (fmul f 4603909380684499075) = sgn f := by rw [e2, wd_sgn (rndQ_le _ _)]
  have ew := whole_eq hfin
  obtain ⟨M, hM⟩ : ∃ M, M = wholeN (rung (fmul f 4603909380684499075)) := ⟨_, rfl⟩
  rw [← hM] at ew hN
  have hM2 : M ≤ 1048576 := Nat.le_trans hN (by decide)
  obtain ⟨x1, x2⟩ := rnd_whole (m := M) (by omega)
  have r1 := rne_bd (n := mval (rung (fmul f 4603909380684499075))) U_pos
  rw [show rne (mval (rung (fmul f 4603909380684499075))) U = M from hM.symm] at r1
  have eq : quarterM f = wd (sgn f) (rndN (M * U)) := by rw [show quarterM f = wholeF (fmul f 4603909380684499075) from rfl, ew, es]
  refine ⟨M, hM2, hm.fin, ?_, ?_, ?_, ?_⟩
  · rw [eq, wd_rung (rndN_le _), x2]
  · rw [eq, wd_sgn (rndN_le _)]
  · obtain ⟨c, c1, c2, c3⟩ := halfU (2 * M + 1) (by omega) (by omega)
    have h1 : rndQ (mval (rung f) * 5734161139222659) 53 ≤ c := by
      rw [← er]; apply mval_le_iff.1; have := r1.1; omega
    have h2 := rnd_above c2 h1
    have h3 := mval_succ (c := c) (by omega)
    rw [show (2 : Nat) ^ 53 = 9007199254740992 by decide] at h2
    have e4 : (2 * M + 1) * 4503599627370497 * U = (2 * M + 1) * U * 4503599627370497 := Nat.mul_right_comm _ _ _
    rw [e4, ← c3]
    exact lin1 _ _ _ h2 h3
  · rcases Nat.eq_zero_or_pos M with h0 | h0
    · subst h0; simp
    · obtain ⟨c, c1, c2, c3⟩ := halfU (2 * M - 1) (by omega) (by omega)
      have h1 : c - 1 < rndQ (mval (rung f) * 5734161139222659) 53 := by
        rw [← er]
        have h4 : mval c ≤ mval (rung (fmul f 4603909380684499075)) := by
          have := r1.2
          have e5 : (2 * M - 1) * U + U = 2 * M * U := by
            rw [Nat.sub_mul]; have : 1 * U ≤ 2 * M * U := Nat.mul_le_mul_right _ (by omega); omega
          omega
        have := mval_le_iff.1 h4
        omega
      have h2 := rnd_below (by omega) h1
      have h3 := mval_succ (c := c - 1) (by omega)
      rw [show c - 1 + 1 = c by omega] at h3
      rw [show (2 : Nat) ^ 53 = 9007199254740992 by decide] at h2
      have e4 : (2 * M - 1) * 4503599627370495 * U = (2 * M - 1) * U * 4503599627370495 := Nat.mul_right_comm _ _ _
      rw [e4, ← c3]
      exact lin2 _ _ _ h2 h3
def cR1 : Nat := 4605250171532476416
theorem cR1_ok : mval cR1 = 843400000 * 2 ^ kA ∧ cR1 < 9218868437227405312 := by decide +kernel
theorem kA_e : e1 = 30 + kA := rfl
theorem kA_U : U = 1073741824 * 2 ^ kA := by unfold U; rw [kA_e, Nat.pow_add, show (2 : Nat) ^ 30 = 1073741824 by decide]
theorem rung_fsub {x y F G : Nat} (h : rung x ≤ F) (k : rung y ≤ G) (hF : F < 9218868437227405312) (hG : G < 9218868437227405312) (hl : y < 18446744073709551616) : rung (fsub x y) ≤ fadd F G := by
  rw [fsub_eq hl]
  exact rungAdd2 h (by rw [rung_neg' (by rw [notN_iff]; omega)]; exact k) hF hG
/-- the first step of the rest. -/
theorem rest1 {f : Nat} (hl : f < 18446744073709551616) (h : fit f = true) : rung (fsub f (fmul (quarterM f) 4609753056924401664)) ≤ cR1 ∧ fsub f (fmul (quarterM f) 4609753056924401664) < 18446744073709551616 := by
  obtain ⟨M, m1, m2, m3, m4, m5, m6⟩ := quarters hl h
  have hb := fit_bd hl h
  obtain ⟨w1, w2, w3⟩ := mulW m2 m3 (p := 4609753056924401664) (by decide) piece0_ok.2 (by unfold kA; decide) (by omega)
  refine ⟨?_, canon_map_lt _⟩
  have hs : sgn (fmul (quarterM f) 4609753056924401664) = sgn f := by
    rw [fmul_fin m2 (by decide +kernel), wd_sgn (rndQ_le _ _), m4, show sgn 4609753056924401664 = false by decide +kernel, Bool.xor_false]
  rw [fsub_fin hb.fin w1 w3, wd_rung (rndN_le _)]
  obtain ⟨c1, c2⟩ := cR1_ok
  apply rndN_le_of c2
  rw [c1]
  have hx : (sval f - sval (fmul (quarterM f) 4609753056924401664)).natAbs = ((mval (rung f) : Int) - (mval (rung (fmul (quarterM f) 4609753056924401664)) : Int)).natAbs := by
    unfold sval; rw [hs]
    cases sgn f
    · rfl
    · simp only [if_true]; omega
  rw [hx, w2]
  rw [kA_U] at m5 m6
  generalize 2 ^ kA = P at *
  generalize mval (rung f) = A at *
  clear w2 c1 hx m3
  have e0 : ∀ a b c : Nat, a * b * (c * P) = a * P * (b * c) := fun a b c => by ac_rfl
  rw [e0] at m5 m6
  rw [show (2 * M + 1) * P = 2 * (M * P) + P by rw [Nat.add_mul, Nat.mul_assoc, Nat.one_mul]] at m5
  rw [show M * 1686629713 * P = M * P * 1686629713 from Nat.mul_right_comm _ _ _]
  have m7 : M * P ≤ 1048576 * P := Nat.mul_le_mul_right _ m1
  rcases Nat.eq_zero_or_pos M with h0 | h0
  · subst h0
    simp only [Nat.zero_mul] at *
    omega
  · have m8 : (2 * M - 1) * P = 2 * (M * P) - P := by rw [Nat.sub_mul, Nat.mul_assoc, Nat.one_mul]
    have m9 : P ≤ M * P := Nat.le_mul_of_pos_left _ h0
    rw [m8] at m6
    generalize M * P = Q at *
    omega
def cR20 : Nat := 4697254411347427328
def cRest : Nat := fadd (fadd cR1 (fmul cR20 4454258360616747008)) (fmul cR20 4297306550709518336)
theorem cRest_ok : cR1 < 9218868437227405312 ∧ fmul cR20 4454258360616747008 < 9218868437227405312 ∧ fadd cR1 (fmul cR20 4454258360616747008) < 9218868437227405312 ∧ fmul cR20 4297306550709518336 < 9218868437227405312 ∧ cRest ≤ 4605251275279800939 ∧ cR20 < 9218868437227405312 := by decide +kernel
theorem bd20 {m : Nat} (h : Bd m 20) : rung m ≤ cR20 := by
  have e : 2 ^ 20 * U = mval cR20 := by unfold U; rw [e1_eq]; decide +kernel
  have := h.le
  rw [e] at this
  exact mval_le_iff.1 this
/-- the rest is at most 0.7856. -/
theorem rest_le {f : Nat} (hl : f < 18446744073709551616) (h : fit f = true) : rung (quarterX f) ≤ 4605251275279800939 := by
  obtain ⟨c1, c2, c3, c4, c5, c6⟩ := cRest_ok
  unfold quarterX
  rw [if_pos h]
  cases hq : feq (quarterM f) 0
  · rw [if_neg (by simp), less_open]
    obtain ⟨r1, r2⟩ := rest1 hl h
    have hb := bd20 (quarterM_bd hl h)
    have k1 := (rungMul (y := 4454258360616747008) hb (Nat.le_of_eq (by decide +kernel : rung 4454258360616747008 = 4454258360616747008)) c6 (by decide)).2
    have k2 := (rungMul (y := 4297306550709518336) hb (Nat.le_of_eq (by decide +kernel : rung 4297306550709518336 = 4297306550709518336)) c6 (by decide)).2
    have k3 := rung_fsub r1 k1 c1 c2 (fmul_lt' _ _)
    have k4 := rung_fsub k3 k2 c3 c4 (fmul_lt' _ _)
    exact Nat.le_trans k4 c5
  · rw [if_pos rfl]
    obtain ⟨M, m1, m2, m3, m4, m5, m6⟩ := quarters hl h
    have hm := quarterM_bd hl h
    rw [feq_zero hm.notN] at hq
    have hq' : rung (quarterM f) = 0 := by simpa using hq
    rw [hq', mval_zero] at m3
    have h0 : M = 0 := by
      rcases Nat.eq_zero_or_pos M with e | e
      · exact e
      · have := Nat.mul_pos e U_pos; omega
    subst h0
    obtain ⟨d1, d2⟩ := cR1_ok
    refine Nat.le_trans (mval_le_iff.1 ?_) (show cR1 ≤ 4605251275279800939 by decide)
    rw [d1]
    rw [kA_U] at m5
    generalize 2 ^ kA = P at *
    generalize mval (rung f) = A at *
    omega
/-! the sums of sine and cosine are from nought to one. -/
def cZm : Nat := fmul 4605251275279800939 4605251275279800939
theorem cZm_ok : cZm < 9218868437227405312 := by decide +kernel
def cHz : Nat := 4602678819172646912
theorem div_small {z g : Nat} (hz : z ≤ cZm) (hg : Proofs.Ytojldamhdnmdpaa.fin g = true) (hs : sgn g = false) (h2 : 2 * U ≤ mval (rung g)) : fdiv z g ≤ 4607182418800017408 := by
  have hzl := cZm_ok
  have hgp := mval_pos (r := 1) (by decide)
  obtain ⟨r, e, hr⟩ := fdiv_le (f := z) (g := g) (c := 4607182418800017408) (p_fin (by omega)) hg (by intro h; rw [h, mval_zero] at h2; have := U_pos; omega) (by decide) (by
    rw [p_rung (by omega), mval_one]
    have v1 := mval_le_iff.2 hz
    have v2 : mval cZm ≤ U := by decide +kernel
    have v3 : mval z * U * 1048577 ≤ U * U * 1048577 := Nat.mul_le_mul_right _ (Nat.mul_le_mul_right _ (Nat.le_trans v1 v2))
    have v4 : U * (2 * U) * 1048576 ≤ U * mval (rung g) * 1048576 := Nat.mul_le_mul_right _ (Nat.mul_le_mul_left _ h2)
    have v5 : U * (2 * U) = 2 * (U * U) := by rw [← Nat.mul_assoc, Nat.mul_comm U 2, Nat.mul_assoc]
    rw [v5] at v4
    exact lin3 _ _ _ v3 v4)
  rw [e, p_sgn (by omega), hs]
  exact hr
theorem step_one {t : Nat} (h : t ≤ 4607182418800017408) : fsub 4607182418800017408 t ≤ 4607182418800017408 := subP (by decide) h
theorem mul_one' {a s : Nat} (ha : a ≤ 4607182418800017408) (hs : s ≤ 4607182418800017408) : fmul a s ≤ 4607182418800017408 :=
  Nat.le_trans (mulP ha hs (by decide) (by decide)) (Nat.le_of_eq (by decide +kernel))
theorem sin_c2 : ∀ j : Nat, j < 9 → Proofs.Ytojldamhdnmdpaa.fin (ofInt (2 * (9 - (j : Int)) * (2 * (9 - (j : Int)) + 1))) = true ∧ sgn (ofInt (2 * (9 - (j : Int)) * (2 * (9 - (j : Int)) + 1))) = false ∧ 2 * U ≤ mval (rung (ofInt (2 * (9 - (j : Int)) * (2 * (9 - (j : Int)) + 1)))) := by decide +kernel
theorem cos_c2 : ∀ j : Nat, j < 9 → Proofs.Ytojldamhdnmdpaa.fin (ofInt ((2 * (9 - (j : Int)) - 1) * (2 * (9 - (j : Int))))) = true ∧ sgn (ofInt ((2 * (9 - (j : Int)) - 1) * (2 * (9 - (j : Int))))) = false ∧ 2 * U ≤ mval (rung (ofInt ((2 * (9 - (j : Int)) - 1) * (2 * (9 - (j : Int)))))) := by decide +kernel
theorem sinSeq_one {z : Nat} (hz : z ≤ cZm) : ∀ j : Nat, j ≤ 9 → sinSeq z j ≤ 4607182418800017408
  | 0, _ => Nat.le_refl _
  | j + 1, h => by
    obtain ⟨a, b, c⟩ := sin_c2 j (by omega)
    exact step_one (mul_one' (div_small hz a b c) (sinSeq_one hz j (by omega)))
theorem cosSeq_one {z : Nat} (hz : z ≤ cZm) : ∀ j : Nat, j ≤ 9 → cosSeq z j ≤ 4607182418800017408
  | 0, _ => Nat.le_refl _
  | j + 1, h => by
    obtain ⟨a, b, c⟩ := cos_c2 j (by omega)
    exact step_one (mul_one' (div_small hz a b c) (cosSeq_one hz j (by omega)))
theorem sq_le {y : Nat} (h : rung y ≤ 4605251275279800939) : fmul y y ≤ cZm := by
  have s1 := rungMul h h (by decide) (by decide)
  rw [Bool.xor_self, wdF] at s1
  rw [s1.1]; exact s1.2
theorem sine_one {y : Nat} (h : rung y ≤ 4605251275279800939) : rung (sineF y) ≤ 4607182418800017408 := by
  have hz := sq_le h
  have hs := sinSeq_one hz 9 (Nat.le_refl _)
  have := (rungMul (y := sinSeq (fmul y y) 9) h (by rw [p_rung (by omega)]; exact hs) (by decide) (by decide)).2
  exact Nat.le_trans this (by decide +kernel)
theorem cos_one {y : Nat} (h : rung y ≤ 4605251275279800939) : rung (cosF y) ≤ 4607182418800017408 := by
  have hs := cosSeq_one (sq_le h) 9 (Nat.le_refl _)
  show rung (cosSeq (fmul y y) 9) ≤ _
  rw [p_rung (by omega)]; exact hs
/-- sines and cosines of fit floats are at most one. -/
theorem turn_one {f : Nat} (hl : f < 18446744073709551616) (h : fit f = true) : rung (turnS f) ≤ 4607182418800017408 ∧ rung (turnC f) ≤ 4607182418800017408 := by
  have hx := rest_le hl h
  have s1 := sine_one hx
  have c1 := cos_one hx
  have s2 : rung (fneg (sineF (quarterX f))) ≤ 4607182418800017408 := by rw [rung_neg' (by rw [notN_iff]; omega)]; exact s1
  have c2 : rung (fneg (cosF (quarterX f))) ≤ 4607182418800017408 := by rw [rung_neg' (by rw [notN_iff]; omega)]; exact c1
  constructor
  · unfold turnS
    split
    · exact s1
    · split
      · exact c1
      · split
        · exact s2
        · exact c2
  · unfold turnC
    split
    · exact c1
    · split
      · exact s2
      · split
        · exact c2
        · exact s1
end Go.Proofs.Ytojldamhdnmdpaa
