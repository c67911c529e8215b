/- Parts times their power are the float; a float times a power of two is that, exactly, unless too great or too small. Plain. -/
import Derived.Test.YtcfkhhnkboealaaLos2
namespace Go.Proofs.Ytcfkhhnkboealaa
open Go.RowKit
set_option linter.unusedVariables false
set_option linter.unusedSimpArgs false
set_option maxRecDepth 100000
set_option maxHeartbeats 4000000
theorem dblN_reach {r : Nat} (h : 0 < r) (hr : r < 4602678819172646912) : ∃ j, 4602678819172646912 ≤ dblN j r ∧ dblN j r < 4607182418800017408 := by
  have hex : ∃ j, 4602678819172646912 ≤ dblN j r := ⟨4602678819172646912, le_dblN h _⟩
  have key : ∀ n, 4602678819172646912 ≤ dblN n r → ∃ j, 4602678819172646912 ≤ dblN j r ∧ dblN j r < 4607182418800017408 := by
    intro n
    induction n with
    | zero => intro hn; rw [show dblN 0 r = r from rfl] at hn; omega
    | succ n ih =>
      intro hn
      by_cases h2 : 4602678819172646912 ≤ dblN n r
      · exact ih h2
      · refine ⟨n + 1, hn, ?_⟩
        have e : dblN (n + 1) r = dbl (dblN n r) := rfl
        rw [e]
        unfold dbl
        split <;> omega
  obtain ⟨n, hn⟩ := hex
  exact key n hn
theorem parts_exist {s : Bool} {r0 : Nat} (h : 0 < r0) (hr : r0 < 9218868437227405312) : ∃ r n, PartRel s r0 r n ∧ 4602678819172646912 ≤ r ∧ r < 4607182418800017408 := by
  by_cases hb : r0 < 4602678819172646912
  · obtain ⟨j, h1, h2⟩ := dblN_reach h hb
    exact ⟨dblN j r0, -(j : Int), .inr ⟨j, rfl, rfl⟩, h1, h2⟩
  · exact ⟨r0 - (r0 / 4503599627370496 - 1022) * 4503599627370496, ((r0 / 4503599627370496 - 1022 : Nat) : Int), .inl ⟨r0 / 4503599627370496 - 1022, rfl, by omega, by omega⟩, by omega, by omega⟩
theorem mval_up (k : Nat) {r : Nat} (h : 4503599627370496 ≤ r) : mval (r + k * 4503599627370496) = mval r * 2 ^ k := by
  rw [← dblN_big h, mval_dblN]
theorem clamp_id {n : Int} (h1 : -5000 ≤ n) (h2 : n ≤ 5000) : clampN n = n := by unfold clampN; split <;> split <;> omega
theorem sval_pos' {r : Nat} (h : r ≤ 9218868437227405312) : sval r = (mval r : Int) := by
  unfold sval; rw [sgn_rung (by omega), rung_pos h]; rfl
theorem mval_oneT : mval 4607182418800017408 = U := by decide +kernel
/-- THE PARTS: from a half to below one, and times their power the float. -/
theorem parts_back {f : Nat} (hl : f < 18446744073709551616) (hf : fin f = true) (h0 : rung f ≠ 0) :
    fin (partF f) = true ∧ flt (fabs (partF f)) 4602678819172646912 = false ∧ fle 4607182418800017408 (fabs (partF f)) = false ∧ scaleF (partF f) (clampN (partE f)) = f := by
  have hr := fin_rung hf
  obtain ⟨r, n, hp, h1, h2⟩ := parts_exist (s := sgn f) (Nat.pos_of_ne_zero h0) hr
  obtain ⟨e1', e2'⟩ := parts_end hl hf h0 hp h1 h2
  rw [e1', e2']
  have hle : r ≤ 9218868437227405312 := by omega
  have hfw : fin (wd (sgn f) r) = true := by unfold fin; rw [wd_rung hle]; simp; omega
  have hnw := wd_notN (s := sgn f) hle
  have hab : fabs (wd (sgn f) r) = r := by rw [fabs_of hnw, wd_rung hle]
  have hbd : -5000 ≤ n ∧ n ≤ 5000 := by
    rcases hp with ⟨k, rfl, hk, _⟩ | ⟨j, rfl, hj⟩
    · omega
    · have hm := mval_dblN j (rung f)
      rw [← hj] at hm
      have hlt := mval_lt h2
      rw [mval_oneT] at hlt
      have hpos := mval_pos (Nat.pos_of_ne_zero h0)
      have : 2 ^ j < 2 ^ e1 := by
        have h3 : 1 * 2 ^ j ≤ mval (rung f) * 2 ^ j := Nat.mul_le_mul_right _ hpos
        have hU : U = 2 ^ e1 := by unfold U; rfl
        rw [← hU]; omega
      have := (Nat.pow_lt_pow_iff_right (show 1 < 2 by decide)).1 this
      rw [e1_eq] at this
      omega
  refine ⟨hfw, ?_, ?_, ?_⟩
  · rw [hab, flt_eq, num_pos hle, sval_pos' hle, show sval 4602678819172646912 = (mval 4602678819172646912 : Int) by decide +kernel, show isN 4602678819172646912 = false by decide +kernel]
    have := mval_le_iff.2 h1
    simp; omega
  · rw [hab, fle_eq, num_pos hle]
    simp
    intro _
    rw [sval_pos' hle, show sval 4607182418800017408 = (mval 4607182418800017408 : Int) by decide +kernel]
    have := mval_lt h2
    omega
  · rw [clamp_id hbd.1 hbd.2, scale_val (wd_lt hle) hfw (by rw [wd_rung hle]; omega), wd_sgn hle, wd_rung hle]
    have : rndE (mval r) n = rung f := by
      rcases hp with ⟨k, rfl, hk, hk2⟩ | ⟨j, rfl, hj⟩
      · rw [rndE_nat, ← mval_up k (by omega), hk, rnd_mval hr]
      · rw [hj, mval_dblN, rndE_shift, show -(j : Int) + (j : Int) = ((0 : Nat) : Int) by omega, rndE_nat, Nat.pow_zero, Nat.mul_one, rnd_mval hr]
    rw [this]; exact wd_self hl
theorem mval_inf_lt : ∃ K, K = 2099 ∧ mval 9218868437227405312 ≤ 2 ^ K := ⟨2099, rfl, by decide +kernel⟩
/-- a rounded product by a power of two, where it is finite, is exact. -/
theorem rnd_shift_exact {m t : Nat} (hm : m < 9007199254740992) (h : rndN (m * 2 ^ t) < 9218868437227405312) : mval (rndN (m * 2 ^ t)) = m * 2 ^ t := by
  obtain ⟨s, q, hr, hv, hq, hs, h0, h1, n1, n2, n3⟩ := rnd_shape _ h
  rw [hv]
  refine n3 ?_
  by_cases hs0 : s = 0
  · subst hs0; exact Nat.one_dvd _
  · obtain ⟨_, b1, _⟩ := h1 (by omega)
    have hst : s ≤ t := by
      rcases Nat.lt_or_ge t s with c | c
      · exfalso
        have g : 2 ^ (t + 1) ≤ 2 ^ s := Nat.pow_le_pow_right (by decide) c
        have g2 : m * 2 ^ t < 9007199254740992 * 2 ^ t := Nat.mul_lt_mul_of_pos_right hm (Nat.two_pow_pos t)
        rw [Nat.pow_succ] at g
        omega
      · exact c
    exact Nat.dvd_trans (Nat.pow_dvd_pow 2 hst) (Nat.dvd_mul_left _ _)
/-- a float times a power of two, neither too great nor too small: exact, and the power was not cut. -/
theorem scale_exact {f : Nat} {n : Int} (hl : f < 18446744073709551616) (hf : fin f = true) (h0 : rung f ≠ 0) (hs : fin (scaleF f (clampN n)) = true) (hb : 4503599627370496 < rung (scaleF f (clampN n))) :
    (∀ j : Nat, n = j → sval (scaleF f (clampN n)) = sval f * ((2 ^ j : Nat) : Int)) ∧ (∀ j : Nat, n = -(j : Int) → sval (scaleF f (clampN n)) * ((2 ^ j : Nat) : Int) = sval f) ∧ -5000 ≤ n ∧ n ≤ 5000 := by
  obtain ⟨m, k, em, hm, hk, hk0⟩ := mval_form (fin_rung hf)
  rw [scale_val hl hf h0] at hs hb ⊢
  have hle := rndE_le (mval (rung f)) (clampN n)
  have hfr := fin_rung hs
  rw [wd_rung hle] at hb hfr
  have hm0 : m ≠ 0 := by
    rintro rfl
    rw [Nat.zero_mul] at em
    have := mval_pos (Nat.pos_of_ne_zero h0)
    omega
  obtain ⟨c, hc⟩ : ∃ c, clampN n = c := ⟨_, rfl⟩
  rw [hc] at hb hfr hle ⊢
  have hcb : -5000 ≤ c ∧ c ≤ 5000 := by rw [← hc]; unfold clampN; split <;> split <;> omega
  have ht : 0 ≤ (k : Int) + c := by
    rcases Int.lt_or_le ((k : Int) + c) 0 with g | g
    · exfalso
      obtain ⟨d, hd⟩ : ∃ d : Nat, (k : Int) + c = -(d : Int) := ⟨(-((k : Int) + c)).toNat, by omega⟩
      rw [em, rndE_shift, show c + (k : Int) = -(d : Int) by omega, rndE_neg] at hb
      have h2 : rndQ m d ≤ rndQ (4503599627370496 * 2 ^ d) d := rndQ_mono (by
        have : 2 ^ 1 ≤ 2 ^ d := Nat.pow_le_pow_right (by decide) (by omega)
        omega)
      rw [rndQ_cancel, show rndN 4503599627370496 = 4503599627370496 by decide +kernel] at h2
      omega
    · exact g
  obtain ⟨t, htt⟩ : ∃ t : Nat, (k : Int) + c = (t : Int) := ⟨((k : Int) + c).toNat, by omega⟩
  have hE : rndE (mval (rung f)) c = rndN (m * 2 ^ t) := by rw [em, rndE_shift, show c + (k : Int) = ((t : Nat) : Int) by omega, rndE_nat]
  rw [hE] at hfr hle ⊢
  have hex := rnd_shift_exact hm hfr
  have hcn : c = n := by
    have hbig : t < 2099 := by
      obtain ⟨K, hK, a2⟩ := mval_inf_lt
      rcases Nat.lt_or_ge t K with g | g
      · omega
      · exfalso
        have a1 := mval_lt hfr
        have a3 : 2 ^ K ≤ 2 ^ t := Nat.pow_le_pow_right (by decide) g
        have a4 : 1 * 2 ^ t ≤ m * 2 ^ t := Nat.mul_le_mul_right _ (Nat.pos_of_ne_zero hm0)
        rw [hex] at a1
        omega
    have h9 := hc
    unfold clampN at h9
    split at h9 <;> split at h9 <;> omega
  subst hcn
  have hv : sval (wd (sgn f) (rndN (m * 2 ^ t))) = if sgn f then -((m * 2 ^ t : Nat) : Int) else ((m * 2 ^ t : Nat) : Int) := by rw [wd_sval hle, hex]
  have hvf : sval f = if sgn f then -((m * 2 ^ k : Nat) : Int) else ((m * 2 ^ k : Nat) : Int) := by unfold sval; rw [em]
  refine ⟨fun j hj => ?_, fun j hj => ?_, hcb.1, hcb.2⟩
  · have e : m * 2 ^ t = m * 2 ^ k * 2 ^ j := by rw [Nat.mul_assoc, ← Nat.pow_add]; congr 2; omega
    rw [hv, hvf, e]
    generalize m * 2 ^ k = X
    generalize 2 ^ j = Y
    cases sgn f <;> simp [Int.natCast_mul, Int.neg_mul]
  · have e : m * 2 ^ k = m * 2 ^ t * 2 ^ j := by rw [Nat.mul_assoc, ← Nat.pow_add]; congr 2; omega
    rw [hv, hvf, e]
    generalize m * 2 ^ t = X
    generalize 2 ^ j = Y
    cases sgn f <;> simp [Int.natCast_mul, Int.neg_mul]
theorem scale_sgn {f : Nat} {n : Int} (hl : f < 18446744073709551616) (hf : fin f = true) (h0 : rung f ≠ 0) : sgn (scaleF f n) = sgn f ∧ isN (scaleF f n) = false ∧ scaleF f n < 18446744073709551616 := by
  rw [scale_val hl hf h0]
  exact ⟨wd_sgn (rndE_le _ _), wd_notN (rndE_le _ _), wd_lt (rndE_le _ _)⟩
theorem parts_none {f : Nat} (h : (fin f && !feq f 0) = false) : partF f = f ∧ partE f = 0 := parts_plain h
end Go.Proofs.Ytcfkhhnkboealaa
