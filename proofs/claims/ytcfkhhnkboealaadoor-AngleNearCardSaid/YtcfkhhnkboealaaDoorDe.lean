/- The wrapped angle by value: a float less whole circles. No text of the program. -/
import Derived.Test.YtcfkhhnkboealaaDoorCij
namespace Go.Proofs.YtcfkhhnkboealaaDoor
open Go.RowKit
set_option linter.unusedVariables false
set_option linter.unusedSimpArgs false
set_option maxRecDepth 100000
set_option maxHeartbeats 4000000
open Turns Sizes
open Cs (cnr)
theorem flt_val {f g : Nat} {a b : Rat} (hf : V f a) (hg : V g b) : flt f g = decide (a < b) := by
  by_cases h : a < b
  · rw [decide_eq_true h]; exact flt_vals hf hg h
  · rw [decide_eq_false h]
    rw [flt_eq, fin_notN hf.fin, fin_notN hg.fin]
    have := (sval_vals hg hf).1 (by grind)
    simp; omega
theorem fle_val {f g : Nat} {a b : Rat} (hf : V f a) (hg : V g b) : fle f g = decide (a ≤ b) := by
  by_cases h : a ≤ b
  · rw [decide_eq_true h]; exact fle_vals hf hg h
  · rw [decide_eq_false h]
    rw [fle_eq, fin_notN hf.fin, fin_notN hg.fin]
    have := (sval_vals hg hf).2 (by grind)
    simp; omega
def piHi : Rat := ((884279719003555 : Nat) : Rat) / ((281474976710656 : Nat) : Rat)
def piLo : Rat := 4 * L4
theorem pi_parts : piHi + piLo = 2 * hp ∧ piHi = 4 * H4 ∧ 3141592 / 1000000 ≤ piHi ∧ piHi ≤ 3141593 / 1000000 ∧ 11 / 10 * uu ≤ piLo ∧ piLo ≤ 111 / 100 * uu := by decide +kernel
theorem V.PH : V 4614256656552045848 piHi := vfrac (by decide) (by decide) (by decide +kernel)
theorem V.NH : V 13837628693406821656 (-piHi) := by
  have h := V.PH.neg
  have e : fneg 4614256656552045848 = 13837628693406821656 := by decide +kernel
  rwa [e] at h
theorem V.C2H : V 4618760256179416344 (2 * piHi) := by
  have h := vfrac (w := 4618760256179416344) (N := 884279719003555) (D := 140737488355328) (by decide) (by decide) (by decide +kernel)
  have e : ((884279719003555 : Nat) : Rat) / ((140737488355328 : Nat) : Rat) = 2 * Proofs.YtcfkhhnkboealaaDoor.piHi := by decide +kernel
  rwa [e] at h
theorem V.C2L : V 4373459396149402631 (2 * piLo) := by
  have h := vfrac (w := 4373459396149402631) (N := 4967757600021511) (D := 20282409603651670423947251286016) (by decide) (by decide) (by decide +kernel)
  have e : ((4967757600021511 : Nat) : Rat) / ((20282409603651670423947251286016 : Nat) : Rat) = 2 * piLo := by decide +kernel
  rwa [e] at h
def Q0 : Rat := ((1686629713 : Nat) : Rat) / ((268435456 : Nat) : Rat)
def Q1 : Rat := ((2242054355 : Nat) : Rat) / ((9223372036854775808 : Nat) : Rat)
def Q2 : Rat := ((160220439 : Nat) : Rat) / ((19807040628566084398385987584 : Nat) : Rat)
theorem Q_sum : ab (4 * hp - (Q0 + Q1 + Q2)) ≤ tw 101 ∧ 0 ≤ Q0 ∧ Q0 ≤ 6284 / 1000 ∧ 0 ≤ Q1 ∧ Q1 ≤ 1 / 2500000000 ∧ 0 ≤ Q2 ∧ Q2 ≤ 1 / 2500000000 := by decide +kernel
theorem V.Q0 : V 4618760256179142656 Q0 ∧ ∃ K, mval (rung 4618760256179142656) = 1686629713 * 2 ^ K := by
  refine ⟨vfrac (by decide) (by decide) (by decide +kernel), ?_⟩
  exact ⟨1046, by decide +kernel⟩
theorem V.Q1 : V 4463265559871488000 Q1 ∧ ∃ K, mval (rung 4463265559871488000) = 2242054355 * 2 ^ K := by
  refine ⟨vfrac (by decide) (by decide) (by decide +kernel), ?_⟩
  exact ⟨1011, by decide +kernel⟩
theorem V.Q2 : V 4306313749964259328 Q2 ∧ ∃ K, mval (rung 4306313749964259328) = 160220439 * 2 ^ K := by
  refine ⟨vfrac (by decide) (by decide) (by decide +kernel), ?_⟩
  exact ⟨980, by decide +kernel⟩
theorem four_piece : fmul 4616189618054758400 (piece 0) = 4618760256179142656 ∧ fmul 4616189618054758400 (piece 1) = 4463265559871488000 ∧ fmul 4616189618054758400 (piece 2) = 4306313749964259328 := by decide +kernel
/-- a difference, taken thrice. -/
theorem wrap_err {a N r1 r2 r3 : Rat} (hN : ab N ≤ 170000) (ha : ab (a - N * (4 * hp)) ≤ 31417 / 10000) (h1 : ab (r1 - (a - N * Q0)) ≤ uu * ab (a - N * Q0)) (h2 : ab (r2 - (r1 - N * Q1)) ≤ uu * ab (r1 - N * Q1)) (h3 : ab (r3 - (r2 - N * Q2)) ≤ uu * ab (r2 - N * Q2)) : ab (r3 - (a - N * (4 * hp))) ≤ 9431 / 1000 * uu := by
  have hu : 0 < uu ∧ uu ≤ 1 / 1000000000 := by decide +kernel
  obtain ⟨p, p0, p0', p1, p1', p2, p2'⟩ := Q_sum
  have t : 170000 * tw 101 ≤ 1 / 10000 * uu := by decide +kernel
  obtain ⟨q, hq⟩ : ∃ q, q = 4 * hp - (Q0 + Q1 + Q2) := ⟨_, rfl⟩
  rw [← hq] at p
  have n1 : ab (N * Q1) ≤ 7 / 100000 := by
    rw [ab_mul, ab_pos p1]
    have := mul_mono (ab_nn N) hN p1 p1'
    grind
  have n2 : ab (N * Q2) ≤ 7 / 100000 := by
    rw [ab_mul, ab_pos p2]
    have := mul_mono (ab_nn N) hN p2 p2'
    grind
  have nq : ab (N * q) ≤ 1 / 10000 * uu := by
    rw [ab_mul]
    have := mul_mono (ab_nn N) hN (ab_nn q) p
    exact Rat.le_trans this t
  have e : a - N * (4 * hp) = a - N * Q0 - N * Q1 - N * Q2 - N * q := by rw [hq]; grind
  rw [e] at ha ⊢
  generalize N * Q0 = A0 at *
  generalize N * Q1 = A1 at *
  generalize N * Q2 = A2 at *
  generalize N * q = A3 at *
  clear hN e hq p p0 p0' p1 p1' p2 p2' t
  have b1 : ab (a - A0) ≤ 31420 / 10000 := by
    have x := ab_add (a - A0 - A1 - A2 - A3) (A1 + A2 + A3)
    rw [show a - A0 - A1 - A2 - A3 + (A1 + A2 + A3) = a - A0 by grind] at x
    have y := ab_add (A1 + A2) A3
    have z := ab_add A1 A2
    grind
  have k1 := Rat.mul_le_mul_of_nonneg_left b1 (Rat.le_of_lt hu.1)
  have c1 : ab (r1 - A1) ≤ 31425 / 10000 := by
    have x := ab_add (r1 - (a - A0)) (a - A0 - A1)
    rw [show r1 - (a - A0) + (a - A0 - A1) = r1 - A1 by grind] at x
    have y := ab_sub (a - A0) A1
    grind
  have k2 := Rat.mul_le_mul_of_nonneg_left c1 (Rat.le_of_lt hu.1)
  have c2 : ab (r2 - A2) ≤ 31430 / 10000 := by
    have x := ab_add (r2 - (r1 - A1)) (r1 - A1 - A2)
    rw [show r2 - (r1 - A1) + (r1 - A1 - A2) = r2 - A2 by grind] at x
    have y := ab_sub (r1 - A1) A2
    grind
  have k3 := Rat.mul_le_mul_of_nonneg_left c2 (Rat.le_of_lt hu.1)
  have x1 := ab_add (r3 - (r2 - A2)) (r2 - (r1 - A1))
  have x2 := ab_add (r3 - (r2 - A2) + (r2 - (r1 - A1))) (r1 - (a - A0))
  have x3 := ab_add (r3 - (r2 - A2) + (r2 - (r1 - A1)) + (r1 - (a - A0))) A3
  rw [show r3 - (r2 - A2) + (r2 - (r1 - A1)) + (r1 - (a - A0)) + A3 = r3 - (a - A0 - A1 - A2 - A3) by grind] at x3
  grind
def cW : Rat := ((5734161139222659 : Nat) : Rat) / ((36028797018963968 : Nat) : Rat)
theorem V.cW : V 4594902181429758083 cW := vfrac (by decide) (by decide) (by decide +kernel)
theorem cW_hp : ab (1 - cW * (4 * hp)) ≤ 2 * uu ∧ 0 ≤ cW ∧ cW ≤ 160 / 1000 ∧ 0 ≤ 4 * hp ∧ 4 * hp ≤ 628319 / 100000 := by decide +kernel
theorem wrap_far {a p N : Rat} (ha : ab a ≤ 1048576) (hp1 : ab (p - a * cW) ≤ uu * ab (a * cW) + et) (hn : ab (p - N) ≤ 1 / 2) : ab (a - N * (4 * hp)) ≤ 31417 / 10000 ∧ ab N ≤ 170000 ∧ ab p ≤ 170000 := by
  have hu : 0 < uu ∧ uu ≤ 1 / 1000000000000000 := by decide +kernel
  have het := et_uu
  obtain ⟨c1, c2, c3, h0, h3⟩ := cW_hp
  have ac : ab (a * cW) ≤ 168000 := by
    rw [ab_mul, ab_pos c2]
    have := mul_mono (ab_nn a) ha c2 c3
    grind
  have k := Rat.mul_le_mul_of_nonneg_left ac (Rat.le_of_lt hu.1)
  have pe : ab (p - a * cW) ≤ 1 / 1000000000 := by grind
  have e : a - N * (4 * hp) = ((a * cW - p) + (p - N)) * (4 * hp) + a * (1 - cW * (4 * hp)) := by grind
  have a1 := ab_add (a * cW - p) (p - N)
  rw [ab_comm (a * cW) p] at a1
  have b1 : ab (((a * cW - p) + (p - N)) * (4 * hp)) ≤ (1 / 1000000000 + 1 / 2) * (628319 / 100000) := by
    rw [ab_mul, ab_pos h0]
    exact mul_mono (ab_nn _) (by grind) h0 h3
  have b2 : ab (a * (1 - cW * (4 * hp))) ≤ 1048576 * (2 * uu) := by
    rw [ab_mul]
    exact mul_mono (ab_nn a) ha (ab_nn _) c1
  refine ⟨?_, ?_, ?_⟩
  · rw [e]
    have := ab_add (((a * cW - p) + (p - N)) * (4 * hp)) (a * (1 - cW * (4 * hp)))
    clear e
    grind
  · have x1 := ab_sub p (p - N)
    rw [show p - (p - N) = N by grind] at x1
    have x2 := ab_add (p - a * cW) (a * cW)
    rw [show p - a * cW + a * cW = p by grind] at x2
    grind
  · have x2 := ab_add (p - a * cW) (a * cW)
    rw [show p - a * cW + a * cW = p by grind] at x2
    grind
theorem int_small {n : Int} (h : ab (n : Rat) ≤ 170000) : n.natAbs ≤ 170000 := by
  have z2' := ab_le.1 h
  have h1 : ((-170000 : Int) : Rat) ≤ (n : Rat) := by
    have e : ((-170000 : Int) : Rat) = -170000 := by decide +kernel
    rw [e]; exact z2'.1
  have h2 : (n : Rat) ≤ ((170000 : Int) : Rat) := by
    have e : ((170000 : Int) : Rat) = 170000 := by decide +kernel
    rw [e]; exact z2'.2
  have := cast_le'.1 h1
  have := cast_le'.1 h2
  omega
/-- the rest of whole circles, ahead of what sets it right. -/
theorem wrapY_val {f : Nat} {a : Rat} (hf : V f a) (ha : ab a ≤ 1048576) : ∃ (n : Int) (y : Rat), V (wrapY f) y ∧ ab (y - (a - (n : Rat) * (4 * hp))) ≤ 9431 / 1000 * uu ∧ ab (a - (n : Rat) * (4 * hp)) ≤ 31417 / 10000 ∧ ab (n : Rat) ≤ 170000 := by
  have hB := BG_big
  have hu : 0 < uu ∧ uu ≤ 1 / 1000000000000000 := by decide +kernel
  obtain ⟨c1, c2, c3, _, _⟩ := cW_hp
  have ac : ab (a * cW) ≤ 168000 := by
    rw [ab_mul, ab_pos c2]
    have := mul_mono (ab_nn a) ha c2 c3
    grind
  obtain ⟨p, hp1, r1⟩ := hf.mul V.cW (Rat.le_trans ac (Rat.le_trans (by decide +kernel) hB))
  have pb : ab p ≤ 1125899906842624 := Rat.le_trans (wrap_far (N := p) ha r1 (by rw [show p - p = 0 by grind, show ab (0 : Rat) = 0 by decide +kernel]; decide +kernel)).2.2 (by decide +kernel)
  obtain ⟨n, hn, w1, w2⟩ := hp1.whole pb
  obtain ⟨z1, z2, z3⟩ := wrap_far ha r1 w2
  have hM : V (wrapM f) (n : Rat) := hn
  refine ⟨n, ?_⟩
  have nb := int_small z2
  obtain ⟨v0, K0, k0⟩ := V.Q0
  obtain ⟨v1, K1, k1⟩ := V.Q1
  obtain ⟨v2, K2, k2⟩ := V.Q2
  obtain ⟨_, p0, p0', p1, p1', p2, p2'⟩ := Q_sum
  have nbnd : ∀ q : Rat, 0 ≤ q → q ≤ 6284 / 1000 → ab ((n : Rat) * q) ≤ 2000000 := by
    intro q q0 q1
    rw [ab_mul, ab_pos q0]
    exact Rat.le_trans (mul_mono (ab_nn _) z2 q0 q1) (by decide +kernel)
  have B2 : (100000000 : Rat) ≤ BG := Rat.le_trans (by decide +kernel) hB
  have m0 := V.mul_whole hM v0 k0 (by omega) (Rat.le_trans (nbnd Q0 p0 p0') (Rat.le_trans (by decide +kernel) hB))
  have m1 := V.mul_whole hM v1 k1 (by omega) (Rat.le_trans (nbnd Q1 p1 (Rat.le_trans p1' (by decide +kernel))) (Rat.le_trans (by decide +kernel) hB))
  have m2 := V.mul_whole hM v2 k2 (by omega) (Rat.le_trans (nbnd Q2 p2 (Rat.le_trans p2' (by decide +kernel))) (Rat.le_trans (by decide +kernel) hB))
  have n0 := nbnd Q0 p0 p0'
  have n1 := nbnd Q1 p1 (Rat.le_trans p1' (by decide +kernel))
  have n2 := nbnd Q2 p2 (Rat.le_trans p2' (by decide +kernel))
  have sub : ∀ {F G : Nat} {x y : Rat}, V F x → V G y → ab x ≤ 10000000 → ab y ≤ 2000000 → ∃ r, V (fsub F G) r ∧ ab (r - (x - y)) ≤ uu * ab (x - y) ∧ ab r ≤ ab x + ab y + 1 := by
    intro F G x y hF hG hx hy
    have b := ab_sub x y
    obtain ⟨r, hr, r1⟩ := hF.sub hG (by grind)
    refine ⟨r, hr, r1, ?_⟩
    have x1 := ab_add (r - (x - y)) (x - y)
    rw [show r - (x - y) + (x - y) = r by grind] at x1
    have k := Rat.mul_le_mul_of_nonneg_left (show ab (x - y) ≤ 12000000 by grind) (Rat.le_of_lt hu.1)
    grind
  have e : wrapY f = fsub (fsub (fsub f (fmul (wrapM f) 4618760256179142656)) (fmul (wrapM f) 4463265559871488000)) (fmul (wrapM f) 4306313749964259328) := by
    show fsub (fsub (fsub f (fmul (wrapM f) (fmul 4616189618054758400 (piece 0)))) (fmul (wrapM f) (fmul 4616189618054758400 (piece 1)))) (fmul (wrapM f) (fmul 4616189618054758400 (piece 2))) = _
    rw [four_piece.1, four_piece.2.1, four_piece.2.2]
  rw [e]
  generalize (n : Rat) = N at *
  obtain ⟨r, hr, q1, q2⟩ := sub hf m0 (Rat.le_trans ha (by decide +kernel)) n0
  obtain ⟨s, hs, q3, q4⟩ := sub hr m1 (by grind) n1
  obtain ⟨t, ht, q5, q6⟩ := sub hs m2 (by grind) n2
  exact ⟨t, ht, wrap_err z2 z1 q1 q3 q5, z1, z2⟩
/-- a whole circle less is exact. -/
theorem minus_core {M : Nat} {m : Rat} (hM : V M m) (h1 : piHi ≤ m) (h2 : m < 4) : rndN (sval M - sval 4618760256179416344).natAbs < 9218868437227405312 ∧ mval (rndN (sval M - sval 4618760256179416344).natAbs) = (sval M - sval 4618760256179416344).natAbs := by
  have hb := pi_parts.2.2.1
  have hl := posW hM (show 0 < m by grind)
  have ev := (posV hM hl).2.1
  have v4 := vfrac (w := 4616189618054758400) (N := 4) (D := 1) (by decide) (by decide) (by decide +kernel)
  have e4 : ((4 : Nat) : Rat) / ((1 : Nat) : Rat) = 4 := by decide +kernel
  rw [e4] at v4
  have hw : M < 4616189618054758400 := by
    rcases Nat.lt_or_ge M 4616189618054758400 with q | q
    · exact q
    · exfalso
      have e := v4.uniq (V.pos (by decide))
      have m1 := cast_le.2 (mval_le_iff.2 q)
      rw [ev] at h2
      have : (mval 4616189618054758400 : Rat) / (U : Rat) ≤ (mval M : Rat) / (U : Rat) := (div_le UQ_pos).2 (by rw [div_self_mul _ UQ_ne]; exact m1)
      rw [← e] at this
      grind
  have hlo : 4614256656552045848 ≤ M := by
    rcases Nat.lt_or_ge M 4614256656552045848 with q | q
    · exfalso
      have e := V.PH.uniq (V.pos (by decide))
      have m1 := mval_lt q
      have m2 : (mval M : Rat) < (mval 4614256656552045848 : Rat) := by exact_mod_cast m1
      rw [e, ev, div_le UQ_pos, div_self_mul _ UQ_ne] at h1
      grind
    · exact q
  obtain ⟨q, hq⟩ : ∃ q, q = M - 1023 * 4503599627370496 := ⟨_, rfl⟩
  have hr : M = 1023 * 4503599627370496 + q := by omega
  obtain ⟨L, hL⟩ : ∃ L, L = 1023 := ⟨_, rfl⟩
  have e0 : mval M = q * 2 ^ L := by rw [hr, ← hL]; exact mval_plc (by omega) (.inr (by omega))
  have e9 : mval 4618760256179416344 = 14148475504056880 * 2 ^ L := by rw [hL]; decide +kernel
  obtain ⟨a1, a2, a3, _, a5, _⟩ := word_facts hl
  obtain ⟨b1, b2, b3, _, b5, _⟩ := word_facts (r := 4618760256179416344) (by decide)
  have ez : sval M - sval 4618760256179416344 = ((q : Int) - 14148475504056880) * ((2 ^ L : Nat) : Int) := by
    rw [a5, b5, e0, e9]
    generalize 2 ^ L = Z
    rw [Int.natCast_mul, Int.natCast_mul, Int.sub_mul]; rfl
  have en : (sval M - sval 4618760256179416344).natAbs = (((q : Int) - 14148475504056880)).natAbs * 2 ^ L := by
    rw [ez, Int.natAbs_mul, Int.natAbs_natCast]
  have ex := rnd_exact (m := (((q : Int) - 14148475504056880)).natAbs) (k := L) (by omega) (by omega)
  rw [← en] at ex
  exact ex
theorem fin_2H : fin 4618760256179416344 = true := by decide +kernel
theorem minus_exact {M : Nat} {m : Rat} (hM : V M m) (h1 : piHi ≤ m) (h2 : m < 4) : V (fsub M 4618760256179416344) (m - 2 * piHi) := by
  have ex := minus_core hM h1 h2
  obtain ⟨c1, c2⟩ := fsub_exact hM.fin fin_2H (by decide) ex
  refine ⟨by rw [fsub_fin hM.fin fin_2H (by decide)]; exact (V.word (s := _) ex.1).lt, c1, ?_⟩
  have v1 := hM.val
  have v2 := V.C2H.val
  unfold qv at v1 v2 ⊢
  rw [c2, ← v1, ← v2, Rat.intCast_sub]
  have := UQ_ne
  grind
theorem plus_exact {M : Nat} {m : Rat} (hM : V M m) (h1 : m ≤ -piHi) (h2 : -4 < m) : V (fadd M 4618760256179416344) (m + 2 * piHi) := by
  have ex := minus_core hM.neg (by grind) (by grind)
  have hs : sval (fneg M) = -sval M := by
    have a := hM.neg.val
    have b := hM.val
    unfold qv at a b
    have hU := UQ_ne
    have d1 := div_self_mul (sval (fneg M) : Rat) hU
    have d2 := div_self_mul (sval M : Rat) hU
    rw [a] at d1
    rw [b] at d2
    have : ((sval (fneg M) : Int) : Rat) = ((-sval M : Int) : Rat) := by
      rw [Rat.intCast_neg, ← d1, ← d2]; grind
    exact_mod_cast this
  rw [hs, show -sval M - sval 4618760256179416344 = -(sval M + sval 4618760256179416344) by omega, Int.natAbs_neg] at ex
  obtain ⟨c1, c2⟩ := fadd_exact hM.fin fin_2H ex
  refine ⟨by rw [fadd_fin hM.fin fin_2H]; exact (V.word (s := _) ex.1).lt, c1, ?_⟩
  have v1 := hM.val
  have v2 := V.C2H.val
  unfold qv at v1 v2 ⊢
  rw [c2, ← v1, ← v2, Rat.intCast_add]
  have := UQ_ne
  grind
/-- THE WRAPPED ANGLE. -/
theorem wrap_val {f : Nat} {a : Rat} (hf : V f a) (ha : ab a ≤ 1048576) (hfit : fit f = true) : ∃ (k : Int) (w : Rat), V (wrapF f) w ∧ -piHi < w ∧ w ≤ piHi ∧ ab (w - (a - (k : Rat) * (4 * hp))) ≤ 15 * uu ∧ ab (k : Rat) ≤ 200000 := by
  have hu : 0 < uu ∧ uu ≤ 1 / 1000000000000000 := by decide +kernel
  have hB : (100 : Rat) ≤ BG := Rat.le_trans (by decide +kernel) BG_big
  obtain ⟨g1, g2, g3, g4, g5, g6⟩ := pi_parts
  unfold wrapF
  rw [hfit, if_pos rfl, flt_val V.NH hf, fle_val hf V.PH]
  by_cases c0 : -piHi < a ∧ a ≤ piHi
  · rw [decide_eq_true c0.1, decide_eq_true c0.2, if_pos (by decide)]
    refine ⟨0, a, hf, c0.1, c0.2, ?_, by decide +kernel⟩
    have e0 : ((0 : Int) : Rat) = 0 := rfl
    rw [e0, show a - (a - 0 * (4 * hp)) = 0 by grind, show ab (0 : Rat) = 0 by decide +kernel]
    grind
  · rw [if_neg (by
      intro h
      rw [Bool.and_eq_true, decide_eq_true_eq, decide_eq_true_eq] at h
      exact c0 h)]
    obtain ⟨n, y, hy, e1, e2, e3⟩ := wrapY_val hf ha
    have k1 : ((n + 1 : Int) : Rat) = (n : Rat) + 1 := by rw [Rat.intCast_add]; rfl
    have k2 : ((n - 1 : Int) : Rat) = (n : Rat) - 1 := by rw [Rat.intCast_sub]; rfl
    have m1 : a - ((n : Rat) + 1) * (4 * hp) = a - (n : Rat) * (4 * hp) - 2 * (piHi + piLo) := by rw [g1]; grind
    have m2 : a - ((n : Rat) - 1) * (4 * hp) = a - (n : Rat) * (4 * hp) + 2 * (piHi + piLo) := by rw [g1]; grind
    have b1 : ab ((n : Rat) + 1) ≤ 200000 := by
      have := ab_add (n : Rat) 1
      rw [show ab (1 : Rat) = 1 by decide +kernel] at this
      generalize (n : Rat) = N at *
      clear m1 m2 e1 e2
      grind
    have b2 : ab ((n : Rat) - 1) ≤ 200000 := by
      have := ab_sub (n : Rat) 1
      rw [show ab (1 : Rat) = 1 by decide +kernel] at this
      generalize (n : Rat) = N at *
      clear m1 m2 e1 e2
      grind
    have b0 : ab (n : Rat) ≤ 200000 := Rat.le_trans e3 (by decide +kernel)
    rw [← k1] at b1 m1
    rw [← k2] at b2 m2
    obtain ⟨X, hX⟩ : ∃ X, X = a - (n : Rat) * (4 * hp) := ⟨_, rfl⟩
    rw [← hX] at e1 e2 m1 m2
    have hX' := hX
    have e1' := ab_le.1 e1
    have e2' := ab_le.1 e2
    have wE : ∀ {Z : Nat} {z : Rat}, V Z z → (piHi < z ∨ z ≤ -piHi → wrapE Z = 4614256656552045848) ∧ (¬ piHi < z → ¬ z ≤ -piHi → wrapE Z = Z) := by
      intro Z z hz
      unfold wrapE
      rw [flt_val V.PH hz, fle_val hz V.NH]
      constructor
      · intro h
        refine if_pos ?_
        rcases h with h | h
        · rw [decide_eq_true h, Bool.true_or]
        · rw [decide_eq_true h, Bool.or_true]
      · intro h1 h2
        rw [decide_eq_false h1, decide_eq_false h2]
        exact if_neg (by decide)
    clear hX e1 e2 e3 k1 k2 c0 g1 g2
    by_cases c1 : piHi < y
    · have wZ : wrapZ (wrapY f) = wrapD (wrapY f) := by
        unfold wrapZ
        rw [flt_val V.PH hy, decide_eq_true c1]
        exact if_pos rfl
      rw [wZ]
      have z1 := minus_exact hy (by grind) (by grind)
      have zb : ab (y - 2 * piHi - 2 * piLo) ≤ 3142 / 1000 := by rw [ab_le]; constructor <;> grind
      obtain ⟨z, hz, r⟩ := z1.sub V.C2L (Rat.le_trans zb (by grind))
      have kz := Rat.mul_le_mul_of_nonneg_left zb (Rat.le_of_lt hu.1)
      have r' := ab_le.1 r
      have zn : ¬ piHi < z := by grind
      have hz' : V (wrapD (wrapY f)) z := hz
      by_cases c2 : z ≤ -piHi
      · rw [(wE hz').1 (.inr c2)]
        refine ⟨n, piHi, V.PH, by grind, Rat.le_refl, ?_, b0⟩
        rw [← hX', ab_le]
        constructor <;> grind
      · rw [(wE hz').2 zn c2]
        refine ⟨n + 1, z, hz', by grind, by grind, ?_, b1⟩
        rw [m1, ab_le]
        constructor <;> grind
    · by_cases c3 : y ≤ -piHi
      · have wZ : wrapZ (wrapY f) = wrapA (wrapY f) := by
          unfold wrapZ
          rw [flt_val V.PH hy, fle_val hy V.NH, decide_eq_false c1, decide_eq_true c3]
          exact (if_neg (by decide)).trans (if_pos rfl)
        rw [wZ]
        have z1 := plus_exact hy c3 (by grind)
        have zb : ab (y + 2 * piHi + 2 * piLo) ≤ 3142 / 1000 := by rw [ab_le]; constructor <;> grind
        obtain ⟨z, hz, r⟩ := z1.add V.C2L (Rat.le_trans zb (by grind))
        have kz := Rat.mul_le_mul_of_nonneg_left zb (Rat.le_of_lt hu.1)
        have r' := ab_le.1 r
        have zn : ¬ z ≤ -piHi := by grind
        have hz' : V (wrapA (wrapY f)) z := hz
        by_cases c2 : piHi < z
        · rw [(wE hz').1 (.inl c2)]
          refine ⟨n - 1, piHi, V.PH, by grind, Rat.le_refl, ?_, b2⟩
          rw [m2, ab_le]
          constructor <;> grind
        · rw [(wE hz').2 c2 zn]
          refine ⟨n - 1, z, hz', by grind, by grind, ?_, b2⟩
          rw [m2, ab_le]
          constructor <;> grind
      · have wZ : wrapZ (wrapY f) = wrapY f := by
          unfold wrapZ
          rw [flt_val V.PH hy, fle_val hy V.NH, decide_eq_false c1, decide_eq_false c3]
          exact (if_neg (by decide)).trans (if_neg (by decide))
        rw [wZ, (wE hy).2 c1 c3]
        refine ⟨n, y, hy, by grind, by grind, ?_, b0⟩
        rw [← hX', ab_le]
        constructor <;> grind
end Go.Proofs.YtcfkhhnkboealaaDoor
