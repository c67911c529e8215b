/- The program's logarithm of one and x, by value. No text of the program. -/
import Derived.Test.YtcfkhhnkboealaaDoorLf
namespace Go.Proofs.YtcfkhhnkboealaaDoor
open Go.RowKit
set_option linter.unusedVariables false
set_option linter.unusedSimpArgs false
set_option maxRecDepth 100000
set_option maxHeartbeats 4000000
open Turns Sizes
theorem gap_small {L : Nat} {l : Rat} (hL : V L l) (hl : ab l ≤ 900) : gapq (rung L) ≤ 1 / 1000000000 ∧ rung L + 17 < 9214364837600034816 := by
  have hr := fin_rung hL.fin
  have hs := hL.size
  have h1 : rung L ≤ 4652007308841189376 := by
    rcases Nat.lt_or_ge 4652007308841189376 (rung L) with q | q
    · exfalso
      have h3 := cast_le.2 (mval_le_iff.2 (Nat.le_of_lt q))
      have e7 := (vnum (w := 4652007308841189376) (k := 1000) (by decide) (by decide +kernel)).uniq (V.pos (by decide))
      have e8 : ((1000 : Nat) : Rat) = 1000 := by decide +kernel
      rw [hs, div_le UQ_pos] at hl
      rw [e8] at e7
      have e9 := div_self_mul (mval 4652007308841189376 : Rat) UQ_ne
      rw [← e7] at e9
      have := UQ_pos
      grind
    · exact q
  refine ⟨Rat.le_trans (gap_mono h1) ?_, by omega⟩
  rw [gap_pw, e1_eq]
  decide +kernel
theorem TT_26 : TT (26 / 100 : Rat) 60 ≤ 1298 / 1000 := by
  have h := tail_le' (show (0 : Rat) ≤ 26 / 100 by decide +kernel) (n := 5) (by decide +kernel) 55
  have h2 : TT (26 / 100 : Rat) 5 + 2 * ee (26 / 100 : Rat) 6 ≤ 1298 / 1000 := by decide +kernel
  rw [show 5 + 55 = 60 from rfl, show 5 + 1 = 6 from rfl] at h
  grind
/-- where the number is not near one, its logarithm is not near nought. -/
theorem mu_big {μ b η : Rat} (h : Rl (XX μ) b η) (h0 : 0 ≤ η) (h1 : η ≤ 1 / 1000) (hm : ab μ ≤ 1024) (hb : b ≤ 751 / 1000 ∨ 1374 / 1000 ≤ b) : 26 / 100 ≤ ab μ := by
  rcases (show 26 / 100 ≤ ab μ ∨ ab μ < 26 / 100 by grind) with q | q
  · exact q
  · exfalso
    have up : ∀ r : Rat, 0 ≤ r → r ≤ 26 / 100 → XX r ≤ 1299 / 1000 := by
      intro r r0 r1
      have k := (rl_pos (XX_TT (r := r) (by rw [ab_pos r0]; grind)) (by decide +kernel)).2.2
      have k2 := TT_arg r0 r1 60
      have t : tw 260 ≤ 1 / 100000 := by decide +kernel
      have k3 := TT_26
      have k4 := TT_one r0 60
      have k5 := Rat.mul_le_mul_of_nonneg_right t (show 0 ≤ TT r 60 by grind)
      grind
    obtain ⟨a1, a2⟩ := h
    have a1' := ab_le.1 a1
    have e1 := Rat.mul_le_mul_of_nonneg_right h1 (Rat.le_of_lt a2)
    have hadd := (XX_add (a := μ) (b := -μ) hm (by rw [ab_neg]; exact hm)).1
    rw [show μ + -μ = 0 by grind, XX_zero, Rat.mul_one] at hadd
    have t5 : tw 553 ≤ 1 / 100000 := by decide +kernel
    have hadd' := ab_le.1 hadd
    have q' := ab_of μ
    have p1 := XX_pos hm
    have p2 := XX_pos (a := -μ) (by rw [ab_neg]; exact hm)
    rcases (show 0 ≤ μ ∨ μ < 0 by grind) with s | s
    · have u1 := up μ s (by grind)
      have u2 := XX_ge s
      rcases hb with hb | hb <;> grind
    · have u1 := up (-μ) (by grind) (by grind)
      have u2 := XX_ge (a := -μ) (by grind)
      have m1 := Rat.mul_le_mul_of_nonneg_left u1 (Rat.le_of_lt p1)
      have m2 := Rat.mul_le_mul_of_nonneg_left (show 1 ≤ XX (-μ) by grind) (Rat.le_of_lt p1)
      rcases hb with hb | hb <;> grind
theorem Rl.shift {x b v η d : Rat} (h : Rl x b η) (h0 : 0 ≤ η) (h1 : η ≤ 1 / 1000) (hv : 0 < v) (hb : ab (b - v) ≤ d * v) (hd0 : 0 ≤ d) (hd : d ≤ 1 / 1000) : Rl x v (η + 1002 / 1000 * d) := by
  obtain ⟨a1, a2⟩ := h
  refine ⟨?_, hv⟩
  have t := ab_tri x b v
  have b' := ab_le.1 hb
  have k1 := Rat.mul_le_mul_of_nonneg_left (show b ≤ v + d * v by grind) h0
  have k2 := Rat.mul_le_mul_of_nonneg_right h1 (Rat.mul_nonneg hd0 (Rat.le_of_lt hv))
  grind
/-- 1 and x, as the program takes it. -/
theorem one_plus {f : Nat} {a : Rat} (hf : V f a) (ha : -1 < a) (h : a ≤ -(1 / 4) ∨ 375 / 1000 ≤ a) : ∃ b, V (fadd 4607182418800017408 f) b ∧ 0 < b ∧ ab (b - (1 + a)) ≤ 21 / 10 * uu * (1 + a) := by
  have huu : 0 < uu ∧ uu ≤ 1 / 1000000 := by decide +kernel
  have hB := BG_big
  have h1a : 0 < 1 + a := by grind
  rcases (show a ≤ 100000 ∨ 100000 < a by grind) with q | q
  · obtain ⟨b, hb, r⟩ := V.unit1.add hf (by rw [ab_pos (Rat.le_of_lt h1a)]; grind)
    rw [ab_pos (x := 1 + a) (Rat.le_of_lt h1a)] at r
    have k := Rat.mul_le_mul_of_nonneg_right huu.2 (Rat.le_of_lt h1a)
    have p := Rat.mul_pos huu.1 h1a
    have r' := (ab_le.1 r).1
    exact ⟨b, hb, by grind, by grind⟩
  · rcases Nat.lt_or_ge (f / 4503599627370496) 1077 with m | m
    · have hl := posW hf (show 0 < a by grind)
      have hm := mid_val hf hl (by omega)
      obtain ⟨b, hb, r⟩ := V.unit1.add hf (by rw [ab_pos (Rat.le_of_lt h1a)]; grind)
      rw [ab_pos (x := 1 + a) (Rat.le_of_lt h1a)] at r
      have k := Rat.mul_le_mul_of_nonneg_right huu.2 (Rat.le_of_lt h1a)
      have p := Rat.mul_pos huu.1 h1a
      have r' := (ab_le.1 r).1
      exact ⟨b, hb, by grind, by grind⟩
    · have hl := posW hf (show 0 < a by grind)
      obtain ⟨t1, t2, t3⟩ := add_top (d := 4607182418800017408) m hl (by decide)
      rw [fadd_comm]
      have big := great_val hf hl m
      have g := gap_normal hf (by grind) hl
      have ea := (posV hf hl).2.1
      rw [← ea] at t3
      have t3' := ab_le.1 t3
      have k := Rat.mul_le_mul_of_nonneg_right huu.2 (show 0 ≤ a by grind)
      have e : uu = 1 / 9007199254740992 := rfl
      have lo : a ≤ (mval (fadd f 4607182418800017408) : Rat) / (U : Rat) := by
        rw [ea, div_le UQ_pos, div_self_mul _ UQ_ne]
        exact cast_le.2 (mval_le_iff.2 t1)
      refine ⟨_, V.pos t2, by grind, ?_⟩
      generalize (mval (fadd f 4607182418800017408) : Rat) / (U : Rat) = b at *
      have k2 : 1 ≤ uu * a := by
        rw [e]; grind
      have g2 : 2 * uu * a = 2 * (uu * a) := by grind
      rw [g2] at g
      have g3 : 21 / 10 * uu * (1 + a) = 21 / 10 * uu + 21 / 10 * (uu * a) := by grind
      rw [g3, ab_le]
      generalize uu * a = P at *
      clear t3 t1 ea hB h ha
      constructor <;> grind
theorem V.two : V 4611686018427387904 2 := by
  have h := vnum (w := 4611686018427387904) (k := 2) (by decide) (by decide +kernel)
  have e : ((2 : Nat) : Rat) = 2 := by decide +kernel
  rwa [e] at h
theorem sval_rat {f : Nat} {a : Rat} (hf : V f a) {z : Int} {n d : Int} (hd : 0 < d) (hz : z * d = n * (U : Int)) : (z ≤ sval f → (n : Rat) / (d : Rat) ≤ a) ∧ (sval f ≤ z → a ≤ (n : Rat) / (d : Rat)) := by
  have e := hf.val
  unfold qv at e
  have hU := UQ_pos
  have hdq : (0 : Rat) < (d : Rat) := by
    have := cast_le'.2 (show (1 : Int) ≤ d by omega)
    have e1 : ((1 : Int) : Rat) = 1 := rfl
    grind
  have hq : (z : Rat) * (d : Rat) = (n : Rat) * (U : Rat) := by
    have : ((z * d : Int) : Rat) = ((n * (U : Int) : Int) : Rat) := by rw [hz]
    push_cast at this
    exact this
  have e2 := div_self_mul (sval f : Rat) UQ_ne
  rw [e] at e2
  constructor
  · intro h
    have h2 := cast_le'.2 h
    rw [div_le hdq]
    have m := Rat.mul_le_mul_of_nonneg_right h2 (Rat.le_of_lt hdq)
    rw [hq, ← e2] at m
    refine Rat.le_of_mul_le_mul_right (c := (U : Rat)) ?_ hU
    grind
  · intro h
    have h2 := cast_le'.2 h
    rw [le_div hdq]
    have m := Rat.mul_le_mul_of_nonneg_right h2 (Rat.le_of_lt hdq)
    rw [hq, ← e2] at m
    refine Rat.le_of_mul_le_mul_right (c := (U : Rat)) ?_ hU
    grind
theorem c25 : isN 13821547256400052224 = false ∧ isN 4600427019358961664 = false ∧ sval 13821547256400052224 * 4 = -1 * (U : Int) ∧ sval 4600427019358961664 * 8 = 3 * (U : Int) := by decide +kernel
theorem more_range {f : Nat} {a : Rat} (hf : V f a) (h : (fle 13821547256400052224 f && fle f 4600427019358961664) = true) : -(1 / 4) ≤ a ∧ a ≤ 375 / 1000 := by
  rw [fle_eq, fle_eq, c25.1, c25.2.1, fin_notN hf.fin] at h
  simp only [Bool.not_false, Bool.true_and, Bool.and_eq_true, decide_eq_true_eq] at h
  have h1 := (sval_rat hf (z := sval 13821547256400052224) (n := -1) (d := 4) (by decide) c25.2.2.1).1 h.1
  have h2 := (sval_rat hf (z := sval 4600427019358961664) (n := 3) (d := 8) (by decide) c25.2.2.2).2 h.2
  have e1 : ((-1 : Int) : Rat) / ((4 : Int) : Rat) = -(1 / 4) := by decide +kernel
  have e2 : ((3 : Int) : Rat) / ((8 : Int) : Rat) = 375 / 1000 := by decide +kernel
  rw [e1] at h1
  rw [e2] at h2
  exact ⟨h1, h2⟩
theorem more_out {f : Nat} {a : Rat} (hf : V f a) (h : ¬ (fle 13821547256400052224 f && fle f 4600427019358961664) = true) : a ≤ -(1 / 4) ∨ 375 / 1000 ≤ a := by
  rw [fle_eq, fle_eq, c25.1, c25.2.1, fin_notN hf.fin] at h
  simp only [Bool.not_false, Bool.true_and, Bool.and_eq_true, decide_eq_true_eq] at h
  have e1 : ((-1 : Int) : Rat) / ((4 : Int) : Rat) = -(1 / 4) := by decide +kernel
  have e2 : ((3 : Int) : Rat) / ((8 : Int) : Rat) = 375 / 1000 := by decide +kernel
  rcases Int.lt_or_le (sval f) (sval 13821547256400052224) with q | q
  · left
    rw [← e1]
    exact (sval_rat hf (z := sval 13821547256400052224) (n := -1) (d := 4) (by decide) c25.2.2.1).2 (Int.le_of_lt q)
  · right
    rw [← e2]
    rcases Int.lt_or_le (sval 4600427019358961664) (sval f) with r | r
    · exact (sval_rat hf (z := sval 4600427019358961664) (n := 3) (d := 8) (by decide) c25.2.2.2).1 (Int.le_of_lt r)
    · exact absurd ⟨q, r⟩ h
/-- LOGARITHM OF ONE AND x beside the true one. -/
theorem more_val {f : Nat} {a : Rat} (hf : V f a) (ha : -1 < a) (h0 : pw (-200) ≤ ab a) : ∃ m μ η, V (moreF f) m ∧ ab m ≤ 900 ∧ Rl (XX μ) (1 + a) η ∧ 0 ≤ η ∧ η ≤ 1 / 2000 ∧ ab μ ≤ 1000 ∧ ab (m - μ) + 2 * η ≤ 159 / 10 * gapq (rung (moreF f)) ∧ pw (-202) ≤ ab m := by
  have huu : 0 < uu ∧ uu ≤ 1 / 100000000 := by decide +kernel
  have hB := BG_big
  have h1a : 0 < 1 + a := by grind
  by_cases hc : (fle 13821547256400052224 f && fle f 4600427019358961664) = true
  · have hmf : moreF f = oddF (fdiv f (fadd 4611686018427387904 f)) := by unfold moreF; rw [hc, if_pos rfl]
    have hr : -(1 / 4) ≤ a ∧ a ≤ 375 / 1000 := more_range hf hc
    rw [hmf]
    have h2a : 1 ≤ 2 + a := by grind
    obtain ⟨d, hd, r1⟩ := V.two.add hf (by rw [ab_pos (by grind)]; grind)
    have r1' := r1
    rw [ab_pos (x := 2 + a) (by grind)] at r1'
    have k1 := Rat.mul_le_mul_of_nonneg_right huu.2 (show 0 ≤ 2 + a by grind)
    have d1 := (ab_le.1 r1').1
    have d0 : 1 ≤ d := by grind
    have an : ab a ≤ 1 := by rw [ab_le]; constructor <;> grind
    have md : 2 * ab (a / d) ≤ BG := by
      rw [ab_div, ab_pos (show 0 ≤ d by grind)]
      have : ab a / d ≤ 1 := by rw [div_le (by grind)]; grind
      grind
    obtain ⟨q, hqv, r2⟩ := hf.div hd (by grind) md
    obtain ⟨u, hu⟩ : ∃ u, u = a / (2 + a) := ⟨_, rfl⟩
    have hua : u * (2 + a) = a := by rw [hu]; exact div_self_mul _ (by grind)
    have un := ab_nn u
    have uma : ab u * (2 + a) = ab a := by rw [← ab_pos (show 0 ≤ 2 + a by grind), ← ab_mul, hua]
    have u1 : ab u ≤ 16 / 100 := by
      refine ab_le.2 ⟨?_, ?_⟩
      · rw [hu, le_div (by grind)]; grind
      · rw [hu, div_le (by grind)]; grind
    have u2 : pw (-202) ≤ ab u := by
      have k := Rat.mul_le_mul_of_nonneg_left (show 2 + a ≤ 4 by grind) un
      have p : 4 * pw (-202) ≤ pw (-200) := by decide +kernel
      grind
    have het : et ≤ 1 / 100000 * (uu * ab (a / (2 + a))) := by
      rw [← hu]
      have e5 := et_500
      have p : pw (-500) ≤ pw (-202) := pw_mono (by decide)
      have := Rat.mul_le_mul_of_nonneg_left (Rat.le_trans p u2) (Rat.le_of_lt huu.1)
      have := Rat.mul_nonneg (Rat.le_of_lt huu.1) un
      grind
    have r3 := quot_near (show 1 / 2 ≤ 2 + a by grind) r1 r2 het
    rw [← hu] at r3
    have p249 : pw (-249) ≤ pw (-202) := pw_mono (by decide)
    obtain ⟨o, ho, r4⟩ := odd_near hqv (by grind) (Rat.le_trans p249 u2) r3
    have e1a : (1 + u) / (1 - u) = 1 + a := by
      have u1' := ab_le.1 u1
      have e1 : (1 - u) * (1 + a) = 1 + u := by grind
      have e2 : 1 - u ≠ 0 := by grind
      rw [← e1]
      grind
    have hcore := log_core (u := u) (by grind)
    rw [e1a] at hcore
    have hA := AT_hq u
    have uu2 : u * u = ab u * ab u := by
      rcases (show 0 ≤ u ∨ u < 0 by grind) with q | q
      · rw [ab_pos q]
      · have : ab u = -u := by unfold ab; grind
        rw [this]; grind
    have s1 : u * u ≤ 296 / 10000 := by rw [uu2]; have := mul_mono un u1 un u1; grind
    have s0 : 0 ≤ u * u := by rw [uu2]; exact Rat.mul_nonneg un un
    obtain ⟨g0, g1⟩ := hq_size s0 s1 11 (by omega)
    obtain ⟨g, hg⟩ : ∃ g, g = hq (u * u) 11 := ⟨_, rfl⟩
    rw [← hg] at g0 g1 hA
    have sg := mul_mono s0 s1 g0 g1
    have sg0 := Rat.mul_nonneg s0 g0
    have A1 : 2 * ab u ≤ ab (2 * AT u 13) ∧ ab (2 * AT u 13) ≤ 21 / 10 * ab u := by
      rw [hA, show 2 * (u * (1 + u * u * g)) = u * (2 * (1 + u * u * g)) by grind, ab_mul, ab_pos (show 0 ≤ 2 * (1 + u * u * g) by grind)]
      have a1 := Rat.mul_le_mul_of_nonneg_left (show 2 ≤ 2 * (1 + u * u * g) by grind) un
      have a2 := Rat.mul_le_mul_of_nonneg_left (show 2 * (1 + u * u * g) ≤ 21 / 10 by grind) un
      constructor <;> grind
    clear hA sg sg0 g0 g1 s0 s1 uu2 hg
    have o1 := ab_tri o (2 * AT u 13) 0
    rw [show o - 0 = o by grind, show 2 * AT u 13 - 0 = 2 * AT u 13 by grind] at o1
    have o2 := ab_tri (2 * AT u 13) o 0
    rw [show o - 0 = o by grind, show 2 * AT u 13 - 0 = 2 * AT u 13 by grind, ab_comm (2 * AT u 13) o] at o2
    have kk := Rat.mul_le_mul_of_nonneg_right huu.2 un
    have p := Rat.mul_nonneg (Rat.le_of_lt huu.1) un
    have pn0 := Rat.mul_nonneg un (pn_nn un 26)
    have p1 : pn (ab u) 26 ≤ pn (16 / 100) 26 := pn_mono un u1 26
    have m := Rat.mul_le_mul_of_nonneg_left p1 un
    have e7 : 12 * pn (16 / 100) 26 ≤ 2 / 1000 * uu := by decide +kernel
    have m2 := Rat.mul_le_mul_of_nonneg_left e7 un
    have t266 := tw_pos 266
    have e8 : tw 266 ≤ 1 / 1000 * (uu * pw (-202)) := by decide +kernel
    have m3 := Rat.mul_le_mul_of_nonneg_left u2 (Rat.le_of_lt huu.1)
    have hgap := (gap_any ho).1
    have o3 : 2 * ab u - 313 / 100 * (uu * (2 * ab u)) ≤ ab o := by grind
    have m4 := Rat.mul_le_mul_of_nonneg_left o3 (Rat.le_of_lt huu.1)
    have m5 := Rat.mul_le_mul_of_nonneg_left kk (Rat.le_of_lt huu.1)
    have p202 := pw_pos (-202)
    have e9 : uu * (2 * ab u - 313 / 100 * (uu * (2 * ab u))) = 2 * (uu * ab u) - 626 / 100 * (uu * (uu * ab u)) := by grind
    have e10 : uu * (1 / 100000000 * ab u) = 1 / 100000000 * (uu * ab u) := by grind
    have e11 : ab u * (12 * pn (16 / 100) 26) = 12 * (ab u * pn (16 / 100) 26) := by grind
    have e12 : ab u * (2 / 1000 * uu) = 2 / 1000 * (uu * ab u) := by grind
    have e13 : uu * (2 * ab u) = 2 * (uu * ab u) := by grind
    rw [e9] at m4
    rw [e10] at m5
    rw [e11, e12] at m2
    rw [e13] at r4 o3
    refine ⟨o, 2 * AT u 13, tw 266 + 12 * (ab u * pn (ab u) 26), ho, ?_, hcore, ?_, ?_, ?_, ?_, ?_⟩
    all_goals
      clear hcore hf hd hqv r1 r2 r3 r1' het md hmf hc e9 e10 e11 e12 e13 e7
    all_goals
      generalize uu * (uu * ab u) = Q at *
      generalize uu * ab u = P at *
      generalize ab u * pn (ab u) 26 = R at *
      generalize ab u * pn (16 / 100) 26 = R2 at *
      generalize gapq (rung (oddF (fdiv f (fadd 4611686018427387904 f)))) = G at *
      grind
  · have hmf : moreF f = logF (fadd 4607182418800017408 f) := by unfold moreF; rw [if_neg hc]
    have hr := more_out hf hc
    obtain ⟨b, hb, b0, b1⟩ := one_plus hf ha hr
    obtain ⟨l, μ, η, hl, l1, l2, l3, l4, l5, l6, l7⟩ := log_val hb b0
    rw [hmf]
    have hb2 : b ≤ 751 / 1000 ∨ 1374 / 1000 ≤ b := by
      have b1' := ab_le.1 b1
      have e : 21 / 10 * uu * (1 + a) = 21 / 10 * (uu * (1 + a)) := by grind
      rw [e] at b1'
      have k := Rat.mul_le_mul_of_nonneg_right huu.2 (Rat.le_of_lt h1a)
      rcases hr with hr | hr
      · left; grind
      · right; grind
    have mb := mu_big l2 l3 l4 (Rat.le_trans l5 (by decide +kernel)) hb2
    obtain ⟨gs, _⟩ := gap_small hl l1
    have hg := gap_pos (rung (logF (fadd 4607182418800017408 f)))
    have lb : 1 / 4 ≤ ab l := by
      have := ab_tri μ l 0
      rw [show μ - 0 = μ by grind, show l - 0 = l by grind, ab_comm μ l] at this
      grind
    have g2 := (gap_any hl).2.1 lb
    have hsh := l2.shift l3 l4 h1a (d := 21 / 10 * uu) b1 (by decide +kernel) (by decide +kernel)
    have η2 : η ≤ 1 / 10000 := by
      have := ab_nn (l - μ)
      grind
    refine ⟨l, μ, η + 1002 / 1000 * (21 / 10 * uu), hl, l1, hsh, by grind, by grind, Rat.le_trans l5 (by decide +kernel), by grind, Rat.le_trans (by decide +kernel) lb⟩
end Go.Proofs.YtcfkhhnkboealaaDoor
