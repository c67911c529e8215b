/- The exponential and the logarithm by value (plain parts, 2). No text of the program. -/
import Derived.Test.YtcfkhhnkboealaaEx1
namespace Go.Proofs.Ytcfkhhnkboealaa
open Go.RowKit
set_option linter.unusedVariables false
set_option linter.unusedSimpArgs false
set_option maxRecDepth 100000
set_option maxHeartbeats 4000000
open Turns Sizes
theorem et_mil : et ≤ 1 / 1000 := by
  have h := et_tau
  have : (1 : Rat) / 1606938044258990275541962092341162602522202993782792835301376 ≤ 1 / 1000 := by decide +kernel
  exact Rat.le_trans h this
theorem low_c {t p c : Rat} (h : t ≤ 1418 / 1000) (h0 : 0 ≤ t) (m1 : p ≤ 1 / 2) (h2 : ab (c - t * p) ≤ et) : c ≤ 72 / 100 := by
  have m4 := Rat.mul_le_mul_of_nonneg_left m1 h0
  have m5 := (ab_le.1 h2).2
  have m6 := et_mil
  grind
theorem high_c {t p : Rat} (h : 69 / 100 ≤ t) (m1 : 2 ≤ p) : 5 / 4 ≤ t * p := by
  have m4 := Rat.mul_le_mul_of_nonneg_left m1 (show 0 ≤ t by grind)
  grind
theorem no_up {a : Rat} {n : Int} (ha : a ≤ -700) (n6 : ab (a - (n : Rat) * L2) ≤ 3466 / 10000) (h : 1 ≤ n) : False := by
  have l0 : 0 ≤ L2 := by decide +kernel
  have c1 := cast_le'.2 h
  have c2 : ((1 : Int) : Rat) = 1 := by decide +kernel
  rw [c2] at c1
  have c3 := Rat.mul_le_mul_of_nonneg_right c1 l0
  have c4 := (ab_le.1 n6).1
  generalize (n : Rat) * L2 = Y at *
  grind
/-- what the law asks of an exponential. -/
def EL (e : Nat) (v : Rat) (n : Int) : Prop := (∃ c, V e c ∧ 0 ≤ c ∧ e < 9218868437227405312 ∧ 101 / 100 * ab (c - v) ≤ 4 * gapq (rung e) ∧ (1 ≤ n → 5 / 4 ≤ c) ∧ (n ≤ -1 → c ≤ 72 / 100)) ∨ (e = infP ∧ pw 1024 * (1 - 498 / 100 * uu) ≤ v)
theorem exp_law {f : Nat} {a v : Rat} (hf : V f a) (ha : ab a ≤ 750) (hv : Rl v (XX a) (tw 62)) : EL (expF f) v (wInt (expN f)) := by
  have ha' := ab_le.1 ha
  have hu := uu_pos
  unfold expF
  rw [fin_notN hf.fin, if_neg (by decide)]
  cases k1 : flt 4649454594685214392 f
  · rw [if_neg (by decide)]
    cases k2 : flt f 13873137573428325253
    · rw [if_neg (by decide)]
      obtain ⟨n, t, P, q1, q2, q3, q4, q5, q6, q7, q8, q9⟩ := exp_core hf (Rat.le_trans ha (by decide +kernel))
      rw [q1]
      have hvp : ab (v - pw n * P) ≤ 1 / 128 * uu * (pw n * P) := (rl_mono (rl_trans hv q6 (by decide +kernel)) (e := 1 / 128 * uu) (by decide +kernel)).1
      have hp := pw_pos n
      have us : uu ≤ 1 / 100000 := by decide +kernel
      have ht2 : ab (t - P) ≤ 5 / 100000 := by
        have := Rat.mul_le_mul_of_nonneg_right us (show 0 ≤ 1702 / 1000 * P + 158 / 100 by grind)
        grind
      have ht3 := ab_le.1 ht2
      rcases Int.lt_or_le n 0 with hn | hn
      · left
        have htp : 0 ≤ t * pw n := Rat.mul_nonneg (by grind) (Rat.le_of_lt hp)
        have hb : ab (t * pw n) ≤ BG := by
          rw [ab_pos htp, BG_pw']
          have m1 : pw n ≤ pw (-1) := pw_mono (by omega)
          have m2 : pw (-1) = 1 / 2 := by decide +kernel
          have m3 : (1 : Rat) ≤ pw (kBG : Int) := by
            have := pw_mono (a := 0) (b := (kBG : Int)) (by omega)
            rwa [pw_zero] at this
          have m4 := Rat.mul_le_mul_of_nonneg_right (show t ≤ 2 by grind) (Rat.le_of_lt hp)
          rw [m2] at m1
          refine Rat.le_trans m4 (Rat.le_trans ?_ m3)
          clear m3 m4
          grind
        obtain ⟨c, c1, c2, _, _, c3⟩ := V.scale q5 (n := n) (by omega) (by omega) hb
        have hfr := fin_rung c1.fin
        have hwT := posW q5 (by grind)
        have hw : scaleF (riseSeq (expR f) 13) (clampN n) < 9218868437227405312 := by
          have hz : rung (riseSeq (expR f) 13) ≠ 0 := q5.nz (by grind)
          have hsv := scale_val q5.lt q5.fin hz n
          rw [(word_facts hwT).2.1] at hsv
          obtain ⟨j, hj⟩ := Int.eq_ofNat_of_zero_le (a := -n) (by omega)
          obtain rfl : n = -(j : Int) := by omega
          rw [rndE_neg, wd_no, (word_facts hwT).2.2.1] at hsv
          have hq := rndQ_le (mval (riseSeq (expR f) 13)) j
          rw [clamp_id (by omega) (by omega)] at hfr ⊢
          rw [hsv] at hfr ⊢
          rwa [rung_pos (by omega)] at hfr
        have hr := (word_facts hw).2.2.1
        have hcv := c1.uniq (V.pos hw)
        have hc0 : 0 ≤ c := by
          rw [hcv]
          exact (le_div UQ_pos).2 (by rw [Rat.zero_mul]; exact cast_nn _)
        refine ⟨c, c1, hc0, hw, ?_, fun h => by omega, fun _ => ?_⟩
        rotate_left
        · have m1 : pw n ≤ pw (-1) := pw_mono (by omega)
          have m2 : pw (-1) = 1 / 2 := by decide +kernel
          rw [m2] at m1
          exact low_c (by grind) (by grind) m1 c2
        rw [hr] at c3 ⊢
        rcases Nat.lt_or_ge 4503599627370496 (scaleF (riseSeq (expR f) 13) (clampN n)) with hb | hb
        · rw [c3 hb]
          exact err_exact hw q7 q8 q9 hvp (by rw [← c3 hb]; exact hcv)
        · exact err_small hb q7 q8 q9 hvp (by rw [ab_pos hc0]; exact hcv) c2
      · rcases scale_top q5 (by grind) hn (by omega) with h | ⟨h, h'⟩
        · left
          have htp : 0 < t * pw n := Rat.mul_pos (by grind) hp
          have hw := posW h htp
          have hr := (word_facts hw).2.2.1
          refine ⟨_, h, Rat.le_of_lt htp, hw, ?_, fun h1 => ?_, fun h => by omega⟩
          rotate_left
          · have m1 : pw 1 ≤ pw n := pw_mono h1
            rw [pw_one] at m1
            exact high_c (by grind) m1
          rw [hr]
          exact err_exact hw q7 q8 q9 hvp (h.uniq (V.pos hw))
        · right
          exact ⟨h, big_true q7 q9 hvp h'⟩
    · rw [if_pos rfl]
      left
      have h0 := hf.order_neg (g := 4649765536573549445) k2 (by decide)
      have hw := word_ge (w := 4649765536573549445) (N := 1074 * 26814832747904039722237046) (D := 38685626227668133590597632) (by decide) (by decide +kernel)
      have hx := XX_least (a := a) (by
        have e : (1074 : Rat) * L2 = ((1074 * 26814832747904039722237046 : Nat) : Rat) / ((38685626227668133590597632 : Nat) : Rat) := by rw [L2_one]; decide +kernel
        rw [e]; grind) (by grind)
      have hp := pw_pos (-1074)
      have v1 := (ab_le.1 hv.1).2
      have v2 := (ab_le.1 hv.1).1
      have tl : tw 62 ≤ 1 / 1000 := by decide +kernel
      have v3 := Rat.mul_le_mul_of_nonneg_right tl (Rat.le_of_lt hv.2)
      have hX := hv.2
      have hg : gapq 0 = pw (-1074) := by
        rw [gap_pw]; rfl
      have hr : rung 0 = 0 := by decide
      have hx0 : a ≤ -700 := by
        clear k1 k2 ha'
        have e : (700 : Rat) ≤ ((1074 * 26814832747904039722237046 : Nat) : Rat) / ((38685626227668133590597632 : Nat) : Rat) := by decide +kernel
        grind
      obtain ⟨n, r, _, n2, _, _, _, n6, _⟩ := exp_rest hf (Rat.le_trans ha (by decide +kernel))
      refine ⟨0, V_zero, Rat.le_refl, by decide, ?_, fun h => ?_, fun _ => by decide +kernel⟩
      rotate_left
      · exfalso
        rw [n2] at h
        exact no_up hx0 n6 h
      rw [hr, hg, show (0 : Rat) - v = -v by grind, ab_neg, ab_pos (by grind)]
      grind
  · rw [if_pos rfl]
    right
    refine ⟨rfl, ?_⟩
    have h0 := hf.order k1 (by decide)
    have hw := word_ge (w := 4649454594685214392 + 1) (N := 1024 * 26814832747904039722237046) (D := 38685626227668133590597632) (by decide) (by decide +kernel)
    have hx := XX_great (a := a) (by
        have e : (1024 : Rat) * L2 = ((1024 * 26814832747904039722237046 : Nat) : Rat) / ((38685626227668133590597632 : Nat) : Rat) := by rw [L2_one]; decide +kernel
        rw [e]; grind) (by grind)
    have v2 := (ab_le.1 hv.1).1
    have tl : tw 62 ≤ 1 / 128 * uu := by decide +kernel
    have v3 := Rat.mul_le_mul_of_nonneg_right tl (Rat.le_of_lt hv.2)
    have hM := pw_pos 1024
    generalize XX a = W at *
    generalize pw 1024 = M at *
    rw [uuv] at *
    grind
theorem gap_rel {r : Nat} (h : r < 9218868437227405312) : uu * ((mval r : Rat) / (U : Rat)) ≤ gapq r := by
  rw [gap_eq]
  obtain ⟨L, hL⟩ : ∃ L, L = r / 4503599627370496 - 1 := ⟨_, rfl⟩
  obtain ⟨q, hq⟩ : ∃ q, q = r - L * 4503599627370496 := ⟨_, rfl⟩
  have hr : r = L * 4503599627370496 + q := by omega
  have e0 : mval r = q * 2 ^ L := by rw [hr]; exact mval_plc (by omega) (by omega)
  rw [← hL]
  have h3 : mval r ≤ 9007199254740992 * 2 ^ L := by
    rw [e0]; exact Nat.mul_le_mul_right _ (by omega)
  have h4 := cast_le.2 h3
  rw [cast_mul] at h4
  have e9 : ((9007199254740992 : Nat) : Rat) = 9007199254740992 := by decide +kernel
  rw [e9] at h4
  have hU := UQ_pos
  rw [le_div hU]
  have a := div_self_mul (mval r : Rat) UQ_ne
  generalize (mval r : Rat) / (U : Rat) = x at *
  generalize ((2 ^ L : Nat) : Rat) = Z at *
  rw [uuv]
  grind
theorem inf_not {e : Nat} (h : isInf e 1 = true) (hl : e < 18446744073709551616) (hf : Proofs.Ytcfkhhnkboealaa.fin e = true) : False := by
  rw [infP_iff hl (fin_notN hf)] at h
  have h2 : e = 9218868437227405312 := by simpa using h
  rw [h2] at hf
  exact absurd hf (by decide +kernel)
theorem gap_up {r : Nat} (h : 4503599627370496 ≤ r) : gapq r ≤ 2 * uu * ((mval r : Rat) / (U : Rat)) := by
  have h1 : 4503599627370496 * 2 ^ (r / 4503599627370496 - 1) ≤ mval r := by
    unfold mval
    rw [if_neg (by omega)]
    exact Nat.mul_le_mul_right _ (by omega)
  have h2 := cast_le.2 h1
  rw [cast_mul] at h2
  have e9 : ((4503599627370496 : Nat) : Rat) = 4503599627370496 := by decide +kernel
  have hU := UQ_pos
  have h3 := div_self_mul (mval r : Rat) UQ_ne
  have eu : 2 * uu = 1 / 4503599627370496 := by decide +kernel
  rw [gap_eq, div_le hU, eu]
  generalize (mval r : Rat) / (U : Rat) = Y at *
  generalize ((2 ^ (r / 4503599627370496 - 1) : Nat) : Rat) = X at *
  grind
theorem below_word {e g : Nat} {c k : Rat} (hc : V e c) (h : c < k) (he : e < 9218868437227405312) (hg : (mval g : Rat) / (U : Rat) = k) : e < g := by
  have h1 := hc.size
  have hr := (word_facts he).2.2.1
  rw [hr] at h1
  have h2 := (ab_of c).2
  rcases Nat.lt_or_ge e g with q | q
  · exact q
  · exfalso
    have h3 := cast_le.2 (mval_le_iff.2 q)
    have e1 := hc.uniq (V.pos he)
    rw [← hg, e1] at h
    have hU := UQ_pos
    have h4 : (mval g : Rat) / (U : Rat) ≤ (mval e : Rat) / (U : Rat) := by
      rw [div_le hU, div_self_mul _ UQ_ne]; exact h3
    grind
theorem word_two : (mval 4611686018427387904 : Rat) / (U : Rat) = 2 := by
  have h := (vnum (w := 4611686018427387904) (k := 2) (by decide) (by decide +kernel)).uniq (V.pos (by decide))
  rw [← h]; decide +kernel
theorem gap_normal {e : Nat} {c : Rat} (hc : V e c) (h : 1 / 2 ≤ c) (he : e < 9218868437227405312) : gapq e ≤ 2 * uu * c := by
  have e1 := hc.uniq (V.pos he)
  rw [e1] at h ⊢
  refine gap_up ?_
  rcases Nat.lt_or_ge e 4503599627370496 with q | q
  · exfalso
    have h3 := cast_le.2 (mval_le_iff.2 (Nat.le_of_lt q))
    have hU := UQ_pos
    rw [le_div hU] at h
    have h4 : mval 4503599627370496 * 4 ≤ U := by decide +kernel
    have h5 := cast_le.2 h4
    rw [cast_mul] at h5
    have e4 : ((4 : Nat) : Rat) = 4 := by decide +kernel
    grind
  · exact q
theorem sqr_bern {x : Rat} (h : 0 ≤ x) : ∀ k : Nat, 1 + ((2 ^ k : Nat) : Rat) * x ≤ sqr k (1 + x)
  | 0 => by
    have e : ((2 ^ 0 : Nat) : Rat) = 1 := rfl
    rw [e, Rat.one_mul]
    exact Rat.le_refl
  | k + 1 => by
    have ih := sqr_bern h k
    have e : ((2 ^ (k + 1) : Nat) : Rat) = 2 * ((2 ^ k : Nat) : Rat) := by rw [Nat.pow_succ, cast_mul]; have : ((2 : Nat) : Rat) = 2 := rfl; grind
    have n : 0 ≤ ((2 ^ k : Nat) : Rat) * x := Rat.mul_nonneg (cast_nn _) h
    have m := mul_mono (show 0 ≤ 1 + ((2 ^ k : Nat) : Rat) * x by grind) ih (show 0 ≤ 1 + ((2 ^ k : Nat) : Rat) * x by grind) ih
    have q := Rat.mul_nonneg n n
    rw [e]
    show _ ≤ sqr k (1 + x) * sqr k (1 + x)
    grind
theorem XX_ge {a : Rat} (h : 0 ≤ a) : 1 + a ≤ XX a := by
  have t := tw_pos 16
  have h1 : 0 ≤ a * tw 16 := Rat.mul_nonneg h (Rat.le_of_lt t)
  have h2 := TT_mono h1 (show 1 ≤ 60 by decide)
  have h3 : TT (a * tw 16) 1 = 1 + a * tw 16 := by
    rw [TT_succ, TT_zero, ee_rat, ee_zero]
    simp
    grind
  rw [h3] at h2
  have h4 := sqr_bern h1 16
  have h5 := (sqr_mono (show 0 ≤ 1 + a * tw 16 by grind) h2 16).2
  have e : ((2 ^ 16 : Nat) : Rat) * (a * tw 16) = a := by
    have : ((2 ^ 16 : Nat) : Rat) * tw 16 = 1 := by decide +kernel
    grind
  rw [e] at h4
  exact Rat.le_trans h4 h5
theorem inv_near {a v w : Rat} (ha : ab a ≤ 750) (hv : Rl v (XX a) (tw 300)) (hw : Rl w (XX (-a)) (tw 300)) : ab (v * w - 1) ≤ tw 290 := by
  have h1 := rl_mul hv hw (Rat.le_of_lt (tw_pos _)) (Rat.le_of_lt (tw_pos _))
  have h2 := XX_add (a := a) (b := -a) (Rat.le_trans ha (by decide +kernel)) (by rw [ab_neg]; exact Rat.le_trans ha (by decide +kernel))
  rw [show a + -a = 0 by grind, XX_zero] at h2
  have h3 := (rl_mono (rl_trans h1 h2 (by decide +kernel)) (e := tw 290) (by decide +kernel)).1
  rw [Rat.mul_one] at h3
  exact h3
theorem rl_pos {v y : Rat} {d : Rat} (h : Rl v y d) (hd : d ≤ 1 / 2) : 0 < v ∧ (1 - d) * y ≤ v ∧ v ≤ (1 + d) * y := by
  obtain ⟨h1, h2⟩ := h
  have h3 := ab_le.1 h1
  have k := Rat.mul_le_mul_of_nonneg_right hd (Rat.le_of_lt h2)
  constructor
  · grind
  · constructor <;> grind
/-- below the infinite ones. -/
theorem XX_low {a : Rat} (h0 : 0 ≤ a) (h : a ≤ 709781 / 1000) : XX a ≤ pw 1024 * (1 - 1 / 10000) := by
  have hl : 7097826 / 10000 ≤ 1024 * L2 ∧ 1024 * L2 ≤ 710 := by decide +kernel
  have h1 := XX_add (a := a) (b := 1024 * L2 - a) (by rw [ab_pos h0]; grind) (by rw [ab_pos (by grind)]; grind)
  rw [show a + (1024 * L2 - a) = 1024 * L2 by grind] at h1
  have h3 := (XX_pow2 (n := 1024) (by decide) (by decide))
  have e : ((1024 : Int) : Rat) = 1024 := by decide +kernel
  rw [e] at h3
  have h4 := XX_ge (a := 1024 * L2 - a) (by grind)
  have h5 := (rl_pos (rl_trans h1 h3 (by decide +kernel)) (by decide +kernel)).2.2
  have h6 : tw 553 + tw 71 + tw 553 * tw 71 ≤ 1 / 1000000 := by decide +kernel
  have hM := pw_pos 1024
  have hX := XX_pos (a := a) (by rw [ab_pos h0]; grind)
  have k1 := Rat.mul_le_mul_of_nonneg_left (show 1 + 16 / 10000 ≤ XX (1024 * L2 - a) by grind) (Rat.le_of_lt hX)
  have k2 := Rat.mul_le_mul_of_nonneg_right h6 (Rat.le_of_lt hM)
  grind
/-- what a unit is at least. -/
theorem unit_least {E : Nat} {e : Rat} (hE : V E e) (hl : E < 9218868437227405312) : uu * e ≤ gapq E ∧ (1 / 4 ≤ e → 1 / 2 * uu ≤ gapq E) ∧ (1 / 2 ≤ e → uu ≤ gapq E) := by
  obtain ⟨_, e1, _⟩ := posV hE hl
  rw [e1]
  refine ⟨gap_rel hl, fun h => ?_, fun h => ?_⟩
  · have := gap_ge (k := -2) hl (Rat.le_trans (by decide +kernel) h)
    exact Rat.le_trans (by decide +kernel) this
  · have := gap_ge (k := -1) hl (Rat.le_trans (by decide +kernel) h)
    exact Rat.le_trans (by decide +kernel) this
theorem inf_false {L s : Nat} {l : Rat} (h : V L l) : isInf L 1 = false ∧ isInf L 0 = false := by
  constructor
  · cases k : isInf L 1
    · rfl
    · exact (inf_not k h.lt h.fin).elim
  · have h1 := h.fin
    have hr := fin_rung h1
    unfold isInf
    rw [if_pos rfl, fabs_of (fin_notN h1), flt_words (by decide) hr]
    simp
    omega
def AT (x : Rat) : Nat → Rat
  | 0 => 0
  | k + 1 => AT x k + pn x (2 * k + 1) / ((2 * k + 1 : Nat) : Rat)
theorem AT_diff {x y : Rat} (h : 0 ≤ x) (k : x ≤ y) : ∀ n, AT y n - AT x n ≤ (y - x) * GS y n ∧ (y - x) * GS x n ≤ AT y n - AT x n
  | 0 => by simp only [AT, GS]; constructor <;> grind
  | n + 1 => by
    obtain ⟨a, b⟩ := AT_diff h k n
    obtain ⟨c, d⟩ := pn_diff h k (2 * n)
    show AT y n + pn y (2 * n + 1) / ((2 * n + 1 : Nat) : Rat) - (AT x n + pn x (2 * n + 1) / ((2 * n + 1 : Nat) : Rat)) ≤ (y - x) * (GS y n + pn y (2 * n)) ∧ (y - x) * (GS x n + pn x (2 * n)) ≤ AT y n + pn y (2 * n + 1) / ((2 * n + 1 : Nat) : Rat) - (AT x n + pn x (2 * n + 1) / ((2 * n + 1 : Nat) : Rat))
    have hN : (0 : Rat) < ((2 * n + 1 : Nat) : Rat) := by
      have h1 : ((1 : Nat) : Rat) ≤ ((2 * n + 1 : Nat) : Rat) := cast_le.2 (by omega)
      have e : ((1 : Nat) : Rat) = 1 := rfl
      grind
    generalize ((2 * n + 1 : Nat) : Rat) = N at *
    have e : pn y (2 * n + 1) / N - pn x (2 * n + 1) / N = (pn y (2 * n + 1) - pn x (2 * n + 1)) / N := by grind
    have u : (pn y (2 * n + 1) - pn x (2 * n + 1)) / N ≤ (y - x) * pn y (2 * n) := by rw [div_le hN]; grind
    have l : (y - x) * pn x (2 * n) ≤ (pn y (2 * n + 1) - pn x (2 * n + 1)) / N := by rw [le_div hN]; grind
    constructor <;> grind
/-- one small step up. -/
theorem step_up {u h d G : Rat} (hu : 0 ≤ u) (hh : 0 ≤ h) (hm : u + h ≤ 1 / 5) (hd : d ≤ 2 * (h * G)) (hG : G * (1 - (u + h) * (u + h)) ≤ 1) : (1 + d) * (1 - (u + h)) * (1 + u) ≤ (1 - u) * (1 + (u + h)) ∧ d ≤ 21 / 10 * h := by
  have hv : 0 ≤ u + h := by grind
  have v2 := mul_mono hv hm hv hm
  have hg : G ≤ 105 / 100 := by
    rcases (show G ≤ 105 / 100 ∨ 105 / 100 < G by grind) with q | q
    · exact q
    · have := Rat.mul_le_mul_of_nonneg_right (Rat.le_of_lt q) (show 0 ≤ 1 - (u + h) * (u + h) by grind)
      grind
  have hd2 : d ≤ 21 / 10 * h := by
    have := Rat.mul_le_mul_of_nonneg_left hg hh
    grind
  refine ⟨?_, hd2⟩
  have k1 := Rat.mul_le_mul_of_nonneg_left hG hh
  -- d (1 - v^2) <= 2 h
  have k2 : d * (1 - (u + h) * (u + h)) ≤ 2 * h := by
    have := Rat.mul_le_mul_of_nonneg_right hd (show 0 ≤ 1 - (u + h) * (u + h) by grind)
    grind
  have k3 := Rat.mul_le_mul_of_nonneg_right k2 (show 0 ≤ 1 + u by grind)
  have hpos : 0 < 1 + (u + h) := by grind
  refine Rat.le_of_mul_le_mul_right (c := 1 + (u + h)) ?_ hpos
  have p := Rat.mul_nonneg hh hh
  grind
/-- and down. -/
theorem step_down {u h d G p : Rat} (hu : 0 ≤ u) (hh : 0 ≤ h) (hm : u + h ≤ 1 / 5) (hd : 2 * (h * G) ≤ d) (hG : G * (1 - u * u) = 1 - p) (hp0 : 0 ≤ p) : (1 - u) * (1 + (u + h)) * (1 - (4 * (h * h) + 4 * (h * p))) ≤ (1 + d) * (1 - (u + h)) * (1 + u) := by
  have hpos : 0 < 1 - u := by grind
  refine Rat.le_of_mul_le_mul_right (c := 1 - u) ?_ hpos
  have u2 := mul_mono hu (show u ≤ 1 / 5 by grind) hu (show u ≤ 1 / 5 by grind)
  have k1 : 2 * (h * (1 - p)) ≤ d * (1 - u * u) := by
    have := Rat.mul_le_mul_of_nonneg_right hd (show 0 ≤ 1 - u * u by grind)
    rw [← hG]
    grind
  have k2 := Rat.mul_le_mul_of_nonneg_right k1 (show 0 ≤ 1 - (u + h) by grind)
  have q0 : 0 ≤ 4 * (h * h) + 4 * (h * p) := by
    have := Rat.mul_nonneg hh hh
    have := Rat.mul_nonneg hh hp0
    grind
  have a1 : (16 / 25 : Rat) ≤ (1 - u) * (1 - u) * (1 + (u + h)) := by
    have := mul_mono (by decide +kernel : (0 : Rat) ≤ 4 / 5) (show 4 / 5 ≤ 1 - u by grind) (by decide +kernel : (0 : Rat) ≤ 4 / 5) (show 4 / 5 ≤ 1 - u by grind)
    have := mul_mono (by decide +kernel : (0 : Rat) ≤ 4 / 5 * (4 / 5)) this (by decide +kernel : (0 : Rat) ≤ 1) (show 1 ≤ 1 + (u + h) by grind)
    grind
  have a2 := Rat.mul_le_mul_of_nonneg_right a1 q0
  have hp2 := Rat.mul_nonneg hh hp0
  have hp3 := Rat.mul_nonneg hp2 (show 0 ≤ u + h by grind)
  have hh2 := Rat.mul_nonneg hh hh
  generalize hq : 4 * (h * h) + 4 * (h * p) = q at *
  have e1 : (1 - u) * (1 + (u + h)) * (1 - q) * (1 - u) = (1 - u) * (1 - u) * (1 + (u + h)) - (1 - u) * (1 - u) * (1 + (u + h)) * q := by grind
  have e2 : (1 + d) * (1 - (u + h)) * (1 + u) * (1 - u) = (1 - u * u) * (1 - (u + h)) + d * (1 - u * u) * (1 - (u + h)) := by grind
  rw [e1, e2]
  have e3 : 2 * (h * (1 - p)) * (1 - (u + h)) = 2 * (h * (1 - (u + h))) - 2 * (h * p) + 2 * (h * p * (u + h)) := by grind
  rw [e3] at k2
  have e4 : (1 - u) * (1 - u) * (1 + (u + h)) = (1 - u * u) * (1 - (u + h)) + 2 * (h * (1 - (u + h))) + 2 * (h * h) := by grind
  generalize (1 - u) * (1 - u) * (1 + (u + h)) = X at *
  generalize (1 - u * u) * (1 - (u + h)) = Y at *
  generalize d * (1 - u * u) * (1 - (u + h)) = W at *
  generalize h * (1 - (u + h)) = V at *
  generalize h * p * (u + h) = Q at *
  clear e1 e2 e3 hG k1 u2 a1
  grind
theorem sqr_up {z : Rat} (h : 0 ≤ z) : ∀ k : Nat, ((2 ^ k : Nat) : Rat) * z ≤ 4 / 10 → sqr k (1 + z) ≤ 1 + ((2 ^ k : Nat) : Rat) * z + ((2 ^ k : Nat) : Rat) * z * (((2 ^ k : Nat) : Rat) * z)
  | 0, _ => by
    have e : ((2 ^ 0 : Nat) : Rat) = 1 := rfl
    have := Rat.mul_nonneg h h
    show 1 + z ≤ _
    rw [e]
    grind
  | k + 1, hk => by
    have e : ((2 ^ (k + 1) : Nat) : Rat) = 2 * ((2 ^ k : Nat) : Rat) := by rw [Nat.pow_succ, cast_mul]; have : ((2 : Nat) : Rat) = 2 := rfl; grind
    rw [e] at hk ⊢
    have n : 0 ≤ ((2 ^ k : Nat) : Rat) * z := Rat.mul_nonneg (cast_nn _) h
    have ih := sqr_up h k (by grind)
    have p := sqr_pos (show 0 < 1 + z by grind) k
    have m := mul_mono (Rat.le_of_lt p) ih (Rat.le_of_lt p) ih
    generalize hZ : ((2 ^ k : Nat) : Rat) * z = Z at *
    have h1 : Z ≤ 2 / 10 := by grind
    have q := Rat.mul_nonneg n n
    have q2 := Rat.mul_le_mul_of_nonneg_left h1 q
    have q3 := mul_mono n h1 n h1
    have q4 := Rat.mul_le_mul_of_nonneg_right q3 q
    show sqr k (1 + z) * sqr k (1 + z) ≤ _
    have e2 : 2 * ((2 ^ k : Nat) : Rat) * z = 2 * Z := by rw [← hZ]; grind
    rw [e2]
    grind
theorem XX_le {d : Rat} (h : 0 ≤ d) (h1 : d ≤ 1 / 10) : XX d ≤ 1 + d + 2 * (d * d) := by
  have t : tw 16 = 1 / 65536 := by decide +kernel
  have hy0 : 0 ≤ d * tw 16 := by rw [t]; grind
  have hy1 : d * tw 16 ≤ 1 / 655360 := by rw [t]; grind
  obtain ⟨y, hy⟩ : ∃ y, y = d * tw 16 := ⟨_, rfl⟩
  have hT : TT y 60 ≤ 1 + (y + y * y) := by
    have h0 : 0 ≤ y := by rw [hy]; exact hy0
    have e3 : ((1 + 2 : Nat) : Rat) = 3 := rfl
    have h2 := tail_le' h0 (n := 1) (by rw [e3]; grind) 59
    have e1' : TT y 1 = 1 + y := by
      rw [TT_succ, TT_zero, ee_rat, ee_zero]
      simp
      grind
    have e2' : ee y (1 + 1) = y * y * (1 / 2) := by
      rw [ee_rat, show ee y 1 = y by rw [ee_rat, ee_zero]; simp; grind]
      have : ((1 + 1 : Nat) : Rat) = 2 := rfl
      rw [this]
      grind
    rw [show 1 + 59 = 60 from rfl, e1', e2'] at h2
    grind
  have hz : 0 ≤ y + y * y := by rw [hy]; have := Rat.mul_nonneg hy0 hy0; grind
  have hTp : 0 ≤ TT y 60 := by have := TT_one (y := y) (by rw [hy]; exact hy0) 60; grind
  have h2 := (sqr_mono hTp hT 16).2
  have e : ((2 ^ 16 : Nat) : Rat) = 65536 := by decide +kernel
  have hd : 65536 * y = d := by rw [hy, t]; grind
  have h3 := sqr_up hz 16 (by
    rw [e]
    have := Rat.mul_le_mul_of_nonneg_right (show y ≤ 1 / 655360 by rw [hy]; exact hy1) (show 0 ≤ y by rw [hy]; exact hy0)
    grind)
  rw [e] at h3
  have h4 : XX d = sqr 16 (TT y 60) := by unfold XX; rw [hy]
  rw [h4]
  refine Rat.le_trans h2 (Rat.le_trans h3 ?_)
  have q := Rat.mul_nonneg h h
  have q2 := Rat.mul_le_mul_of_nonneg_right h1 q
  have q3 := Rat.mul_le_mul_of_nonneg_right h1 (Rat.mul_nonneg h q)
  have ey : 65536 * (y + y * y) = d + 1 / 65536 * (d * d) := by grind
  rw [ey]
  grind
theorem AT_size {x : Rat} (h : 0 ≤ x) (h2 : x ≤ 1 / 5) : 0 ≤ AT x 13 ∧ AT x 13 ≤ 22 / 100 := by
  obtain ⟨a, b⟩ := AT_diff (x := 0) (y := x) Rat.le_refl h 13
  have z : AT 0 13 = 0 := by decide +kernel
  rw [z, show x - 0 = x by grind, show AT x 13 - 0 = AT x 13 by grind] at a b
  have g0 := GS_nn (x := 0) Rat.le_refl 13
  have g := GS_nn h 13
  have hs := GS_sum x 13
  have hp := pn_nn h (2 * 13)
  have x2 := mul_mono h h2 h h2
  have hg : GS x 13 ≤ 11 / 10 := by
    have := Rat.mul_le_mul_of_nonneg_left (show 24 / 25 ≤ 1 - x * x by grind) g
    grind
  have h3 := Rat.mul_nonneg h g0
  have h4 := mul_mono h h2 g hg
  constructor <;> grind
/-- one small step of the exponential of the sum. -/
theorem FF_step {u h : Rat} (hu : 0 ≤ u) (hh : 0 ≤ h) (hm : u + h ≤ 1 / 5) (hh1 : h ≤ tw 282) :
    XX (2 * AT (u + h) 13) * (1 - (u + h)) * (1 + u) ≤ XX (2 * AT u 13) * (1 - u) * (1 + (u + h)) * (1 + tw 550) ∧
    XX (2 * AT u 13) * (1 - u) * (1 + (u + h)) * (1 - (tw 552 + 4 * (h * h) + 4 * (h * pn u 26))) ≤ XX (2 * AT (u + h) 13) * (1 - (u + h)) * (1 + u) := by
  obtain ⟨a0, a1⟩ := AT_size hu (by grind)
  obtain ⟨b0, b1⟩ := AT_size (x := u + h) (by grind) hm
  obtain ⟨c, d⟩ := AT_diff hu (show u ≤ u + h by grind) 13
  rw [show u + h - u = h by grind] at c d
  obtain ⟨D, hD⟩ : ∃ D, D = 2 * AT (u + h) 13 - 2 * AT u 13 := ⟨_, rfl⟩
  have gu := GS_nn hu 13
  have gv := GS_nn (show 0 ≤ u + h by grind) 13
  have hD0 : 0 ≤ D := by have := Rat.mul_nonneg hh gu; grind
  have pu := pn_nn hu 26
  have pv := pn_nn (show 0 ≤ u + h by grind) 26
  obtain ⟨s1, s2⟩ := step_up (d := D) (G := GS (u + h) 13) hu hh hm (by grind) (by rw [GS_sum]; grind)
  have s3 := step_down (d := D) (G := GS u 13) (p := pn u 26) hu hh hm (by grind) (GS_sum u 13) pu
  have t282 : tw 282 ≤ 1 / 100 := by decide +kernel
  have t0 := tw_pos 282
  have x1 := XX_ge hD0
  have x2 := XX_le hD0 (by grind)
  have hadd := (XX_add (a := 2 * AT u 13) (b := D) (by rw [ab_pos (by grind)]; grind) (by rw [ab_pos hD0]; grind))
  rw [show 2 * AT u 13 + D = 2 * AT (u + h) 13 by grind] at hadd
  obtain ⟨hA, hB⟩ := hadd
  have hA' := ab_le.1 hA
  have hX := XX_pos (a := 2 * AT u 13) (by rw [ab_pos (by grind)]; grind)
  have t553 : tw 553 ≤ 1 / 100 := by decide +kernel
  have t5p := tw_pos 553
  generalize hXu : XX (2 * AT u 13) = X at *
  generalize hXv : XX (2 * AT (u + h) 13) = Y at *
  generalize XX D = E at *
  -- D^2 is tiny
  have dd : D * D ≤ 1 / 10 * tw 552 := by
    have m1 := mul_mono hD0 s2 hD0 s2
    have m2 := mul_mono hh hh1 hh hh1
    have t2 : 441 / 100 * (tw 282 * tw 282) ≤ 1 / 10 * tw 552 := by decide +kernel
    grind
  have t552 : tw 553 = 1 / 2 * tw 552 ∧ tw 550 = 4 * tw 552 ∧ tw 552 ≤ 1 / 1000 := by decide +kernel
  have t52 := tw_pos 552
  have Y1 : Y * (1 - tw 553) ≤ X * E := by grind
  have Y2 : X * E ≤ Y * (1 + tw 553) := by grind
  have E1 : E ≤ (1 + D) * (1 + 2 / 10 * tw 552) := by
    have := Rat.mul_nonneg hD0 (Rat.le_of_lt t52)
    grind
  have P1 : 0 < (1 - (u + h)) * (1 + u) := Rat.mul_pos (by grind) (by grind)
  have P2 : 0 ≤ X * (1 - u) * (1 + (u + h)) := Rat.mul_nonneg (Rat.mul_nonneg (Rat.le_of_lt hX) (by grind)) (by grind)
  constructor
  · -- up
    have k1 : X * E ≤ X * ((1 + D) * (1 + 2 / 10 * tw 552)) := Rat.mul_le_mul_of_nonneg_left E1 (Rat.le_of_lt hX)
    have k2 := Rat.mul_le_mul_of_nonneg_right (Rat.le_trans Y1 k1) (Rat.le_of_lt P1)
    have k3 := Rat.mul_le_mul_of_nonneg_left s1 (Rat.mul_nonneg (Rat.le_of_lt hX) (show 0 ≤ 1 + 2 / 10 * tw 552 by grind))
    have k4 : Y * (1 - tw 553) * ((1 - (u + h)) * (1 + u)) ≤ X * (1 - u) * (1 + (u + h)) * (1 + 2 / 10 * tw 552) := by
      have e1 : X * ((1 + D) * (1 + 2 / 10 * tw 552)) * ((1 - (u + h)) * (1 + u)) = X * (1 + 2 / 10 * tw 552) * ((1 + D) * (1 - (u + h)) * (1 + u)) := by grind
      have e2 : X * (1 + 2 / 10 * tw 552) * ((1 - u) * (1 + (u + h))) = X * (1 - u) * (1 + (u + h)) * (1 + 2 / 10 * tw 552) := by grind
      rw [e1] at k2
      rw [e2] at k3
      exact Rat.le_trans k2 k3
    have hp : 0 < 1 - tw 553 := by grind
    refine Rat.le_of_mul_le_mul_right (c := 1 - tw 553) ?_ hp
    have e3 : Y * (1 - tw 553) * ((1 - (u + h)) * (1 + u)) = Y * (1 - (u + h)) * (1 + u) * (1 - tw 553) := by grind
    rw [e3] at k4
    refine Rat.le_trans k4 ?_
    rw [t552.1, t552.2.1]
    have q : 1 + 2 / 10 * tw 552 ≤ (1 + 4 * tw 552) * (1 - 1 / 2 * tw 552) := by
      have := Rat.mul_le_mul_of_nonneg_right t552.2.2 (Rat.le_of_lt t52)
      grind
    have := Rat.mul_le_mul_of_nonneg_left q P2
    generalize X * (1 - u) * (1 + (u + h)) = Z at *
    generalize tw 552 = τ at *
    grind
  · -- down
    have k1 : X * (1 + D) ≤ X * E := Rat.mul_le_mul_of_nonneg_left x1 (Rat.le_of_lt hX)
    have k2 := Rat.mul_le_mul_of_nonneg_right (Rat.le_trans k1 Y2) (Rat.le_of_lt P1)
    have k3 := Rat.mul_le_mul_of_nonneg_left s3 (Rat.le_of_lt hX)
    have hp : 0 < 1 + tw 553 := by grind
    obtain ⟨q, hq⟩ : ∃ q, q = 4 * (h * h) + 4 * (h * pn u 26) := ⟨_, rfl⟩
    have hq0 : 0 ≤ q := by
      have := Rat.mul_nonneg hh hh
      have := Rat.mul_nonneg hh pu
      grind
    rw [← hq] at k3
    rw [show tw 552 + 4 * (h * h) + 4 * (h * pn u 26) = tw 552 + q by grind]
    have k4 : X * (1 - u) * (1 + (u + h)) * (1 - q) ≤ Y * (1 - (u + h)) * (1 + u) * (1 + tw 553) := by
      have e1 : X * ((1 - u) * (1 + (u + h)) * (1 - q)) = X * (1 - u) * (1 + (u + h)) * (1 - q) := by grind
      have e2 : X * (1 + D) * ((1 - (u + h)) * (1 + u)) = X * ((1 + D) * (1 - (u + h)) * (1 + u)) := by grind
      have e3 : Y * (1 + tw 553) * ((1 - (u + h)) * (1 + u)) = Y * (1 - (u + h)) * (1 + u) * (1 + tw 553) := by grind
      rw [e1] at k3
      rw [e2, e3] at k2
      exact Rat.le_trans k3 k2
    refine Rat.le_of_mul_le_mul_right (c := 1 + tw 553) ?_ hp
    refine Rat.le_trans ?_ k4
    have q1 : (1 - (tw 552 + q)) * (1 + tw 553) ≤ 1 - q := by
      have := Rat.mul_nonneg hq0 (Rat.le_of_lt t52)
      have := Rat.mul_nonneg (Rat.le_of_lt t52) (Rat.le_of_lt t52)
      rw [t552.1]
      grind
    have := Rat.mul_le_mul_of_nonneg_left q1 P2
    generalize X * (1 - u) * (1 + (u + h)) = Z at *
    grind
theorem FF_walk {u h ρ : Rat} (hu : 0 ≤ u) (hm : u ≤ 172 / 1000) (hh : 0 ≤ h) (hh1 : h ≤ tw 282) (hρ : tw 552 + 4 * (h * h) + 4 * (h * pn u 26) ≤ ρ) (hρ1 : 0 ≤ ρ) : ∀ j : Nat, (j : Rat) * h ≤ u → (j : Rat) * tw 549 ≤ 1 → (j : Rat) * ρ ≤ 1 →
    XX (2 * AT ((j : Rat) * h) 13) * (1 - (j : Rat) * h) ≤ (1 + (j : Rat) * h) * (1 + (j : Rat) * tw 549) ∧ (1 + (j : Rat) * h) * (1 - (j : Rat) * ρ) ≤ XX (2 * AT ((j : Rat) * h) 13) * (1 - (j : Rat) * h)
  | 0, _, _, _ => by
    have e : ((0 : Nat) : Rat) = 0 := rfl
    rw [e, Rat.zero_mul, Rat.zero_mul, Rat.zero_mul, show AT 0 13 = 0 by decide +kernel, Rat.mul_zero, XX_zero]
    constructor <;> grind
  | j + 1, k1, k2, k3 => by
    have ec := cast_succ j
    have hj := cast_nn j
    have t := tw_pos 549
    obtain ⟨x, hx⟩ : ∃ x, x = (j : Rat) * h := ⟨_, rfl⟩
    have e1 : ((j + 1 : Nat) : Rat) * h = x + h := by rw [ec, hx]; grind
    have e2 : ((j + 1 : Nat) : Rat) * tw 549 = (j : Rat) * tw 549 + tw 549 := by rw [ec]; grind
    have e3 : ((j + 1 : Nat) : Rat) * ρ = (j : Rat) * ρ + ρ := by rw [ec]; grind
    rw [e1] at k1
    rw [e2] at k2
    rw [e3] at k3
    rw [e1, e2, e3]
    have x0 : 0 ≤ x := by rw [hx]; exact Rat.mul_nonneg hj hh
    obtain ⟨a, b⟩ := FF_walk hu hm hh hh1 hρ hρ1 j (by rw [← hx]; grind) (by grind) (by grind)
    rw [← hx] at a b
    obtain ⟨c, d⟩ := FF_step x0 hh (by grind) hh1
    have hp := pn_mono x0 (show x ≤ u by grind) 26
    have hp2 := Rat.mul_le_mul_of_nonneg_left hp hh
    have pos1 : 0 < 1 + x := by grind
    have pos2 : 0 < 1 + (x + h) := by grind
    generalize hE : XX (2 * AT x 13) * (1 - x) = E at *
    generalize hF : XX (2 * AT (x + h) 13) * (1 - (x + h)) = F at *
    have t550 : tw 550 = 1 / 2 * tw 549 := by decide +kernel
    generalize (j : Rat) * tw 549 = J at *
    have J0 : 0 ≤ J ∨ J < 0 := by grind
    constructor
    · -- up
      have m1 := Rat.mul_le_mul_of_nonneg_right a (show 0 ≤ (1 + (x + h)) * (1 + tw 550) by have := tw_pos 550; exact Rat.mul_nonneg (Rat.le_of_lt pos2) (by grind))
      have m2 : F * (1 + x) ≤ (1 + (x + h)) * ((1 + J) * (1 + tw 550)) * (1 + x) := by
        have e4 : E * ((1 + (x + h)) * (1 + tw 550)) = E * (1 + (x + h)) * (1 + tw 550) := by grind
        have e5 : (1 + x) * (1 + J) * ((1 + (x + h)) * (1 + tw 550)) = (1 + (x + h)) * ((1 + J) * (1 + tw 550)) * (1 + x) := by grind
        rw [e4, e5] at m1
        exact Rat.le_trans c m1
      have m3 := Rat.le_of_mul_le_mul_right m2 pos1
      refine Rat.le_trans m3 (Rat.mul_le_mul_of_nonneg_left ?_ (Rat.le_of_lt pos2))
      rw [t550]
      have := Rat.mul_le_mul_of_nonneg_right (show J ≤ 1 by grind) (Rat.le_of_lt t)
      grind
    · -- down
      have r1 : 0 ≤ 1 - ρ := by
        have : 0 ≤ (j : Rat) * ρ := Rat.mul_nonneg hj hρ1
        grind
      have jr : 0 ≤ (j : Rat) * ρ := Rat.mul_nonneg hj hρ1
      generalize (j : Rat) * ρ = Q at *
      have m1 := Rat.mul_le_mul_of_nonneg_right b (show 0 ≤ (1 + (x + h)) * (1 - ρ) from Rat.mul_nonneg (Rat.le_of_lt pos2) r1)
      have hE0 : 0 ≤ E := by
        have : 0 ≤ (1 + x) * (1 - Q) := Rat.mul_nonneg (Rat.le_of_lt pos1) (by grind)
        grind
      have m0 : E * (1 + (x + h)) * (1 - ρ) ≤ F * (1 + x) := by
        refine Rat.le_trans (Rat.mul_le_mul_of_nonneg_left (show 1 - ρ ≤ 1 - (tw 552 + 4 * (h * h) + 4 * (h * pn x 26)) by grind) (Rat.mul_nonneg hE0 (Rat.le_of_lt pos2))) d
      have m2 : (1 + (x + h)) * ((1 - Q) * (1 - ρ)) * (1 + x) ≤ F * (1 + x) := by
        have e4 : E * ((1 + (x + h)) * (1 - ρ)) = E * (1 + (x + h)) * (1 - ρ) := by grind
        have e5 : (1 + x) * (1 - Q) * ((1 + (x + h)) * (1 - ρ)) = (1 + (x + h)) * ((1 - Q) * (1 - ρ)) * (1 + x) := by grind
        rw [e4, e5] at m1
        exact Rat.le_trans m1 m0
      have m3 := Rat.le_of_mul_le_mul_right m2 pos1
      refine Rat.le_trans (Rat.mul_le_mul_of_nonneg_left ?_ (Rat.le_of_lt pos2)) m3
      have := Rat.mul_nonneg jr hρ1
      grind
/-- the sum of the logarithm, without sign. -/
theorem FF_all {u : Rat} (hu : 0 ≤ u) (hm : u ≤ 172 / 1000) :
    XX (2 * AT u 13) * (1 - u) ≤ (1 + u) * (1 + tw 268) ∧ (1 + u) * (1 - (tw 268 + 4 * (u * pn u 26))) ≤ XX (2 * AT u 13) * (1 - u) := by
  obtain ⟨N, hN⟩ : ∃ N : Nat, N = 2 ^ 280 := ⟨_, rfl⟩
  have hNt : (N : Rat) * tw 280 = 1 := by rw [hN]; decide +kernel
  obtain ⟨h, hh⟩ : ∃ h, h = u * tw 280 := ⟨_, rfl⟩
  have t := tw_pos 280
  have h0 : 0 ≤ h := by rw [hh]; exact Rat.mul_nonneg hu (Rat.le_of_lt t)
  have h1 : h ≤ tw 282 := by
    have := Rat.mul_le_mul_of_nonneg_right (show u ≤ 1 / 4 by grind) (Rat.le_of_lt t)
    have e : tw 282 = 1 / 4 * tw 280 := by decide +kernel
    grind
  have hNh : (N : Rat) * h = u := by rw [hh]; grind
  have pu := pn_nn hu 26
  have p1 : pn u 26 ≤ 1 / 1000 := Rat.le_trans (pn_mono hu hm 26) (by decide +kernel)
  obtain ⟨ρ, hρ⟩ : ∃ ρ, ρ = tw 551 + 4 * (h * pn u 26) := ⟨_, rfl⟩
  have hp := Rat.mul_nonneg h0 pu
  have t551 : 0 ≤ tw 551 := Rat.le_of_lt (tw_pos _)
  have hh4 : 4 * (h * h) ≤ tw 552 := by
    have := mul_mono h0 h1 h0 h1
    have e : 4 * (tw 282 * tw 282) ≤ tw 552 := by decide +kernel
    grind
  have e551 : tw 551 = 2 * tw 552 := by decide +kernel
  have k1 : (N : Rat) * tw 549 ≤ tw 268 := by rw [hN]; decide +kernel
  have k1' : tw 268 ≤ 1 / 1000 := by decide +kernel
  have k2 : (N : Rat) * tw 551 ≤ tw 268 := by rw [hN]; decide +kernel
  have k3 : (N : Rat) * ρ ≤ tw 268 + 4 * (u * pn u 26) := by
    rw [hρ]
    have : (N : Rat) * (tw 551 + 4 * (h * pn u 26)) = (N : Rat) * tw 551 + 4 * ((N : Rat) * h * pn u 26) := by grind
    rw [this, hNh]
    grind
  have up := mul_mono hu hm pu p1
  obtain ⟨a, b⟩ := FF_walk hu hm h0 h1 (ρ := ρ) (by rw [hρ]; grind) (by rw [hρ]; grind) N (by rw [hNh]; exact Rat.le_refl) (by grind) (by grind)
  rw [hNh] at a b
  constructor
  · exact Rat.le_trans a (Rat.mul_le_mul_of_nonneg_left (by grind) (by grind))
  · exact Rat.le_trans (Rat.mul_le_mul_of_nonneg_left (by grind) (by grind)) b
theorem AT_neg (x : Rat) : ∀ k, AT (-x) k = -AT x k
  | 0 => by simp only [AT]; grind
  | k + 1 => by
    have h := AT_neg x k
    have p := (pn_neg x k).2
    show AT (-x) k + pn (-x) (2 * k + 1) / ((2 * k + 1 : Nat) : Rat) = -(AT x k + pn x (2 * k + 1) / ((2 * k + 1 : Nat) : Rat))
    rw [h, p]
    grind
theorem ratio_inv {X Y w e p : Rat} (hw : 0 ≤ w) (hw1 : w ≤ 172 / 1000) (h1 : X * (1 - w) ≤ (1 + w) * (1 + e)) (h2 : (1 + w) * (1 - p) ≤ X * (1 - w)) (he : 0 ≤ e) (hep : e ≤ p) (hp : p ≤ 1 / 100) (hX : 0 < X) (hY : 0 < Y) (h : ab (X * Y - 1) ≤ e) : ab (Y * (1 + w) - (1 - w)) ≤ 3 * p * (1 - w) := by
  have h' := ab_le.1 h
  have a1 := Rat.mul_le_mul_of_nonneg_left h1 (Rat.le_of_lt hY)
  have a2 := Rat.mul_le_mul_of_nonneg_left h2 (Rat.le_of_lt hY)
  have b1 := Rat.mul_le_mul_of_nonneg_right (show X * Y ≤ 1 + e by grind) (show 0 ≤ 1 - w by grind)
  have b2 := Rat.mul_le_mul_of_nonneg_right (show 1 - e ≤ X * Y by grind) (show 0 ≤ 1 - w by grind)
  obtain ⟨Z, hZ⟩ : ∃ Z, Z = Y * (1 + w) := ⟨_, rfl⟩
  have c1 : (1 - e) * (1 - w) ≤ Z * (1 + e) := by rw [hZ]; grind
  have c2 : Z * (1 - p) ≤ (1 + e) * (1 - w) := by rw [hZ]; grind
  have Z0 : 0 < Z := by rw [hZ]; exact Rat.mul_pos hY (by grind)
  have hw2 : 0 < 1 - w := by grind
  rw [← hZ]
  generalize 1 - w = W at *
  have m1 := Rat.mul_nonneg (show 0 ≤ p by grind) (Rat.le_of_lt hw2)
  have m2 := Rat.mul_le_mul_of_nonneg_right hep (Rat.le_of_lt hw2)
  have Z1 : Z ≤ 103 / 100 * W := by
    have := Rat.mul_le_mul_of_nonneg_right hp (Rat.le_of_lt Z0)
    have := Rat.mul_le_mul_of_nonneg_right hp (Rat.le_of_lt hw2)
    grind
  have m3 := Rat.mul_le_mul_of_nonneg_left Z1 (show 0 ≤ p by grind)
  have m4 := Rat.mul_le_mul_of_nonneg_left Z1 he
  rw [ab_le]
  constructor <;> grind
/-- e to twice the sum, with either sign. -/
theorem log_core {u : Rat} (hu : ab u ≤ 172 / 1000) : Rl (XX (2 * AT u 13)) ((1 + u) / (1 - u)) (tw 266 + 12 * (ab u * pn (ab u) 26)) := by
  have hu' := ab_le.1 hu
  have n := ab_nn u
  obtain ⟨f1, f2⟩ := FF_all n hu
  have s := AT_size n (show ab u ≤ 1 / 5 by grind)
  have hX := XX_pos (a := 2 * AT (ab u) 13) (by rw [ab_pos (by grind)]; grind)
  have pu := pn_nn n 26
  have p1 : pn (ab u) 26 ≤ 1 / 10000 := Rat.le_trans (pn_mono n hu 26) (by decide +kernel)
  have up := mul_mono n hu pu p1
  have up0 := Rat.mul_nonneg n pu
  have t268 : 0 < tw 268 ∧ tw 268 ≤ 1 / 1000000 ∧ tw 266 = 4 * tw 268 ∧ tw 553 ≤ tw 268 := by decide +kernel
  have hp : 0 < 1 - u := by grind
  have hp2 : 0 < 1 + u := by grind
  have hq : (1 + u) / (1 - u) * (1 - u) = 1 + u := div_self_mul _ (by grind)
  have hq0 : 0 < (1 + u) / (1 - u) := by
    rcases (show 0 < (1 + u) / (1 - u) ∨ (1 + u) / (1 - u) ≤ 0 by grind) with q | q
    · exact q
    · have := Rat.mul_le_mul_of_nonneg_right q (Rat.le_of_lt hp); grind
  refine ⟨?_, hq0⟩
  have key : ab (XX (2 * AT u 13) * (1 - u) - (1 + u)) ≤ (tw 266 + 12 * (ab u * pn (ab u) 26)) * (1 + u) := by
    rcases (show 0 ≤ u ∨ u < 0 by grind) with q | q
    · have e : ab u = u := ab_pos q
      rw [e] at f1 f2 up0 ⊢
      have m := Rat.mul_nonneg up0 (Rat.le_of_lt hp2)
      have m2 := Rat.mul_nonneg (Rat.le_of_lt t268.1) (Rat.le_of_lt hp2)
      rw [ab_le, t268.2.2.1]
      generalize XX (2 * AT u 13) * (1 - u) = A at *
      generalize u * pn u 26 = P at *
      generalize tw 268 = τ at *
      clear hq hq0 up pu p1 hX n hu hu' s e t268
      constructor <;> grind
    · have e : ab u = -u := by unfold ab; grind
      obtain ⟨w, hw⟩ : ∃ w, w = ab u := ⟨_, rfl⟩
      have hu2 : u = -w := by grind
      have eA : 2 * AT u 13 = -(2 * AT w 13) := by rw [hu2, AT_neg]; grind
      rw [eA]
      rw [← hw] at f1 f2 s hX up up0 p1 n ⊢
      have hY := XX_pos (a := -(2 * AT w 13)) (by rw [ab_neg, ab_pos (by grind)]; grind)
      have hadd := (XX_add (a := 2 * AT w 13) (b := -(2 * AT w 13)) (by rw [ab_pos (by grind)]; grind) (by rw [ab_neg, ab_pos (by grind)]; grind)).1
      rw [show 2 * AT w 13 + -(2 * AT w 13) = 0 by grind, XX_zero, Rat.mul_one] at hadd
      have r := ratio_inv (e := tw 268) (p := tw 268 + 4 * (w * pn w 26)) n (by rw [hw]; exact hu) f1 f2 (Rat.le_of_lt t268.1) (by grind) (by grind) hX hY (Rat.le_trans hadd t268.2.2.2)
      rw [hu2, show 1 - -w = 1 + w by grind, show 1 + -w = 1 - w by grind]
      refine Rat.le_trans r (Rat.mul_le_mul_of_nonneg_right ?_ (by grind))
      rw [t268.2.2.1]
      have := t268.1
      grind
  have e2 : ab (XX (2 * AT u 13) - (1 + u) / (1 - u)) * (1 - u) = ab (XX (2 * AT u 13) * (1 - u) - (1 + u)) := by
    rw [show XX (2 * AT u 13) * (1 - u) - (1 + u) = (XX (2 * AT u 13) - (1 + u) / (1 - u)) * (1 - u) by grind, ab_mul, ab_pos (Rat.le_of_lt hp)]
  refine Rat.le_of_mul_le_mul_right (c := 1 - u) ?_ hp
  rw [e2]
  refine Rat.le_trans key ?_
  have : (tw 266 + 12 * (ab u * pn (ab u) 26)) * ((1 + u) / (1 - u)) * (1 - u) = (tw 266 + 12 * (ab u * pn (ab u) 26)) * (1 + u) := by grind
  rw [this]
  exact Rat.le_refl
theorem twice_word {b : Nat} (h : b < 9214364837600034816) : ∃ d, d < 9218868437227405312 ∧ mval d = 2 * mval b := by
  rcases Nat.lt_or_ge b 4503599627370496 with q | q
  · refine ⟨2 * b, by omega, ?_⟩
    unfold mval
    rw [if_pos q]
    rcases Nat.lt_or_ge (2 * b) 4503599627370496 with r | r
    · rw [if_pos r]
    · rw [if_neg (by omega), show 2 * b / 4503599627370496 - 1 = 0 by omega]
      omega
  · refine ⟨b + 4503599627370496, by omega, ?_⟩
    obtain ⟨L, hL⟩ : ∃ L, b / 4503599627370496 = L + 1 := ⟨b / 4503599627370496 - 1, by omega⟩
    have hL2 : (b + 4503599627370496) / 4503599627370496 = L + 2 := by omega
    unfold mval
    rw [if_neg (by omega), if_neg (by omega), hL, hL2, show (b + 4503599627370496) % 4503599627370496 = b % 4503599627370496 by omega, show L + 2 - 1 = (L + 1 - 1) + 1 by omega, Nat.pow_succ]
    generalize 2 ^ (L + 1 - 1) = X
    rw [← Nat.mul_assoc, Nat.mul_comm]
theorem V.twiceU {f : Nat} {a : Rat} (hf : V f a) (h : ab a ≤ 1000000) : V (fmul 4611686018427387904 f) (2 * a) := by
  have hr := fin_rung hf.fin
  have hsm : rung f < 9214364837600034816 := by
    have h1 : (1000001 : Rat) ≤ (mval 9214364837600034816 : Rat) / (U : Rat) := by
      rw [le_div UQ_pos]
      have h2 : 1000001 * U ≤ mval 9214364837600034816 := by decide +kernel
      have h3 := cast_le.2 h2
      rw [cast_mul] at h3
      have e : ((1000001 : Nat) : Rat) = 1000001 := by decide +kernel
      rw [e] at h3
      exact h3
    rcases Nat.lt_or_ge (rung f) 9214364837600034816 with q | q
    · exact q
    · exfalso
      have h3 := cast_le.2 (mval_le_iff.2 q)
      have h4 : (mval 9214364837600034816 : Rat) / (U : Rat) ≤ (mval (rung f) : Rat) / (U : Rat) := by
        rw [div_le UQ_pos, div_self_mul _ UQ_ne]; exact h3
      have h5 := hf.size
      grind
  obtain ⟨d, hd, hm⟩ := twice_word hsm
  obtain ⟨k, hk, e⟩ : ∃ k, k = 1074 ∧ mval (rung 4611686018427387904) = 2 * 2 ^ k := by refine ⟨1074, rfl, ?_⟩; decide +kernel
  have e1' : fmul 4611686018427387904 f = wd (sgn f) d := by
    rw [fmul_fin (by decide +kernel) hf.fin, e, show 2 * 2 ^ k * mval (rung f) = mval d * 2 ^ k by rw [hm]; generalize 2 ^ k = X; rw [Nat.mul_assoc, Nat.mul_assoc, Nat.mul_comm X], ← hk, rndQ_cancel, rnd_mval hd, show sgn 4611686018427387904 = false by decide +kernel, Bool.false_xor]
  rw [e1']
  have hv := V.word (s := sgn f) hd
  have e2 : sq (sgn f) ((mval d : Rat) / (U : Rat)) = 2 * a := by
    rw [hm, cast_mul, hf.form]
    have e3 : ((2 : Nat) : Rat) = 2 := rfl
    rw [e3]
    have h1 := div_self_mul (2 * (mval (rung f) : Rat)) UQ_ne
    have h3 := div_self_mul (mval (rung f) : Rat) UQ_ne
    have hU := UQ_ne
    have e4 : 2 * (mval (rung f) : Rat) / (U : Rat) = 2 * ((mval (rung f) : Rat) / (U : Rat)) := by
      generalize 2 * (mval (rung f) : Rat) / (U : Rat) = Y at *
      generalize (mval (rung f) : Rat) / (U : Rat) = X at *
      have : (Y - 2 * X) * (U : Rat) = 0 := by grind
      grind
    rw [e4]
    cases sgn f
    · rfl
    · show -(2 * _) = 2 * -_
      grind
  rw [e2] at hv
  exact hv
theorem et_500 : et ≤ 1 / 1000000 * (uu * pw (-500)) := Rat.le_trans et_1000 (by decide +kernel)
/-- the odd sum's inner part. -/
def hq (s : Rat) : Nat → Rat
  | 0 => 1 / 25
  | i + 1 => 1 / ((23 - 2 * i : Nat) : Rat) + s * hq s i
theorem AT_hq (u : Rat) : AT u 13 = u * (1 + u * u * hq (u * u) 11) := by
  simp only [AT, pn, hq]
  simp
  grind
theorem hq_size {s : Rat} (h : 0 ≤ s) (h2 : s ≤ 296 / 10000) : ∀ i, i ≤ 11 → 0 ≤ hq s i ∧ hq s i ≤ 345 / 1000
  | 0, _ => by simp only [hq]; constructor <;> grind
  | i + 1, hi => by
    obtain ⟨a, b⟩ := hq_size h h2 i (by omega)
    have c1 : ((3 : Nat) : Rat) ≤ ((23 - 2 * i : Nat) : Rat) := cast_le.2 (by omega)
    have e3 : ((3 : Nat) : Rat) = 3 := rfl
    rw [e3] at c1
    have m := mul_mono h h2 a b
    have p := Rat.mul_nonneg h a
    have d1 : 1 / ((23 - 2 * i : Nat) : Rat) ≤ 1 / 3 := by rw [div_le (by grind)]; grind
    have d2 : 0 ≤ 1 / ((23 - 2 * i : Nat) : Rat) := by rw [le_div (by grind)]; grind
    show 0 ≤ 1 / ((23 - 2 * i : Nat) : Rat) + s * hq s i ∧ 1 / ((23 - 2 * i : Nat) : Rat) + s * hq s i ≤ _
    constructor <;> grind
theorem q_err {s s' t g k d m t' : Rat} (hs0 : 0 ≤ s) (hs : s ≤ 296 / 10000) (h1 : ab (s' - s) ≤ 1001 / 1000 * (uu * s)) (h2 : ab (t - g) ≤ 8 / 10 * uu) (hg0 : 0 ≤ g) (hg : g ≤ 345 / 1000) (hk0 : 0 ≤ k) (hk : k ≤ 1 / 3)
    (hd : ab (d - k) ≤ uu * ab k + et) (hm : ab (m - s' * t) ≤ uu * ab (s' * t) + et) (ht : ab (t' - (d + m)) ≤ uu * ab (d + m)) : ab (t' - (k + s * g)) ≤ 8 / 10 * uu := by
  have hu : 0 < uu ∧ uu ≤ 1 / 1000000 := by decide +kernel
  have het := et_uu
  have he0 := et_pos
  rw [ab_pos hk0] at hd
  have us : uu * s ≤ 296 / 10000 * uu := by have := Rat.mul_le_mul_of_nonneg_left hs (Rat.le_of_lt hu.1); grind
  have us0 := Rat.mul_nonneg (Rat.le_of_lt hu.1) hs0
  have a1 := ab_le.1 h1
  have a2 := ab_le.1 h2
  have s1 : ab s' ≤ 297 / 10000 := by rw [ab_le]; constructor <;> grind
  have t1 : ab t ≤ 346 / 1000 := by rw [ab_le]; constructor <;> grind
  have st : ab (s' * t) ≤ 103 / 10000 := by
    rw [ab_mul]
    have := mul_mono (ab_nn s') s1 (ab_nn t) t1
    grind
  have st2 : ab (s' * t - s * g) ≤ 35 / 1000 * uu := by
    have e : s' * t - s * g = s' * (t - g) + (s' - s) * g := by grind
    rw [e]
    have b1 := ab_add (s' * (t - g)) ((s' - s) * g)
    have b2 : ab (s' * (t - g)) ≤ 297 / 10000 * (8 / 10 * uu) := by rw [ab_mul]; exact mul_mono (ab_nn _) s1 (ab_nn _) h2
    have b3 : ab ((s' - s) * g) ≤ 1001 / 1000 * (296 / 10000 * uu) * (345 / 1000) := by
      rw [ab_mul, ab_pos hg0]
      exact mul_mono (ab_nn _) (by grind) hg0 hg
    grind
  have k1 := Rat.mul_le_mul_of_nonneg_left st (Rat.le_of_lt hu.1)
  have k2 := Rat.mul_le_mul_of_nonneg_left hk (Rat.le_of_lt hu.1)
  have m1 : ab (m - s * g) ≤ 46 / 1000 * uu := by
    have := ab_tri m (s' * t) (s * g)
    grind
  have sg : 0 ≤ s * g ∧ s * g ≤ 103 / 10000 := by
    have := mul_mono hs0 hs hg0 hg
    exact ⟨Rat.mul_nonneg hs0 hg0, by grind⟩
  have dm : ab (d + m) ≤ 3438 / 10000 := by
    have c1 := ab_le.1 hd
    have c2 := ab_le.1 m1
    rw [ab_le]
    constructor <;> grind
  have k3 := Rat.mul_le_mul_of_nonneg_left dm (Rat.le_of_lt hu.1)
  have x1 := ab_tri t' (d + m) (k + s * g)
  have x2 := ab_add (d - k) (m - s * g)
  rw [show d - k + (m - s * g) = d + m - (k + s * g) by grind] at x2
  grind
theorem q_upto {S : Nat} {s s' : Rat} (hS : V S s') (h1 : ab (s' - s) ≤ 1001 / 1000 * (uu * s)) (hs0 : 0 ≤ s) (hs : s ≤ 296 / 10000) : ∀ i, i ≤ 11 → ∃ t, V (qSeq S i) t ∧ ab (t - hq s i) ≤ 8 / 10 * uu
  | 0, _ => by
    have h := V.pos (r := 4585925428558828667) (by decide)
    refine ⟨_, h, ?_⟩
    show ab ((mval 4585925428558828667 : Rat) / (U : Rat) - 1 / 25) ≤ _
    have m1 : 36028797018963968 * U ≤ mval 4585925428558828667 * (25 * 36028797018963968) + 25 * (8 * U / 10) ∧ mval 4585925428558828667 * (25 * 36028797018963968) ≤ 36028797018963968 * U + 25 * (8 * U / 10) := by decide +kernel
    have u1 : (mval 4585925428558828667 : Rat) / (U : Rat) ≤ 1 / 25 + 8 / 10 * uu := by
      rw [div_le UQ_pos]
      have h2 := cast_le.2 (show mval 4585925428558828667 * 900719925474099200 ≤ 36028797018963972 * U by decide +kernel)
      rw [cast_mul, cast_mul] at h2
      have e1 : ((900719925474099200 : Nat) : Rat) = 900719925474099200 := by decide +kernel
      have e2 : ((36028797018963972 : Nat) : Rat) = 36028797018963972 := by decide +kernel
      have e3 : 36028797018963972 / 900719925474099200 ≤ 1 / 25 + 8 / 10 * uu := by decide +kernel
      have := Rat.mul_le_mul_of_nonneg_right e3 (Rat.le_of_lt UQ_pos)
      grind
    have u2 : 1 / 25 - 8 / 10 * uu ≤ (mval 4585925428558828667 : Rat) / (U : Rat) := by
      rw [le_div UQ_pos]
      have h2 := cast_le.2 (show 36028797018963964 * U ≤ mval 4585925428558828667 * 900719925474099200 by decide +kernel)
      rw [cast_mul, cast_mul] at h2
      have e1 : ((900719925474099200 : Nat) : Rat) = 900719925474099200 := by decide +kernel
      have e2 : ((36028797018963964 : Nat) : Rat) = 36028797018963964 := by decide +kernel
      have e3 : 1 / 25 - 8 / 10 * uu ≤ 36028797018963964 / 900719925474099200 := by decide +kernel
      have := Rat.mul_le_mul_of_nonneg_right e3 (Rat.le_of_lt UQ_pos)
      grind
    rw [ab_le]
    constructor <;> grind
  | i + 1, hi => by
    obtain ⟨t, ht, h2⟩ := q_upto hS h1 hs0 hs i (by omega)
    obtain ⟨g0, g1⟩ := hq_size hs0 hs i (by omega)
    obtain ⟨c, hc⟩ : ∃ c, 23 - 2 * i = c := ⟨_, rfl⟩
    have hB := BG_big
    have hu : 0 < uu ∧ uu ≤ 1 / 1000000 := by decide +kernel
    have c1 : ((3 : Nat) : Rat) ≤ (c : Rat) := cast_le.2 (by omega)
    have e3 : ((3 : Nat) : Rat) = 3 := rfl
    rw [e3] at c1
    have k0 : 0 ≤ 1 / (c : Rat) ∧ 1 / (c : Rat) ≤ 1 / 3 := by
      constructor
      · rw [le_div (by grind)]; grind
      · rw [div_le (by grind)]; grind
    have hC := V.ofNat (k := c) (by omega)
    obtain ⟨d, hd, r1⟩ := V.unit1.div hC (by grind) (by rw [ab_pos k0.1]; grind)
    have us0 := Rat.mul_nonneg (Rat.le_of_lt hu.1) hs0
    have us : uu * s ≤ 1 / 1000000 * s := Rat.mul_le_mul_of_nonneg_right hu.2 hs0
    have a1 := ab_le.1 h1
    have a2 := ab_le.1 h2
    have s1 : ab s' ≤ 1 := by rw [ab_le]; constructor <;> grind
    have t1 : ab t ≤ 1 := by rw [ab_le]; constructor <;> grind
    have st : ab (s' * t) ≤ 1 := by
      rw [ab_mul]
      have := mul_mono (ab_nn s') s1 (ab_nn t) t1
      grind
    obtain ⟨m, hm, r2⟩ := hS.mul ht (by grind)
    have het := et_uu
    have dm : ab (d + m) ≤ 5 := by
      have k1 := Rat.mul_le_mul_of_nonneg_left st (Rat.le_of_lt hu.1)
      have k2 := Rat.mul_le_mul_of_nonneg_left k0.2 (Rat.le_of_lt hu.1)
      rw [ab_pos k0.1] at r1
      have c1 := ab_le.1 r1
      have c2 := ab_le.1 r2
      have c3 := ab_le.1 st
      rw [ab_le]
      constructor <;> grind
    obtain ⟨t', ht', r3⟩ := hd.add hm (by grind)
    refine ⟨t', ?_, ?_⟩
    · show V (fadd (fdiv 4607182418800017408 (ofInt (23 - 2 * (i : Int)))) (fmul S (qSeq S i))) t'
      rw [show (23 : Int) - 2 * (i : Int) = (c : Int) by omega]
      exact ht'
    · show ab (t' - (1 / ((23 - 2 * i : Nat) : Rat) + s * hq s i)) ≤ _
      rw [hc]
      exact q_err hs0 hs h1 h2 g0 g1 k0.1 k0.2 r1 r2 r3
end Go.Proofs.Ytcfkhhnkboealaa
