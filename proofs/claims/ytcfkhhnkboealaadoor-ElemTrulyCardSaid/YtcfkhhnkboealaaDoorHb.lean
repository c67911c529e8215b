/- Half sums of exponentials, by value. No text of the program. -/
import Derived.Test.YtcfkhhnkboealaaDoorHa
namespace Go.Proofs.YtcfkhhnkboealaaDoor
open Go.RowKit
set_option linter.unusedVariables false
set_option linter.unusedSimpArgs false
set_option maxRecDepth 100000
set_option maxHeartbeats 4000000
open Turns Sizes
theorem sqr_bern {x : Rat} (h : 0 ≤ x) : ∀ k : Nat, 1 + ((2 ^ k : Nat) : Rat) * x ≤ sqr k (1 + x)
  | 0 => by
    have e : ((2 ^ 0 : Nat) : Rat) = 1 := rfl
    rw [e, Rat.one_mul]
    exact Rat.le_refl
  | k + 1 => by
    have ih := sqr_bern h k
    have e : ((2 ^ (k + 1) : Nat) : Rat) = 2 * ((2 ^ k : Nat) : Rat) := by rw [Nat.pow_succ, cast_mul]; have : ((2 : Nat) : Rat) = 2 := rfl; grind
    have n : 0 ≤ ((2 ^ k : Nat) : Rat) * x := Rat.mul_nonneg (cast_nn _) h
    have m := mul_mono (show 0 ≤ 1 + ((2 ^ k : Nat) : Rat) * x by grind) ih (show 0 ≤ 1 + ((2 ^ k : Nat) : Rat) * x by grind) ih
    have q := Rat.mul_nonneg n n
    rw [e]
    show _ ≤ sqr k (1 + x) * sqr k (1 + x)
    grind
theorem XX_ge {a : Rat} (h : 0 ≤ a) : 1 + a ≤ XX a := by
  have t := tw_pos 16
  have h1 : 0 ≤ a * tw 16 := Rat.mul_nonneg h (Rat.le_of_lt t)
  have h2 := TT_mono h1 (show 1 ≤ 60 by decide)
  have h3 : TT (a * tw 16) 1 = 1 + a * tw 16 := by
    rw [TT_succ, TT_zero, ee_rat, ee_zero]
    simp
    grind
  rw [h3] at h2
  have h4 := sqr_bern h1 16
  have h5 := (sqr_mono (show 0 ≤ 1 + a * tw 16 by grind) h2 16).2
  have e : ((2 ^ 16 : Nat) : Rat) * (a * tw 16) = a := by
    have : ((2 ^ 16 : Nat) : Rat) * tw 16 = 1 := by decide +kernel
    grind
  rw [e] at h4
  exact Rat.le_trans h4 h5
theorem inv_near {a v w : Rat} (ha : ab a ≤ 750) (hv : Rl v (XX a) (tw 300)) (hw : Rl w (XX (-a)) (tw 300)) : ab (v * w - 1) ≤ tw 290 := by
  have h1 := rl_mul hv hw (Rat.le_of_lt (tw_pos _)) (Rat.le_of_lt (tw_pos _))
  have h2 := XX_add (a := a) (b := -a) (Rat.le_trans ha (by decide +kernel)) (by rw [ab_neg]; exact Rat.le_trans ha (by decide +kernel))
  rw [show a + -a = 0 by grind, XX_zero] at h2
  have h3 := (rl_mono (rl_trans h1 h2 (by decide +kernel)) (e := tw 290) (by decide +kernel)).1
  rw [Rat.mul_one] at h3
  exact h3
theorem rl_pos {v y : Rat} {d : Rat} (h : Rl v y d) (hd : d ≤ 1 / 2) : 0 < v ∧ (1 - d) * y ≤ v ∧ v ≤ (1 + d) * y := by
  obtain ⟨h1, h2⟩ := h
  have h3 := ab_le.1 h1
  have k := Rat.mul_le_mul_of_nonneg_right hd (Rat.le_of_lt h2)
  constructor
  · grind
  · constructor <;> grind
/-- below the infinite ones. -/
theorem XX_low {a : Rat} (h0 : 0 ≤ a) (h : a ≤ 709781 / 1000) : XX a ≤ pw 1024 * (1 - 1 / 10000) := by
  have hl : 7097826 / 10000 ≤ 1024 * L2 ∧ 1024 * L2 ≤ 710 := by decide +kernel
  have h1 := XX_add (a := a) (b := 1024 * L2 - a) (by rw [ab_pos h0]; grind) (by rw [ab_pos (by grind)]; grind)
  rw [show a + (1024 * L2 - a) = 1024 * L2 by grind] at h1
  have h3 := (XX_pow2 (n := 1024) (by decide) (by decide))
  have e : ((1024 : Int) : Rat) = 1024 := by decide +kernel
  rw [e] at h3
  have h4 := XX_ge (a := 1024 * L2 - a) (by grind)
  have h5 := (rl_pos (rl_trans h1 h3 (by decide +kernel)) (by decide +kernel)).2.2
  have h6 : tw 553 + tw 71 + tw 553 * tw 71 ≤ 1 / 1000000 := by decide +kernel
  have hM := pw_pos 1024
  have hX := XX_pos (a := a) (by rw [ab_pos h0]; grind)
  have k1 := Rat.mul_le_mul_of_nonneg_left (show 1 + 16 / 10000 ≤ XX (1024 * L2 - a) by grind) (Rat.le_of_lt hX)
  have k2 := Rat.mul_le_mul_of_nonneg_right h6 (Rat.le_of_lt hM)
  grind
theorem V.half : V 4602678819172646912 (1 / 2) := by
  have h := V.pos (r := 4602678819172646912) (by decide)
  have e : mval 4602678819172646912 * 2 = U := by decide +kernel
  have e2 : ((mval 4602678819172646912 * 2 : Nat) : Rat) = (U : Rat) := by rw [e]
  rw [cast_mul] at e2
  have h1 := div_self_mul (mval 4602678819172646912 : Rat) UQ_ne
  have hU := UQ_ne
  have e3 : ((2 : Nat) : Rat) = 2 := rfl
  have : (mval 4602678819172646912 : Rat) / (U : Rat) = 1 / 2 := by
    generalize (mval 4602678819172646912 : Rat) / (U : Rat) = Y at *
    have : (Y - 1 / 2) * (U : Rat) = 0 := by grind
    grind
  rwa [this] at h
theorem posV {E : Nat} {e : Rat} (hE : V E e) (hl : E < 9218868437227405312) : 0 ≤ e ∧ e = (mval E : Rat) / (U : Rat) ∧ rung E = E := by
  have e1 := hE.uniq (V.pos hl)
  refine ⟨?_, e1, (word_facts hl).2.2.1⟩
  rw [e1, le_div UQ_pos, Rat.zero_mul]
  exact cast_nn _
theorem mid_val {E : Nat} {e : Rat} (hE : V E e) (hl : E < 9218868437227405312) (h : E / 4503599627370496 < 1078) : e ≤ 36028797018963968 := by
  have h1 := cast_le.2 (mval_le_iff.2 (show E ≤ 4854880398305394688 by omega))
  have h2 := (vnum (w := 4854880398305394688) (k := 36028797018963968) (by decide) (by decide +kernel)).uniq (V.pos (by decide))
  have e9 : ((36028797018963968 : Nat) : Rat) = 36028797018963968 := by decide +kernel
  rw [e9] at h2
  rw [(posV hE hl).2.1, h2, div_le UQ_pos, div_self_mul _ UQ_ne]
  exact h1
theorem great_val {E : Nat} {e : Rat} (hE : V E e) (hl : E < 9218868437227405312) (h : 1077 ≤ E / 4503599627370496) : 9007199254740992 ≤ e := by
  have h1 := cast_le.2 (mval_le_iff.2 (show 4845873199050653696 ≤ E by omega))
  have h2 := (vnum (w := 4845873199050653696) (k := 9007199254740992) (by decide) (by decide +kernel)).uniq (V.pos (by decide))
  have e9 : ((9007199254740992 : Nat) : Rat) = 9007199254740992 := by decide +kernel
  rw [e9] at h2
  rw [(posV hE hl).2.1, h2, div_le UQ_pos, div_self_mul _ UQ_ne]
  exact h1
/-- what a unit is at least. -/
theorem unit_least {E : Nat} {e : Rat} (hE : V E e) (hl : E < 9218868437227405312) : uu * e ≤ gapq E ∧ (1 / 4 ≤ e → 1 / 2 * uu ≤ gapq E) ∧ (1 / 2 ≤ e → uu ≤ gapq E) := by
  obtain ⟨_, e1, _⟩ := posV hE hl
  rw [e1]
  refine ⟨gap_rel hl, fun h => ?_, fun h => ?_⟩
  · have := gap_ge (k := -2) hl (Rat.le_trans (by decide +kernel) h)
    exact Rat.le_trans (by decide +kernel) this
  · have := gap_ge (k := -1) hl (Rat.le_trans (by decide +kernel) h)
    exact Rat.le_trans (by decide +kernel) this
theorem near_to {E : Nat} {e v : Rat} (hE : V E e) (hl : E < 9218868437227405312) (hv : 999 / 1000 ≤ v) (h : 101 / 100 * ab (e - v) ≤ 4 * gapq E) : ab (e - v) ≤ 793 / 100 * (uu * e) ∧ 998 / 1000 ≤ e := by
  have hu : 0 < uu ∧ uu ≤ 1 / 1000000 := by decide +kernel
  have hh : 1 / 2 ≤ e := by
    rcases (show 1 / 2 ≤ e ∨ e < 1 / 2 by grind) with q | q
    · exact q
    · have g := gap_two hE (by grind) hl
      have := (ab_le.1 (show ab (e - v) ≤ 8 * uu by grind)).1
      grind
  have g := gap_normal hE hh hl
  have p0 := Rat.mul_nonneg (Rat.le_of_lt hu.1) (show 0 ≤ e by grind)
  have h1 : ab (e - v) ≤ 793 / 100 * (uu * e) := by grind
  have k := Rat.mul_le_mul_of_nonneg_right hu.2 (show 0 ≤ e by grind)
  have := (ab_le.1 h1).1
  exact ⟨h1, by grind⟩
theorem near_small {F : Nat} {f w : Rat} (hF : V F f) (hl : F < 9218868437227405312) (hw : w ≤ 1001 / 1000) (h : 101 / 100 * ab (f - w) ≤ 4 * gapq F) : ab (f - w) ≤ 793 / 100 * uu ∧ f ≤ 1002 / 1000 := by
  have hu : 0 < uu ∧ uu ≤ 1 / 1000000 := by decide +kernel
  have hf : f < 2 := by
    rcases (show f < 2 ∨ 2 ≤ f by grind) with q | q
    · exact q
    · have g := gap_normal hF (by grind) hl
      have p0 := Rat.mul_nonneg (Rat.le_of_lt hu.1) (show 0 ≤ f by grind)
      have := (ab_le.1 (show ab (f - w) ≤ 8 * (uu * f) by grind)).2
      have k := Rat.mul_le_mul_of_nonneg_right hu.2 (show 0 ≤ f by grind)
      grind
  have g := gap_two hF hf hl
  have h1 : ab (f - w) ≤ 793 / 100 * uu := by grind
  have := (ab_le.1 h1).2
  exact ⟨h1, by grind⟩
theorem small_room {c S G x : Rat} (h : ab (c - S) ≤ 1595 / 100 * G) (hc : ab c ≤ 9007199254740992 * G) (hx : ab (x - S) ≤ 4 * u4 * ab S) (hG : 0 ≤ G) : 1001 / 1000 * ab (c - x) ≤ 16 * G := by
  have t : 4 * u4 ≤ 1 / 9007199254740992000000 := by decide +kernel
  have n0 := ab_nn S
  have k1 := Rat.mul_le_mul_of_nonneg_right t n0
  have a1 : ab S ≤ ab c + ab (c - S) := by
    have := ab_sub c (c - S)
    rw [show c - (c - S) = S by grind] at this
    exact this
  have a2 : ab (c - x) ≤ ab (c - S) + 4 * u4 * ab S := by
    have := ab_sub (c - S) (x - S)
    rw [show c - S - (x - S) = c - x by grind] at this
    grind
  grind
theorem cosh_sums {e f v w t c G : Rat} (h1 : ab (e - v) ≤ 793 / 100 * (uu * e)) (he : 998 / 1000 ≤ e) (h2 : ab (f - w) ≤ 793 / 100 * uu) (h0 : 0 ≤ f) (hf : f ≤ 1002 / 1000) (hef : 149 / 100 ≤ e + f)
    (ht : ab (t - (e + f)) ≤ uu * ab (e + f)) (hc : ab (c - t * (1 / 2)) ≤ uu * ab (t * (1 / 2)) + et) (hG : uu * c ≤ G) (hG3 : 1 / 2 ≤ c → uu ≤ G) : ab (c - (v + w) * (1 / 2)) ≤ 159 / 10 * G ∧ 0 < c := by
  have hu : 0 < uu ∧ uu ≤ 1 / 1000000 := by decide +kernel
  have het : et ≤ 1 / 1000 * uu := by
    have x1 : et ≤ pw (-300) := by
      have := et_two
      have h3 : pw (-(e1 : Int)) ≤ pw (-300) := pw_mono (by rw [e1_eq]; decide)
      have := et_pos
      grind
    have x2 : pw (-300) ≤ 1 / 1000 * uu := by decide +kernel
    exact Rat.le_trans x1 x2
  have he0 := et_pos
  rw [ab_pos (show 0 ≤ e + f by grind)] at ht
  have k1 := Rat.mul_le_mul_of_nonneg_right hu.2 (show 0 ≤ e + f by grind)
  have ht' := ab_le.1 ht
  rw [ab_pos (show 0 ≤ t * (1 / 2) by grind)] at hc
  have k2 := Rat.mul_le_mul_of_nonneg_right hu.2 (show 0 ≤ t * (1 / 2) by grind)
  have hc' := ab_le.1 hc
  have c1 : 49 / 100 * (e + f) ≤ c := by grind
  have c2 : e + f ≤ 2001 / 1000 * c := by grind
  have k3 := Rat.mul_le_mul_of_nonneg_left c2 (Rat.le_of_lt hu.1)
  have k4 := Rat.mul_le_mul_of_nonneg_left (show t ≤ 1001 / 1000 * (e + f) by grind) (Rat.le_of_lt hu.1)
  have k5 := Rat.mul_le_mul_of_nonneg_left h0 (Rat.le_of_lt hu.1)
  have ch : uu ≤ G := hG3 (by grind)
  refine ⟨?_, by grind⟩
  have x1 := ab_tri c (t * (1 / 2)) ((e + f) * (1 / 2))
  have x2 := ab_tri c ((e + f) * (1 / 2)) ((v + w) * (1 / 2))
  have half : ab (1 / 2 : Rat) = 1 / 2 := by decide +kernel
  have x3 : ab (t * (1 / 2) - (e + f) * (1 / 2)) = 1 / 2 * ab (t - (e + f)) := by
    rw [show t * (1 / 2) - (e + f) * (1 / 2) = 1 / 2 * (t - (e + f)) by grind, ab_mul, half]
  have x4 : ab ((e + f) * (1 / 2) - (v + w) * (1 / 2)) ≤ 1 / 2 * (ab (e - v) + ab (f - w)) := by
    rw [show (e + f) * (1 / 2) - (v + w) * (1 / 2) = 1 / 2 * ((e - v) + (f - w)) by grind, ab_mul, half]
    have := ab_add (e - v) (f - w)
    grind
  rw [x3] at x1
  have e1' : uu * (t * (1 / 2)) = 1 / 2 * (uu * t) := by grind
  have e2' : uu * (e + f) = uu * e + uu * f := by grind
  have e3' : uu * (1001 / 1000 * (e + f)) = 1001 / 1000 * (uu * e + uu * f) := by grind
  have e4' : uu * (2001 / 1000 * c) = 2001 / 1000 * (uu * c) := by grind
  rw [e1'] at hc
  rw [e2'] at ht k3
  rw [e3'] at k4
  rw [e4'] at k3
  have k6 := Rat.mul_le_mul_of_nonneg_left hf (Rat.le_of_lt hu.1)
  generalize uu * e = A at *
  generalize uu * f = B at *
  generalize uu * c = C at *
  generalize uu * t = D at *
  clear ht' hc' hG3 c1 half k1 k2 e1' e2' e3' e4'
  grind
theorem cosh_near {E F : Nat} {e f v w : Rat} (hE : V E e) (hEl : E < 9218868437227405312) (hF : V F f) (hFl : F < 9218868437227405312) (hv : 999 / 1000 ≤ v) (hw0 : 0 ≤ w) (hw : w ≤ 1001 / 1000) (hvw : 3 / 2 ≤ v + w)
    (h1 : 101 / 100 * ab (e - v) ≤ 4 * gapq E) (h2 : 101 / 100 * ab (f - w) ≤ 4 * gapq F) :
    ∃ c, V (fmul (fadd E F) 4602678819172646912) c ∧ fmul (fadd E F) 4602678819172646912 < 9218868437227405312 ∧ ab (c - (v + w) * (1 / 2)) ≤ 159 / 10 * gapq (fmul (fadd E F) 4602678819172646912) := by
  obtain ⟨b1, b2⟩ := near_to hE hEl hv h1
  obtain ⟨c1, c2⟩ := near_small hF hFl hw h2
  have f0 := (posV hF hFl).1
  have hef : 149 / 100 ≤ e + f := by
    have hu : 0 < uu ∧ uu ≤ 1 / 1000000 := by decide +kernel
    have k := Rat.mul_le_mul_of_nonneg_right hu.2 (show 0 ≤ e by grind)
    have a1 := (ab_le.1 b1).1
    have a2 := (ab_le.1 c1).1
    generalize uu * e = A at *
    grind
  rcases Nat.lt_or_ge (E / 4503599627370496) 1077 with q | q
  · have hm := mid_val hE hEl (by omega)
    have hB := BG_big
    obtain ⟨t, ht, g1⟩ := hE.add hF (by rw [ab_pos (by grind)]; grind)
    have hu : 0 < uu ∧ uu ≤ 1 / 1000000 := by decide +kernel
    have g1' := g1
    rw [ab_pos (show 0 ≤ e + f by grind)] at g1'
    have k1 := Rat.mul_le_mul_of_nonneg_right hu.2 (show 0 ≤ e + f by grind)
    have ht' := ab_le.1 g1'
    obtain ⟨c, hc, g2⟩ := ht.mul V.half (by rw [ab_pos (by grind)]; grind)
    have hc0 : 0 < c := by
      rw [ab_pos (show 0 ≤ t * (1 / 2) by grind)] at g2
      have k2 := Rat.mul_le_mul_of_nonneg_right hu.2 (show 0 ≤ t * (1 / 2) by grind)
      have := (ab_le.1 g2).1
      have he : et ≤ 1 / 1000 := by
        have := et_two
        have h3 : pw (-(e1 : Int)) ≤ pw (-300) := pw_mono (by rw [e1_eq]; decide)
        have h4 : pw (-300) ≤ 1 / 1000 := by decide +kernel
        have := et_pos
        grind
      grind
    have hl := posW hc hc0
    obtain ⟨u1, _, u3⟩ := unit_least hc hl
    exact ⟨c, hc, hl, (cosh_sums b1 b2 c1 f0 c2 hef g1 g2 u1 u3).1⟩
  · have hF2 := below_word hF (show f < 2 by grind) hFl word_two
    obtain ⟨t1, t2, t3⟩ := add_top q hEl (Nat.le_of_lt hF2)
    obtain ⟨s1, s2, s3⟩ := half_word (t := fadd E F) (by omega) t2
    have he := (posV hE hEl).2.1
    have ge := great_val hE hEl q
    have gm := gap_mono t1
    rw [s1]
    have hl : fadd E F - 4503599627370496 < 9218868437227405312 := by omega
    refine ⟨_, V.pos hl, hl, ?_⟩
    rw [← he] at t3
    rw [s2] at t3
    have gr := gap_ge (k := 53) hEl (by rw [← he]; exact Rat.le_trans (show pw 53 ≤ 9007199254740992 by decide +kernel) ge)
    have g2 : (2 : Rat) ≤ gapq E := Rat.le_trans (by decide +kernel) gr
    generalize (mval (fadd E F - 4503599627370496) : Rat) / (U : Rat) = c at *
    generalize gapq (fadd E F - 4503599627370496) = G at *
    have half : ab (1 / 2 : Rat) = 1 / 2 := by decide +kernel
    have x1 : ab (c - (v + w) * (1 / 2)) ≤ 1 / 2 * (ab (2 * c - e) + ab (e - v) + ab w) := by
      rw [show c - (v + w) * (1 / 2) = 1 / 2 * ((2 * c - e) + (e - v) - w) by grind, ab_mul, half]
      have a1 := ab_sub ((2 * c - e) + (e - v)) w
      have a2 := ab_add (2 * c - e) (e - v)
      grind
    rw [ab_pos hw0] at x1
    clear half s2 he t1 t2 q hF2 hl hE hF
    grind
end Go.Proofs.YtcfkhhnkboealaaDoor
