/- The program's angle of a place: beside the line, and within its bounds. No text of the program. -/
import Derived.Test.YtcfkhhnkboealaaGd
namespace Go.Proofs.Ytcfkhhnkboealaa
open Go.RowKit
set_option linter.unusedVariables false
set_option linter.unusedSimpArgs false
set_option maxRecDepth 100000
set_option maxHeartbeats 4000000
open Turns Sizes
theorem one_top {f : Nat} {t : Rat} (hV : V f t) (hl : f < 9218868437227405312) (h : t ≤ 1 + 3 / 2 * uu) : t ≤ 1 := by
  have e := (posV hV hl).2.1
  have h1 := vfrac (w := 4607182418800017408) (N := 1) (D := 1) (by decide) (by decide) (by decide +kernel)
  have h2 := vfrac (w := 4607182418800017409) (N := 4503599627370497) (D := 4503599627370496) (by decide) (by decide) (by decide +kernel)
  have k2 : 1 + 2 * uu ≤ ((4503599627370497 : Nat) : Rat) / ((4503599627370496 : Nat) : Rat) := by decide +kernel
  have k1 : ((1 : Nat) : Rat) / ((1 : Nat) : Rat) = 1 := by decide +kernel
  have u0 : 0 < uu := by decide +kernel
  rcases Nat.lt_or_ge 4607182418800017408 f with q | q
  · exfalso
    have m := cast_le.2 (mval_le_iff.2 (show 4607182418800017409 ≤ f from q))
    have : (mval 4607182418800017409 : Rat) / (U : Rat) ≤ (mval f : Rat) / (U : Rat) := (div_le UQ_pos).2 (by rw [div_self_mul _ UQ_ne]; exact m)
    rw [← e, ← h2.uniq (V.pos (by decide))] at this
    grind
  · have m := cast_le.2 (mval_le_iff.2 q)
    have : (mval f : Rat) / (U : Rat) ≤ (mval 4607182418800017408 : Rat) / (U : Rat) := (div_le UQ_pos).2 (by rw [div_self_mul _ UQ_ne]; exact m)
    rw [← e, ← h1.uniq (V.pos (by decide)), k1] at this
    exact this
theorem quot_pos {p q : Nat} {P Q : Rat} (hp : V p P) (hq : V q Q) (lp : p < 9218868437227405312) (lq : q < 9218868437227405312) (hQ : 0 < Q) (hle : P ≤ Q) : ∃ t, V (fdiv p q) t ∧ fdiv p q < 9218868437227405312 ∧ 0 ≤ t ∧ t ≤ 1 ∧ ab (t - P / Q) ≤ uu * (P / Q) + et := by
  have hu : 0 < uu ∧ uu ≤ 1 / 1000000 := by decide +kernel
  have het := et_uu
  have hB := BG_big
  have p0 := (posV hp lp).1
  have x0 : 0 ≤ P / Q := by rw [le_div hQ]; grind
  have x1 : P / Q ≤ 1 := by rw [div_le hQ]; grind
  obtain ⟨t, ht, r⟩ := hp.div hq (by grind) (by rw [ab_pos x0]; grind)
  rw [ab_pos x0] at r
  obtain ⟨m1, k1, m2, k2, s, n, _, _, _, _, _, e⟩ := fdiv_fin hp.fin hq.fin (hq.nz (by grind))
  rw [(word_facts lp).2.1, (word_facts lq).2.1, show (false ^^ false) = false from rfl, wd_f0] at e
  have hf := fin_rung ht.fin
  have hlt : fdiv p q < 9218868437227405312 := by
    have hle2 : fdiv p q ≤ 9218868437227405312 := by rw [e]; exact rndQ_le _ _
    have : rung (fdiv p q) = fdiv p q := rung_pos (by omega)
    omega
  refine ⟨t, ht, hlt, (posV ht hlt).1, one_top ht hlt ?_, r⟩
  have k := Rat.mul_le_mul_of_nonneg_left x1 (Rat.le_of_lt hu.1)
  have := (ab_le.1 r).2
  generalize P / Q = z at *
  grind
/-- the angle of a place not above the diagonal. -/
theorem low_place {p q : Nat} {P Q : Rat} (hp : V p P) (hq : V q Q) (lp : p < 9218868437227405312) (lq : q < 9218868437227405312) (hQ : 0 < Q) (hle : P ≤ Q) : ∃ b, V (coreF (fdiv p q)) b ∧ Ln Q P b (53 / 10 * uu) ∧ -(2 * et) ≤ b ∧ b ≤ 79 / 100 := by
  have hu : 0 < uu ∧ uu ≤ 1 / 1000000 := by decide +kernel
  have het := et_uu
  have he0 := et_pos
  obtain ⟨t, ht, hlt, t0, t1, r⟩ := quot_pos hp hq lp lq hQ hle
  obtain ⟨b, hb, l, b0, b1⟩ := core_ln ht hlt t1
  refine ⟨b, hb, ?_, b0, b1⟩
  have s := l.scale hQ
  rw [show Q * 1 = Q by grind] at s
  have p0 := (posV hp lp).1
  have bb : ab b ≤ 6 := by rw [ab_le]; constructor <;> grind
  have e : ab (P - Q * t) ≤ 51 / 100 * uu * (ab Q + ab (Q * t)) := by
    have x : P / Q * Q = P := div_self_mul _ (by grind)
    have y : P - Q * t = -(Q * (t - P / Q)) := by grind
    rw [y, ab_neg, ab_mul, ab_pos (Rat.le_of_lt hQ), ab_pos (mul_nn (Rat.le_of_lt hQ) t0)]
    have k := Rat.mul_le_mul_of_nonneg_left r (Rat.le_of_lt hQ)
    have f1 : Q * (uu * (P / Q) + et) = uu * P + et * Q := by
      have : Q * (uu * (P / Q)) = uu * (P / Q * Q) := by grind
      rw [show Q * (uu * (P / Q) + et) = Q * (uu * (P / Q)) + et * Q by grind, this, x]
    rw [f1] at k
    have r' := (ab_le.1 r).1
    have qt : P - (uu * P + et * Q) ≤ Q * t := by
      have := Rat.mul_le_mul_of_nonneg_left (show P / Q - (uu * (P / Q) + et) ≤ t by grind) (Rat.le_of_lt hQ)
      have f2 : Q * (P / Q - (uu * (P / Q) + et)) = P / Q * Q - Q * (uu * (P / Q) + et) := by grind
      rw [f2, x, f1] at this
      exact this
    have uP := Rat.mul_le_mul_of_nonneg_left hle (Rat.le_of_lt hu.1)
    have uP0 := mul_nn (Rat.le_of_lt hu.1) p0
    have eQ := Rat.mul_le_mul_of_nonneg_right het (Rat.le_of_lt hQ)
    have uQ0 := Rat.mul_pos hu.1 hQ
    have uT := Rat.mul_le_mul_of_nonneg_left qt (Rat.le_of_lt hu.1)
    have uuP := Rat.mul_le_mul_of_nonneg_right hu.2 uP0
    have ueQ := Rat.mul_le_mul_of_nonneg_right hu.2 (mul_nn (Rat.le_of_lt he0) (Rat.le_of_lt hQ))
    have g1 : 51 / 100 * uu * (Q + Q * t) = 51 / 100 * (uu * Q) + 51 / 100 * (uu * (Q * t)) := by grind
    have g2 : uu * (P - (uu * P + et * Q)) = uu * P - uu * (uu * P) - uu * (et * Q) := by grind
    have g3 : 1 / 1000000 * uu * Q = 1 / 1000000 * (uu * Q) := by grind
    rw [g1]
    rw [g2] at uT
    rw [g3] at eQ
    clear x y f1 g1 g2 g3 r r' qt l s hb
    generalize Q * ab (t - P / Q) = y1 at *
    generalize uu * (uu * P) = y2 at *
    generalize uu * (et * Q) = y3 at *
    generalize uu * (Q * t) = y4 at *
    generalize uu * P = y5 at *
    generalize uu * Q = y6 at *
    generalize et * Q = y7 at *
    grind
  exact (s.other bb (by decide +kernel) (by decide +kernel) e (by decide +kernel) (by decide +kernel)).mono (by decide +kernel)
theorem cH2_eq : cH2 = 4609753056924675352 ∧ cL2 = 4364452196894661639 := by decide +kernel
theorem V.H2 : V 4609753056924675352 (piHi / 2) := by
  have h := vfrac (w := 4609753056924675352) (N := 884279719003555) (D := 562949953421312) (by decide) (by decide) (by decide +kernel)
  have e : ((884279719003555 : Nat) : Rat) / ((562949953421312 : Nat) : Rat) = piHi / 2 := by decide +kernel
  rwa [e] at h
theorem V.L2 : V 4364452196894661639 (piLo / 2) := by
  have h := vfrac (w := 4364452196894661639) (N := 4967757600021511) (D := 81129638414606681695789005144064) (by decide) (by decide) (by decide +kernel)
  have e : ((4967757600021511 : Nat) : Rat) / ((81129638414606681695789005144064 : Nat) : Rat) = piLo / 2 := by decide +kernel
  rwa [e] at h
theorem V.PLo : V 4368955796522032135 piLo := by
  have h := vfrac (w := 4368955796522032135) (N := 4967757600021511) (D := 40564819207303340847894502572032) (by decide) (by decide) (by decide +kernel)
  have e : ((4967757600021511 : Nat) : Rat) / ((40564819207303340847894502572032 : Nat) : Rat) = piLo := by decide +kernel
  rwa [e] at h
/-- no greater than a float. -/
theorem top_word {f g : Nat} {b c : Rat} (hf : V f b) (hg : V g c) (lg : g < 9218868437227405312) (h : ab b ≤ c) : rung f ≤ g := by
  rw [hf.size, (posV hg lg).2.1, div_le UQ_pos, div_self_mul _ UQ_ne] at h
  exact mval_le_iff.1 (cast_le.1 h)
/-- a difference that does not grow. -/
theorem top_sub {H m K : Nat} {h μ κ : Rat} (hH : V H h) (lH : H < 9218868437227405312) (hm : V m μ) (hK : V K κ) (lK : K < 9218868437227405312) (h1 : -κ ≤ μ) (h2 : μ ≤ h) (hr : rndN (mval H + mval K) ≤ H) : rung (fsub H m) ≤ H := by
  have a := (sval_vals hK.neg hm).1 h1
  have b := (sval_vals hm hH).1 h2
  have sH := (word_facts lH).2.2.2.2.1
  have sK : sval (fneg K) = -(mval K : Int) := by
    rw [sval_neg hK.lt (fin_notN hK.fin), (word_facts lK).2.2.2.2.1]
  rw [sK] at a
  rw [sH] at b
  rw [fsub_fin hH.fin hm.fin hm.lt, wd_rung (rndN_le _), sH]
  refine Nat.le_trans (rndN_mono (by omega)) hr
theorem K_low : 1001 / 1000 * (piLo / 2) ≤ (mval 4366703996708346887 : Rat) / (U : Rat) ∧ rndN (mval 4609753056924675352 + mval 4366703996708346887) ≤ 4609753056924675352 ∧ 1001 / 1000 * piLo ≤ (mval 4371207596335717383 : Rat) / (U : Rat) ∧ rndN (mval 4614256656552045848 + mval 4371207596335717383) ≤ 4614256656552045848 := by decide +kernel
/-- a difference by little, and what comes of it. -/
theorem low_sub {b L m : Rat} (hL : uu ≤ 2 * L) (hb : -(2 * et) ≤ b) (r : ab (m - (b - L)) ≤ uu * ab (b - L)) : -(1001 / 1000 * L) ≤ m := by
  have hu : 0 < uu ∧ uu ≤ 1 / 1000000 := by decide +kernel
  have het := et_uu
  have r' := (ab_le.1 r).1
  rcases (show 0 ≤ b - L ∨ b - L < 0 by grind) with q | q
  · rw [ab_pos q] at r'
    have := Rat.mul_le_mul_of_nonneg_right hu.2 q
    grind
  · have e : ab (b - L) = L - b := by unfold ab; grind
    rw [e] at r'
    have := Rat.mul_le_mul_of_nonneg_right hu.2 (show 0 ≤ L - b by grind)
    grind
/-- what the program's place comes to. -/
def PlaceOk (p q : Nat) (P Q b : Rat) : Prop := V (placeP p q) b ∧ Ln Q P b (7 * uu) ∧ -(2 * et) ≤ b ∧ b ≤ 1572 / 1000 ∧ rung (placeP p q) ≤ 4609753056924675352
theorem place_ok {p q : Nat} {P Q : Rat} (hpv : V p P) (hqv : V q Q) (lp : p < 9218868437227405312) (lq : q < 9218868437227405312) (h0 : 0 < P + Q) : ∃ b, PlaceOk p q P Q b := by
  have hu : 0 < uu ∧ uu ≤ 1 / 1000000 := by decide +kernel
  have het := et_uu
  have he0 := et_pos
  have p0 := (posV hpv lp).1
  have q0 := (posV hqv lq).1
  obtain ⟨g1, g2, g3, g4, g5, g6⟩ := pi_parts
  unfold PlaceOk placeP
  have hz : feq p 0 = decide (P = 0) := by
    rw [feq_zero (fin_notN hpv.fin)]
    by_cases h : P = 0
    · rw [decide_eq_true h]
      refine decide_eq_true ?_
      rcases Nat.eq_zero_or_pos (rung p) with k | k
      · exact k
      · exfalso
        have s := hpv.size
        rw [h, show ab (0 : Rat) = 0 by decide +kernel] at s
        have := mval_pos k
        have x := div_self_mul (mval (rung p) : Rat) UQ_ne
        rw [← s, Rat.zero_mul] at x
        have : ((0 : Nat) : Rat) = (mval (rung p) : Rat) := x
        have : 0 = mval (rung p) := by exact_mod_cast this
        omega
    · rw [decide_eq_false h]
      exact decide_eq_false (hpv.nz h)
  rw [hz]
  by_cases hP : P = 0
  · rw [decide_eq_true hP, if_pos rfl]
    have v0 : V 0 0 := by
      have := V.pos (r := 0) (by decide)
      rw [mval_zero] at this
      have e : ((0 : Nat) : Rat) / (U : Rat) = 0 := by
        have := UQ_ne
        have z0 : ((0 : Nat) : Rat) = 0 := rfl
        rw [z0]; grind
      rw [e] at this; exact this
    refine ⟨0, v0, ?_, by grind, by decide +kernel, by decide⟩
    unfold Ln
    rw [CS_zero, hP, Cq.one_re, Cq.one_im, show (1 : Rat) * Q + 0 * 0 = Q by grind, show (0 : Rat) * Q - 1 * 0 = 0 by grind, show ab (0 : Rat) = 0 by decide +kernel]
    exact ⟨by grind, mul_nn (by decide +kernel) q0⟩
  · rw [decide_eq_false hP, if_neg (by decide)]
    have hi : isInf p 1 = false := by
      rw [isInf_one, flt_words (by decide) lp]; exact decide_eq_false (by omega)
    rw [hi, Bool.and_false, if_neg (by decide), fle_val hpv hqv]
    by_cases hle : P ≤ Q
    · rw [decide_eq_true hle, if_pos rfl]
      obtain ⟨b, hb, l, b0, b1⟩ := low_place hpv hqv lp lq (by grind) hle
      refine ⟨b, hb, l.mono (by grind), b0, by grind, ?_⟩
      refine top_word hb V.H2 (by decide) ?_
      rw [ab_le]
      constructor <;> grind
    · rw [decide_eq_false hle, if_neg (by decide), cH2_eq.1, cH2_eq.2]
      obtain ⟨b, hb, l, b0, b1⟩ := low_place hqv hpv lq lp (by grind) (by grind)
      have lb : ab (b - piLo / 2) ≤ 8 / 10 := by rw [ab_le]; constructor <;> grind
      have hB := BG_big
      obtain ⟨m, hm, r1⟩ := hb.sub V.L2 (by grind)
      have ml := low_sub (L := piLo / 2) (by grind) b0 r1
      have k1 := Rat.mul_le_mul_of_nonneg_left lb (Rat.le_of_lt hu.1)
      have r1' := ab_le.1 r1
      have mb : ab (piHi / 2 - m) ≤ 158 / 100 := by rw [ab_le]; constructor <;> grind
      obtain ⟨c, hc, r2⟩ := V.H2.sub hm (by grind)
      have sw := l.swap (by rw [ab_le]; constructor <;> grind) (by grind) (by grind)
      -- the two roundings together
      have bn : ab (b - piLo / 2) ≤ b + 2 * uu := by rw [ab_le]; constructor <;> grind
      have hn : ab (piHi / 2 - m) ≤ hp - b + 3 * uu := by
        have : piHi / 2 = hp - piLo / 2 := by grind
        rw [this, ab_le]
        generalize hp = H at *
        constructor <;> grind
      have t1 := Rat.mul_le_mul_of_nonneg_left bn (Rat.le_of_lt hu.1)
      have t2 := Rat.mul_le_mul_of_nonneg_left hn (Rat.le_of_lt hu.1)
      have uh := Rat.mul_le_mul_of_nonneg_left (show hp ≤ 15708 / 10000 by decide +kernel) (Rat.le_of_lt hu.1)
      have uu2 := Rat.mul_le_mul_of_nonneg_left hu.2 (Rat.le_of_lt hu.1)
      have tot : ab (c - (hp - b)) ≤ 1572 / 1000 * uu := by
        have x := ab_sub (c - (piHi / 2 - m)) (m - (b - piLo / 2))
        have e : c - (piHi / 2 - m) - (m - (b - piLo / 2)) = c - (hp - b) := by
          have : hp = piHi / 2 + piLo / 2 := by grind
          rw [this]; grind
        rw [e] at x
        have f1 : uu * (b + 2 * uu) = uu * b + 2 * (uu * uu) := by grind
        have f2 : uu * (hp - b + 3 * uu) = uu * hp - uu * b + 3 * (uu * uu) := by grind
        rw [f1] at t1
        rw [f2] at t2
        clear e f1 f2 k1 r1' mb lb g1 g2 sw l
        generalize uu * b = y1 at *
        generalize uu * hp = y2 at *
        generalize uu * uu = y3 at *
        grind
      have sh := sw.shift (d := c - (hp - b)) (f := 1572 / 1000 * uu) (by
        have hs := hp_size
        generalize hp = H at *
        rw [ab_le]; constructor <;> grind) (by decide +kernel) (by decide +kernel) tot (by decide +kernel)
      rw [show hp - b + (c - (hp - b)) = c by grind] at sh
      have cl := ab_le.1 tot
      have hs : 157 / 100 ≤ hp ∧ hp ≤ 15708 / 10000 := by decide +kernel
      refine ⟨c, hc, sh.mono (by decide +kernel), ?_, ?_, ?_⟩
      · clear g1
        generalize hp = H at *
        grind
      · clear g1
        generalize hp = H at *
        grind
      · exact top_sub V.H2 (by decide) hm (V.pos (r := 4366703996708346887) (by decide)) (by decide) (by
          have := K_low.1
          grind) (by grind) K_low.2.1
end Go.Proofs.Ytcfkhhnkboealaa
