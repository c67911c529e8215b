/- RootTrue's plain law: the program's lengths and roots are near to the true ones. -/
import Derived.Test.YtcfkhhnkboealaaRc
import Derived.Test.YtcfkhhnkboealaaRsx
import Derived.Test.YtcfkhhnkboealaaRootC
import Derived.Test.YtcfkhhnkboealaaFrc
namespace Go.Proofs.Ytcfkhhnkboealaa
set_option linter.unusedVariables false
set_option linter.unusedSimpArgs false
set_option maxRecDepth 100000
theorem et_tau' : et ≤ tau := et_tau
theorem isInf_fin {f : Nat} (hf : fin f = true) : isInf f 0 = false := by rw [isInf0 (fin_notN hf), hf]; rfl
theorem V.great {f g : Nat} {x y : Rat} (hf : V f x) (hg : V g y) : ∃ G, V (greatF f g) G ∧ ab x ≤ G ∧ ab y ≤ G ∧ (G = ab x ∨ G = ab y) := by
  have h1 := fin_rung hf.fin
  have h2 := fin_rung hg.fin
  have hU := UQ_pos
  unfold greatF
  rw [fabs_of (fin_notN hf.fin), fabs_of (fin_notN hg.fin), flt_eq, num_pos (Nat.le_of_lt h1), num_pos (Nat.le_of_lt h2), sval_pos' (Nat.le_of_lt h1), sval_pos' (Nat.le_of_lt h2)]
  have key : ∀ {a b : Nat}, a ≤ b → (a : Rat) / (U : Rat) ≤ (b : Rat) / (U : Rat) := by
    intro a b h
    rw [div_le hU, div_self_mul _ UQ_ne]
    exact cast_le.2 h
  rcases Nat.lt_or_ge (mval (rung f)) (mval (rung g)) with h | h
  · have e : decide ((mval (rung f) : Int) < (mval (rung g) : Int)) = true := by simpa using h
    rw [e]
    refine ⟨ab y, hg.absv, ?_, Rat.le_refl, .inr rfl⟩
    rw [hf.size, hg.size]
    exact key (Nat.le_of_lt h)
  · have e : decide ((mval (rung f) : Int) < (mval (rung g) : Int)) = false := by simpa using h
    rw [e]
    refine ⟨ab x, hf.absv, Rat.le_refl, ?_, .inl rfl⟩
    rw [hf.size, hg.size]
    exact key h
theorem ab_zero {x : Rat} (h : ab x ≤ 0) : x = 0 := by unfold ab at h; grind
theorem ab_ne {x : Rat} (h : x ≠ 0) : 0 < ab x := by unfold ab; grind
theorem great_pos {x y G : Rat} (h0 : x ≠ 0 ∨ y ≠ 0) (hx : ab x ≤ G) (hy : ab y ≤ G) : 0 < G := by
  rcases h0 with h | h
  · have := ab_ne h; grind
  · have := ab_ne h; grind
theorem V.feq0 {f : Nat} {x : Rat} (hf : V f x) (h : x ≠ 0) : feq f 0 = false := by rw [feq_zero (fin_notN hf.fin)]; simpa using hf.nz h
theorem len_fin {f g : Nat} {x y : Rat} (hf : V f x) (hg : V g y) (h0 : x ≠ 0 ∨ y ≠ 0) : lenF f g = scaleF (fsqrt (sqF (scN f (lenK f g)) (scN g (lenK f g)))) (clampN (lenK f g)) := by
  obtain ⟨G, hG, g1, g2, _⟩ := hf.great hg
  have hp := great_pos h0 g1 g2
  unfold lenF
  rw [isInf_fin hf.fin, isInf_fin hg.fin, fin_notN hf.fin, fin_notN hg.fin, hG.feq0 (by grind)]
  simp
/-- THE SQUARE'S ROOT of two floats near 1: the sum of their squares is from 1/4 to 8. -/
theorem near_len {b1 b2 : Nat} {x y x1 y1 : Rat} (h1 : V b1 x1) (h2 : V b2 y1) (e1 : ab (x1 - x) ≤ et) (e2 : ab (y1 - y) ≤ et) (hx : ab x ≤ 2) (hy : ab y ≤ 2) (hS : 1 / 4 ≤ x * x + y * y) :
    ∃ L, V (fsqrt (sqF b1 b2)) L ∧ 0 ≤ L ∧ fsqrt (sqF b1 b2) < 9218868437227405312 ∧ 10 * (L * L) ≤ (10 + 41 * uu) * (x * x + y * y) ∧ (10 - 41 * uu) * (x * x + y * y) ≤ 10 * (L * L) := by
  have ht := et_tau'
  have hB := BG_big
  have tl : tau ≤ 1 := by decide +kernel
  have a1 : ab x1 ≤ 3 := by have := ab_add (x1 - x) x; rw [show x1 - x + x = x1 by grind] at this; grind
  have a2 : ab y1 ≤ 3 := by have := ab_add (y1 - y) y; rw [show y1 - y + y = y1 by grind] at this; grind
  have s1 : ab (x1 * x1) ≤ 9 := by rw [ab_mul]; have := mul_mono (ab_nn x1) a1 (ab_nn x1) a1; grind
  have s2 : ab (y1 * y1) ≤ 9 := by rw [ab_mul]; have := mul_mono (ab_nn y1) a2 (ab_nn y1) a2; grind
  obtain ⟨c1, hc1, k1⟩ := h1.mul h1 (by grind)
  obtain ⟨c2, hc2, k2⟩ := h2.mul h2 (by grind)
  have z1 := (prod_size ht a1 k1).2
  have z2 := (prod_size ht a2 k2).2
  have z3 := ab_add c1 c2
  obtain ⟨s, hs, k3⟩ := hc1.add hc2 (by grind)
  obtain ⟨q1, q2⟩ := sum_core ht e1 e2 hx hy hS k1 k2 k3
  have hs0 : 0 < s := by unfold uu at q2; grind
  obtain ⟨L, hL, hL0, l1, l2, l3⟩ := hs.sqrt hs0
  obtain ⟨q3, q4⟩ := len_core hS q1 q2 l1 l2
  exact ⟨L, hL, hL0, l3, q3, q4⟩
/-- a float times a power of two from 0 on: exact, or beyond all. -/
theorem scale_over {r : Nat} {a : Rat} (hr : r < 9218868437227405312) (h0 : 0 < r) (ha : V r a) (j : Nat) :
    (scaleF r (j : Int) < 9218868437227405312 ∧ V (scaleF r (j : Int)) (a * pw (j : Int))) ∨ (scaleF r (j : Int) = 9218868437227405312 ∧ (mval 9218868437227405311 : Rat) / (U : Rat) ≤ a * pw (j : Int)) := by
  have hU := UQ_pos
  have hrr : rung r = r := by unfold rung; omega
  have hs : sgn r = false := by unfold sgn; simp; omega
  have hsv := scale_val ha.lt ha.fin (by omega) (j : Int)
  rw [hrr, hs, rndE_nat, wdF] at hsv
  rw [hsv]
  have hval : a = (mval r : Rat) / (U : Rat) := by
    have e1 := ha.form
    rw [hs, hrr] at e1
    simpa [sq] using e1
  rcases Nat.lt_or_ge (rndN (mval r * 2 ^ j)) 9218868437227405312 with h | h
  · left
    refine ⟨h, ?_⟩
    obtain ⟨m, k, em, hm⟩ := mval_form' hr
    have hex : mval (rndN (mval r * 2 ^ j)) = mval r * 2 ^ j := by
      have e1 : mval r * 2 ^ j = m * 2 ^ (k + j) := by rw [em, Nat.mul_assoc, Nat.pow_add]
      rw [e1] at h ⊢
      exact rnd_shift_exact hm h
    have hv := V.pos h
    rw [hex, cast_mul] at hv
    rw [hval, pw_nat]
    have : (mval r : Rat) / (U : Rat) * ((2 ^ j : Nat) : Rat) = (mval r : Rat) * ((2 ^ j : Nat) : Rat) / (U : Rat) := by grind
    rw [this]
    exact hv
  · right
    refine ⟨Nat.le_antisymm (rndN_le _) h, ?_⟩
    have h2 : mval 9218868437227405311 ≤ mval r * 2 ^ j := by
      rcases Nat.lt_or_ge (mval r * 2 ^ j) (mval 9218868437227405311) with k | k
      · have := rndN_le_of (r := 9218868437227405311) (by decide) (Nat.le_of_lt k)
        omega
      · exact k
    have h3 := cast_le.2 h2
    rw [cast_mul] at h3
    rw [div_le hU, hval, pw_nat]
    have : (mval r : Rat) / (U : Rat) * ((2 ^ j : Nat) : Rat) * (U : Rat) = (mval r : Rat) * ((2 ^ j : Nat) : Rat) := by have := UQ_ne; grind
    rw [this]
    exact h3
theorem pos_of {r : Nat} {a : Rat} (ha : V r a) (h : 0 < a) (hr : r < 9218868437227405312) : 0 < r := by
  rcases Nat.eq_zero_or_pos r with rfl | h2
  · have e1 := ha.form
    rw [show rung 0 = 0 by decide +kernel, mval_zero] at e1
    have : ((0 : Nat) : Rat) / (U : Rat) = 0 := by grind
    rw [this] at e1
    exfalso
    rw [e1] at h
    cases sgn 0 <;> simp [sq] at h
  · exact h2
theorem V.val_pos {r : Nat} {a : Rat} (ha : V r a) (hr : r < 9218868437227405312) : a = (mval r : Rat) / (U : Rat) := ha.uniq (V.pos hr)
/-- what the length comes to. -/
def Lng (l : Nat) (T : Rat) : Prop := (l < 9218868437227405312 ∧ ((mval l : Rat) / (U : Rat) = T ∨ (ab ((mval l : Rat) / (U : Rat) - T) ≤ et ∧ l ≤ 4503599627370496))) ∨ (l = 9218868437227405312 ∧ (mval 9218868437227405311 : Rat) / (U : Rat) ≤ T)
theorem len_true {f g : Nat} {x y : Rat} (hf : V f x) (hg : V g y) (h0 : x ≠ 0 ∨ y ≠ 0) :
    ∃ T, 0 < T ∧ 10 * (T * T) ≤ (10 + 41 * uu) * (x * x + y * y) ∧ (10 - 41 * uu) * (x * x + y * y) ≤ 10 * (T * T) ∧ Lng (lenF f g) T := by
  obtain ⟨G, hG, g1, g2, g3⟩ := hf.great hg
  have hp := great_pos h0 g1 g2
  obtain ⟨p1, p2, p3, p4⟩ := hG.parts (by grind)
  have hk : partE (greatF f g) = lenK f g := rfl
  rw [hk] at p1 p2 p3 p4
  rw [len_fin hf hg h0]
  unfold scN
  generalize lenK f g = k at *
  rw [ab_pos (Rat.le_of_lt hp)] at p1 p2
  have hpp := pw_pos (-k)
  have hB := BG_big
  have x1 : ab (x * pw (-k)) ≤ 1 := by rw [ab_mul, ab_pos (Rat.le_of_lt hpp)]; have := Rat.mul_le_mul_of_nonneg_right g1 (Rat.le_of_lt hpp); grind
  have y1 : ab (y * pw (-k)) ≤ 1 := by rw [ab_mul, ab_pos (Rat.le_of_lt hpp)]; have := Rat.mul_le_mul_of_nonneg_right g2 (Rat.le_of_lt hpp); grind
  obtain ⟨b1, hb1, e1, _⟩ := hf.scale (n := -k) (by omega) (by omega) (by grind)
  obtain ⟨b2, hb2, e2, _⟩ := hg.scale (n := -k) (by omega) (by omega) (by grind)
  have hS : 1 / 4 ≤ x * pw (-k) * (x * pw (-k)) + y * pw (-k) * (y * pw (-k)) := by
    have n1 := sq_nn (x * pw (-k))
    have n2 := sq_nn (y * pw (-k))
    have hh := mul_mono (a := 1 / 2) (c := 1 / 2) (by decide +kernel) p1 (by decide +kernel) p1
    have e4 : (1 / 2 : Rat) * (1 / 2) = 1 / 4 := by decide +kernel
    rw [e4] at hh
    rcases g3 with g3 | g3
    · have : G * pw (-k) * (G * pw (-k)) = x * pw (-k) * (x * pw (-k)) := by
        rw [g3]; have := sq_ab' x; grind
      grind
    · have : G * pw (-k) * (G * pw (-k)) = y * pw (-k) * (y * pw (-k)) := by
        rw [g3]; have := sq_ab' y; grind
      grind
  obtain ⟨L, hL, hL0, hL1, q1, q2⟩ := near_len hb1 hb2 e1 e2 (by grind) (by grind) hS
  have hLp : 0 < L := by
    rcases Rat.le_iff_lt_or_eq.1 hL0 with h | h
    · exact h
    · rw [← h] at q2; unfold uu at q2; grind
  have hkk := pw_neg k
  have hkp := pw_pos k
  have hTp : 0 < L * pw k := Rat.mul_pos hLp hkp
  have hsq : ∀ t : Rat, t * (x * pw (-k) * (x * pw (-k)) + y * pw (-k) * (y * pw (-k))) * (pw k * pw k) = t * (x * x + y * y) := by
    intro t
    generalize pw (-k) = a at *
    generalize pw k = b at *
    have : a * b = 1 := by grind
    have h3 : a * a * (b * b) = 1 := by grind
    grind
  have hkk2 : 0 ≤ pw k * pw k := sq_nn _
  have r1 := Rat.mul_le_mul_of_nonneg_right q1 hkk2
  have r2 := Rat.mul_le_mul_of_nonneg_right q2 hkk2
  rw [hsq] at r1 r2
  refine ⟨L * pw k, hTp, by grind, by grind, ?_⟩
  have hLr := pos_of hL hLp hL1
  generalize fsqrt (sqF (scaleF f (clampN (-k))) (scaleF g (clampN (-k)))) = r at *
  by_cases hk0 : 0 ≤ k
  · obtain ⟨j, rfl⟩ := Int.eq_ofNat_of_zero_le hk0
    rw [clamp_id (by omega) (by omega)]
    rcases scale_over hL1 hLr hL j with ⟨o1, o2⟩ | ⟨o1, o2⟩
    · exact .inl ⟨o1, .inl (o2.val_pos o1).symm⟩
    · exact .inr ⟨o1, o2⟩
  · have hL4 : L ≤ 3 := by
      apply le_of_sq (by decide +kernel)
      have z1 := sq_le4 (x := x * pw (-k)) (by grind)
      have z2 := sq_le4 (x := y * pw (-k)) (by grind)
      unfold uu at q1
      grind
    have hpl : pw k ≤ 1 := by have := pw_mono (a := k) (b := 0) (by omega); rwa [pw_zero] at this
    have hTl : ab (L * pw k) ≤ 3 := by
      rw [ab_pos (Rat.le_of_lt hTp)]
      have := mul_mono hL0 hL4 (Rat.le_of_lt hkp) hpl
      grind
    obtain ⟨c, hc, e3, _, _, e4⟩ := hL.scale (n := k) (by omega) (by omega) (by grind)
    have hsr : scaleF r (clampN k) < 9218868437227405312 := by
      have hsv := scale_val hL.lt hL.fin (by unfold rung; omega) k
      rw [clamp_id (by omega) (by omega)] at hc ⊢
      have hs : sgn r = false := by unfold sgn; simp; omega
      rw [hs, wdF] at hsv
      have h1 := fin_rung hc.fin
      have h2 := rndE_le (mval (rung r)) k
      rw [hsv] at h1 ⊢
      unfold rung at h1 h2 ⊢
      omega
    have hcv := hc.val_pos hsr
    left
    refine ⟨hsr, ?_⟩
    by_cases hz : scaleF r (clampN k) ≤ 4503599627370496
    · right; rw [← hcv]; exact ⟨e3, hz⟩
    · left
      rw [← hcv]
      exact e4 (by unfold rung; omega)
theorem sqr_le {a b : Rat} (ha : 0 ≤ a) (h : a ≤ b) : a * a ≤ b * b := mul_mono ha h ha h
/-- FOUR FLOATS DOWN, FOUR FLOATS UP. -/
theorem len_sides {l : Nat} {T N : Rat} (hT : 0 < T) (h1 : 10 * (T * T) ≤ (10 + 41 * uu) * N) (h2 : (10 - 41 * uu) * N ≤ 10 * (T * T)) (hl : Lng l T) (hN : 1 / (U : Rat) * (1 / (U : Rat)) ≤ N) :
    (mval ((if l = 9218868437227405312 then 9218868437227405311 else l) - 4) : Rat) / (U : Rat) * ((mval ((if l = 9218868437227405312 then 9218868437227405311 else l) - 4) : Rat) / (U : Rat)) ≤ N ∧
    (l < 9218868437227405312 → N ≤ (abN l : Rat) / (U : Rat) * ((abN l : Rat) / (U : Rat))) ∧ l ≠ 0 := by
  have hU := UQ_pos
  have hne := UQ_ne
  have hN0 : 0 ≤ N := Rat.le_trans (sq_nn _) hN
  -- the lower side
  have lo : (mval ((if l = 9218868437227405312 then 9218868437227405311 else l) - 4) : Rat) / (U : Rat) ≤ (1 - 39 / 10 * uu) * T := by
    rw [div_le hU]
    rcases hl with ⟨hf, he⟩ | ⟨rfl, hi⟩
    · rw [if_neg (by omega)]
      obtain ⟨b1, b2⟩ := below4_q l
      rcases he with he | ⟨he, hs⟩
      · have : T * (U : Rat) = (mval l : Rat) := by rw [← he]; exact div_self_mul _ hne
        rw [Rat.mul_assoc, this]; exact b1
      · rw [mval_small hs] at he
        have k := b2 hs
        rw [k]
        rw [ab_le] at he
        have e1 := Rat.mul_le_mul_of_nonneg_right he.1 (Rat.le_of_lt hU)
        have e2 := Rat.mul_le_mul_of_nonneg_right he.2 (Rat.le_of_lt hU)
        have e3 := et_U
        have e4 := div_self_mul (l : Rat) hne
        have e5 : -et * (U : Rat) = -(1 / 2) := by grind
        have e6 : et * (U : Rat) = 1 / 2 := by grind
        have e7 : ((l : Rat) / (U : Rat) - T) * (U : Rat) = (l : Rat) - T * (U : Rat) := by grind
        rw [e5, e7] at e1
        rw [e6, e7] at e2
        have hs' := cast_le.2 hs
        have e9 : ((4503599627370496 : Nat) : Rat) = 4503599627370496 := rfl
        rw [e9] at hs'
        have hTU : 0 < T * (U : Rat) := Rat.mul_pos hT hU
        rw [Rat.mul_assoc]
        generalize T * (U : Rat) = t at *
        rcases Nat.lt_or_ge l 4 with h4 | h4
        · rw [show l - 4 = 0 by omega]
          have e : ((0 : Nat) : Rat) = 0 := rfl
          rw [e]
          exact mul_nn (by unfold uu; decide +kernel) (Rat.le_of_lt hTU)
        · have e10 : ((l - 4 : Nat) : Rat) + 4 = (l : Rat) := by
            have : l - 4 + 4 = l := by omega
            have e := congrArg (fun z : Nat => (z : Rat)) this
            simpa using e
          unfold uu
          grind
    · rw [if_pos rfl]
      obtain ⟨b1, _⟩ := below4_q 9218868437227405311
      have := Rat.mul_le_mul_of_nonneg_right hi (Rat.le_of_lt hU)
      rw [div_self_mul _ hne] at this
      have h9 := Rat.mul_le_mul_of_nonneg_left this (show (0 : Rat) ≤ 1 - 39 / 10 * uu by unfold uu; decide +kernel)
      rw [Rat.mul_assoc]
      exact Rat.le_trans b1 h9
  have lo0 : 0 ≤ (mval ((if l = 9218868437227405312 then 9218868437227405311 else l) - 4) : Rat) / (U : Rat) := (le_div hU).2 (by rw [Rat.zero_mul]; exact cast_nn _)
  refine ⟨?_, fun hf => ?_, ?_⟩
  · refine Rat.le_trans (sqr_le lo0 lo) ?_
    have e : (1 - 39 / 10 * uu) * T * ((1 - 39 / 10 * uu) * T) = (1 - 39 / 10 * uu) * (1 - 39 / 10 * uu) * (T * T) := by grind
    rw [e]
    generalize T * T = Q at *
    unfold uu at *
    grind
  · have up : (1 + 4 * uu) * T ≤ (abN l : Rat) / (U : Rat) := by
      rw [le_div hU]
      rcases hl with ⟨_, he⟩ | ⟨hi, _⟩
      · by_cases h4 : l + 4 < 9218868437227405312
        · have ea : (abN l : Rat) = (mval (l + 4) : Rat) := by unfold abN; rw [if_pos h4, sval_pos' (by omega)]; rfl
          rw [ea, Rat.mul_assoc]
          rcases he with he | ⟨he, hs⟩
          · have : T * (U : Rat) = (mval l : Rat) := by rw [← he]; exact div_self_mul _ hne
            rw [this]; exact above4_q l
          · rw [mval_small hs] at he
            rw [ab_le] at he
            have e1 := Rat.mul_le_mul_of_nonneg_right he.1 (Rat.le_of_lt hU)
            have e3 := et_U
            have e4 := div_self_mul (l : Rat) hne
            have e5 : -et * (U : Rat) = -(1 / 2) := by grind
            have e7 : ((l : Rat) / (U : Rat) - T) * (U : Rat) = (l : Rat) - T * (U : Rat) := by grind
            rw [e5, e7] at e1
            have hs' := cast_le.2 hs
            have e9 : ((4503599627370496 : Nat) : Rat) = 4503599627370496 := rfl
            rw [e9] at hs'
            have hm : l + 4 ≤ mval (l + 4) := by
              rcases Nat.lt_or_ge 4503599627370496 (l + 4) with c | c
              · have := mval_plc (L := 0) (q := l + 4) (by omega) (.inl rfl)
                simp at this; omega
              · rw [mval_small c]; exact Nat.le_refl _
            have hm := cast_le.2 hm
            have e10 : ((l + 4 : Nat) : Rat) = (l : Rat) + 4 := by grind
            rw [e10] at hm
            refine Rat.le_trans ?_ hm
            generalize T * (U : Rat) = t at *
            unfold uu
            grind
        · have ea : (abN l : Rat) = 2 * (mval 9218868437227405311 : Rat) := by
            unfold abN; rw [if_neg h4, sval_pos' (by decide)]
            have : (((mval 9218868437227405311 : Nat) : Int) * 2 : Int) = ((mval 9218868437227405311 * 2 : Nat) : Int) := by omega
            rw [this, icast, cast_mul]
            have e2 : ((2 : Nat) : Rat) = 2 := rfl
            rw [e2]; grind
          rw [ea, Rat.mul_assoc]
          rcases he with he | ⟨he, hs⟩
          · have : T * (U : Rat) = (mval l : Rat) := by rw [← he]; exact div_self_mul _ hne
            rw [this]
            have hm := cast_le.2 (mval_le_iff.2 (show l ≤ 9218868437227405311 by omega))
            have := cast_nn (mval l)
            unfold uu
            grind
          · omega
      · omega
    have up0 : 0 ≤ (1 + 4 * uu) * T := mul_nn (by unfold uu; decide +kernel) (Rat.le_of_lt hT)
    refine Rat.le_trans ?_ (sqr_le up0 up)
    have e : (1 + 4 * uu) * T * ((1 + 4 * uu) * T) = (1 + 4 * uu) * (1 + 4 * uu) * (T * T) := by grind
    rw [e]
    generalize T * T = Q at *
    unfold uu at *
    grind
  · rintro rfl
    have hT9 : 9 / 10 * (1 / (U : Rat)) ≤ T := by
      apply le_of_sq (Rat.le_of_lt hT)
      have e : 9 / 10 * (1 / (U : Rat)) * (9 / 10 * (1 / (U : Rat))) = 81 / 100 * (1 / (U : Rat) * (1 / (U : Rat))) := by grind
      rw [e]
      generalize 1 / (U : Rat) * (1 / (U : Rat)) = Z at *
      generalize T * T = Q at *
      unfold uu at *
      grind
    have hU1 : 0 < 1 / (U : Rat) := by
      have e := div_self_mul 1 hne
      rcases Rat.le_total (a := 1 / (U : Rat)) (b := 0) with k | k
      · have := Rat.mul_le_mul_of_nonneg_right k (Rat.le_of_lt hU); grind
      · by_cases e0 : 1 / (U : Rat) = 0
        · rw [e0] at e; grind
        · grind
    have het : et = 1 / 2 * (1 / (U : Rat)) := by unfold et; grind
    rcases hl with ⟨_, he⟩ | ⟨hi, _⟩
    · rw [mval_zero] at he
      have e0 : ((0 : Nat) : Rat) / (U : Rat) = 0 := by grind
      rw [e0] at he
      rcases he with he | ⟨he, _⟩
      · grind
      · rw [ab_le] at he; grind
    · cases hi
theorem et_pw : 2 * et = pw (-(e1 : Int)) := by
  have h1 := pw_negnat e1
  have h2 := et_U
  have h3 : ((2 ^ e1 : Nat) : Rat) = (U : Rat) := rfl
  rw [h3] at h1
  have := UQ_ne
  grind
theorem BG_pw : BG = pw (kBG : Int) := by rw [pw_nat]; rfl
theorem V.two : V 4611686018427387904 2 := by
  have h := V.pos (r := 4611686018427387904) (by decide)
  rw [show mval 4611686018427387904 = 2 * U by decide +kernel, cast_mul] at h
  have e : ((2 : Nat) : Rat) * (U : Rat) / (U : Rat) = 2 := by
    have e2 : ((2 : Nat) : Rat) = 2 := rfl
    have := UQ_ne
    rw [e2]; grind
  rwa [e] at h
theorem V.twice {r : Nat} {a : Rat} (h : V r a) (hr : r < 9218868437227405312) (hd : dbl r < 9218868437227405312) : V (fmul 4611686018427387904 r) (2 * a) := by
  have hrr : rung r = r := by unfold rung; omega
  have hs : sgn r = false := by unfold sgn; simp; omega
  rw [fmul_two' h.fin (by rw [hrr]; exact hd), hrr, hs, wdF, h.val_pos hr]
  have hv := V.pos hd
  rw [mval_dbl, cast_mul] at hv
  have e2 : ((2 : Nat) : Rat) = 2 := rfl
  rw [e2] at hv
  have e : 2 * ((mval r : Rat) / (U : Rat)) = 2 * (mval r : Rat) / (U : Rat) := by grind
  rw [e]; exact hv
theorem le_BG {a : Rat} {n : Int} (h : ab a ≤ pw n) (hn : n ≤ 1023) : ab a ≤ BG := by
  rw [BG_pw]
  exact Rat.le_trans h (pw_mono (by rw [kBG_eq]; omega))
theorem pos_word {f : Nat} {a : Rat} (hf : V f a) (h : 0 < a) : f < 9218868437227405312 := by
  have h1 := fin_rung hf.fin
  have hs : sgn f = false := by
    cases e : sgn f
    · rfl
    · have e1 := hf.form
      rw [e] at e1
      have e2 := (le_div (a := 0) (b := (mval (rung f) : Rat)) UQ_pos).2 (by rw [Rat.zero_mul]; exact cast_nn _)
      simp only [sq, if_true] at e1
      grind
  have hl := hf.lt
  unfold sgn at hs
  unfold rung at h1
  simp at hs
  omega
/-- below half of all, twice a float is one. -/
theorem dbl_fin {r : Nat} {a : Rat} (h : V r a) (hr : r < 9218868437227405312) (ha : 4 * a ≤ BG) : dbl r < 9218868437227405312 := by
  have hU := UQ_pos
  have h1 := h.val_pos hr
  have h2 : 4 * mval r ≤ mval 9214364837600034816 := by
    apply cast_le.1
    rw [mval_BG, cast_mul, show ((4 : Nat) : Rat) = 4 from rfl]
    have h3 := Rat.mul_le_mul_of_nonneg_right ha (Rat.le_of_lt hU)
    rw [h1] at h3
    have h4 := div_self_mul (mval r : Rat) UQ_ne
    have h5 := cast_nn (mval r)
    grind
  have h6 : 0 < mval 9214364837600034816 := mval_pos (by decide)
  have h3 := mval_lt_iff.1 (show mval r < mval 9214364837600034816 by omega)
  unfold dbl
  split <;> omega
theorem root_part {f g : Nat} {x y : Rat} (hf : V f x) (hg : V g y) (h0 : x ≠ 0 ∨ y ≠ 0) :
    ∃ s, V (rootS f g) s ∧ 0 < s ∧ ∀ g' y', V g' y' → y' * y' = y * y → ∃ v, V (fdiv g' (fmul 4611686018427387904 (rootS f g))) v ∧
      (s * s - v * v - ab x) * (s * s - v * v - ab x) + (2 * s * v - y') * (2 * s * v - y') ≤ (x * x + y * y) * (1024 * (uu * uu)) := by
  obtain ⟨G, hG, g1, g2, g3⟩ := hf.great hg
  have hp := great_pos h0 g1 g2
  obtain ⟨p1, p2, p3, p4⟩ := hG.parts (by grind)
  have hk : partE (greatF f g) / 2 = rootK f g := rfl
  rw [ab_pos (Rat.le_of_lt hp)] at p1 p2
  unfold rootS
  rw [← hk]
  generalize partE (greatF f g) = o at *
  obtain ⟨K, hK⟩ : ∃ K, o / 2 = K := ⟨_, rfl⟩
  have hKb : 2 * K ≤ o ∧ o ≤ 2 * K + 1 := by omega
  rw [hK] at hk ⊢
  clear hK hk
  have hB := BG_big
  have ht := et_tau'
  have hpp := pw_pos (-2 * K)
  -- the greater part, scaled: from 1/2 to below 2
  have po : pw (-o) ≤ pw (-2 * K) := pw_mono (by omega)
  have po2 : pw (-2 * K) ≤ pw (-o) * 2 := by rw [← pw_one, ← pw_add]; exact pw_mono (by omega)
  have G1 : 1 / 2 ≤ G * pw (-2 * K) := by
    have := Rat.mul_le_mul_of_nonneg_left po (Rat.le_of_lt hp); grind
  have G2 : G * pw (-2 * K) ≤ 2 := by
    have := Rat.mul_le_mul_of_nonneg_left po2 (Rat.le_of_lt hp); grind
  have x1 : ab (ab x * pw (-2 * K)) ≤ 2 := by
    rw [ab_mul, ab_pos (Rat.le_of_lt hpp), ab_pos (ab_nn x)]; have := Rat.mul_le_mul_of_nonneg_right g1 (Rat.le_of_lt hpp); grind
  have y1 : ab (y * pw (-2 * K)) ≤ 2 := by
    rw [ab_mul, ab_pos (Rat.le_of_lt hpp)]; have := Rat.mul_le_mul_of_nonneg_right g2 (Rat.le_of_lt hpp); grind
  rw [fabs_of (fin_notN hf.fin)]
  obtain ⟨b1, hb1, be1, _⟩ := hf.absv.scale (n := -2 * K) (by omega) (by omega) (by grind)
  obtain ⟨b2, hb2, be2, _⟩ := hg.scale (n := -2 * K) (by omega) (by omega) (by grind)
  obtain ⟨X, eX⟩ : ∃ X, X = ab x * pw (-2 * K) := ⟨_, rfl⟩
  obtain ⟨Y, eY⟩ : ∃ Y, Y = y * pw (-2 * K) := ⟨_, rfl⟩
  have hX0 : 0 ≤ X := by rw [eX]; exact mul_nn (ab_nn x) (Rat.le_of_lt hpp)
  rw [← eX] at x1 be1
  rw [← eY] at y1 be2
  have hS : 1 / 4 ≤ X * X + Y * Y := by
    have n1 := sq_nn X
    have n2 := sq_nn Y
    have hh := mul_mono (a := 1 / 2) (c := 1 / 2) (by decide +kernel) G1 (by decide +kernel) G1
    have e4 : (1 / 2 : Rat) * (1 / 2) = 1 / 4 := by decide +kernel
    rw [e4] at hh
    rcases g3 with g3 | g3
    · have : G * pw (-2 * K) * (G * pw (-2 * K)) = X * X := by rw [g3, eX]
      grind
    · have : G * pw (-2 * K) * (G * pw (-2 * K)) = Y * Y := by
        rw [g3, eY]; have := sq_ab' y; grind
      grind
  have xx := sq_le4 x1
  have yy := sq_le4 y1
  obtain ⟨L, hL, hL0, hL1, q1, q2⟩ := near_len hb1 hb2 be1 be2 x1 y1 hS
  generalize fsqrt (sqF (scaleF (rung f) (clampN (-2 * K))) (scaleF g (clampN (-2 * K)))) = rL at *
  generalize scaleF (rung f) (clampN (-2 * K)) = rb at *
  have L3 : 49 / 100 ≤ L := by
    apply le_of_sq hL0
    unfold uu at q2
    grind
  have L4 : L ≤ 3 := by
    apply le_of_sq (by decide +kernel)
    unfold uu at q1
    grind
  rw [ab_pos hX0] at x1
  have b1n : 0 ≤ b1 + L ∧ b1 + L ≤ 6 ∧ 48 / 100 ≤ b1 + L := by
    rw [ab_le] at be1; unfold tau at ht; grind
  obtain ⟨h, hh, k2⟩ := hb1.add hL (by rw [ab_pos b1n.1]; grind)
  have hn : 47 / 100 ≤ h ∧ h ≤ 7 := by
    have := b1n.2
    rw [ab_pos b1n.1, ab_le] at k2
    unfold uu at k2
    constructor <;> grind
  have ab2 : ab (h / 2) = h / 2 := ab_pos (by grind)
  obtain ⟨d, hd, k3⟩ := hh.div V.two (by decide +kernel) (by rw [ab2]; grind)
  have hdn : 23 / 100 ≤ d ∧ d ≤ 4 := by
    rw [ab2, ab_le] at k3
    unfold uu tau at *
    constructor <;> grind
  obtain ⟨S0, hS0, z0, s1, s2, _⟩ := hd.sqrt (by grind)
  generalize fsqrt (fdiv (fadd rb rL) 4611686018427387904) = r0 at *
  have S1 : 45 / 100 ≤ S0 := by
    apply le_of_sq z0
    unfold uu at s2
    grind
  have S2 : S0 ≤ 3 := by
    apply le_of_sq (by decide +kernel)
    unfold uu at s1
    grind
  have hKp := pw_pos K
  have K1 : K ≤ 512 := by omega
  have K2 : -551 ≤ K := by omega
  have p3' : pw 2 = 4 := by decide +kernel
  have pm3 : pw (-3) = 1 / 8 := by decide +kernel
  have sK : S0 * pw K ≤ pw (K + 2) := by
    rw [pw_add, p3']
    have := Rat.mul_le_mul_of_nonneg_right S2 (Rat.le_of_lt hKp)
    grind
  have sK2 : pw (K - 3) ≤ S0 * pw K := by
    rw [show K - 3 = K + -3 by omega, pw_add, pm3]
    have := Rat.mul_le_mul_of_nonneg_right S1 (Rat.le_of_lt hKp)
    grind
  have hsp : 0 < S0 * pw K := Rat.mul_pos (by grind) hKp
  obtain ⟨s, hs, _, _, es, _⟩ := hS0.scale (n := K) (by omega) (by omega) (le_BG (n := K + 2) (by rw [ab_pos (Rat.le_of_lt hsp)]; exact sK) (by omega))
  have es : s = S0 * pw K := by
    apply es
    rw [ab_pos (Rat.le_of_lt hsp), et_pw]
    refine Rat.le_trans ?_ sK2
    have e53 : (9007199254740992 : Rat) = pw 53 := by decide +kernel
    rw [e53, ← pw_add]
    exact pw_mono (by have := e1_eq; omega)
  have hs0 : 0 < s := by rw [es]; exact hsp
  refine ⟨s, hs, hs0, ?_⟩
  intro g' y' hg' hy'
  have hsw := pos_word hs hs0
  have h4s : 4 * s ≤ BG := by
    have : ab (4 * s) ≤ pw (K + 4) := by
      rw [ab_pos (by grind), es, show K + 4 = K + 2 + 2 by omega, pw_add, p3']
      grind
    have := le_BG this (by omega)
    rwa [ab_pos (by grind)] at this
  have ht2 := hs.twice hsw (dbl_fin hs hsw h4s)
  -- the scaled quotient
  obtain ⟨Y', eY'⟩ : ∃ Y', Y' = y' * pw (-2 * K) := ⟨_, rfl⟩
  have YY : Y' * Y' = Y * Y := by rw [eY', eY]; grind
  obtain ⟨w, ew⟩ : ∃ w, w = Y' / (2 * S0) := ⟨_, rfl⟩
  have hw : 2 * S0 * w = Y' := by rw [ew]; have : 2 * S0 ≠ 0 := by grind
                                  grind
  have y1' : ab Y' ≤ 2 := by
    apply le_of_sq (by decide +kernel)
    rw [sq_ab', YY]; grind
  have hwa : ab w ≤ 3 := by
    have : ab Y' = 2 * S0 * ab w := by rw [← hw, ab_mul, ab_pos (by grind)]
    rw [this] at y1'
    have h9 := ab_nn w
    have := Rat.mul_le_mul_of_nonneg_right S1 h9
    grind
  have pK : pw K * pw (-K) = 1 := pw_neg K
  have pK2 : pw (-2 * K) = pw (-K) * pw (-K) := by rw [← pw_add]; congr 1; omega
  have hq : y' / (2 * s) = w * pw K := by
    have h2s : 2 * s ≠ 0 := by grind
    have : y' = w * pw K * (2 * s) := by
      have e5 : y' = Y' * (pw K * pw K) := by
        rw [eY', pK2]
        generalize pw (-K) = a at *
        generalize pw K = b at *
        have : a * a * (b * b) = 1 := by grind
        grind
      rw [e5, ← hw, es]
      grind
    rw [this]
    grind
  have hqb : 2 * ab (y' / (2 * s)) ≤ BG := by
    rw [hq, ab_mul, ab_pos (Rat.le_of_lt hKp)]
    have : ab (2 * (ab w * pw K)) ≤ pw (K + 3) := by
      rw [ab_pos (mul_nn (by decide +kernel) (mul_nn (ab_nn w) (Rat.le_of_lt hKp))), pw_add, show pw 3 = 8 by decide +kernel]
      have := Rat.mul_le_mul_of_nonneg_right hwa (Rat.le_of_lt hKp)
      grind
    have h8 := le_BG this (by omega)
    rwa [ab_pos (mul_nn (by decide +kernel) (mul_nn (ab_nn w) (Rat.le_of_lt hKp)))] at h8
  obtain ⟨v, hv, ev⟩ := hg'.div ht2 (by grind) hqb
  refine ⟨v, hv, ?_⟩
  have hmK := pw_pos (-K)
  have etK : et * pw (-K) ≤ tau := by
    have e7 : et * pw (-K) = pw (-(e1 : Int) + -K) / 2 := by rw [pw_add, ← et_pw]; grind
    rw [e7]
    have e8 : pw (-(e1 : Int) + -K) ≤ pw (-200) := pw_mono (by have := e1_eq; omega)
    have e9 : pw (-200) = tau := by unfold tau; decide +kernel
    have e10 := pw_pos (-(e1 : Int) + -K)
    grind
  have hvw : ab (v * pw (-K) - w) ≤ 3 * uu * ab w + tau := by
    have e6 : v * pw (-K) - w = (v - y' / (2 * s)) * pw (-K) := by
      rw [hq]
      generalize pw (-K) = a at *
      generalize pw K = b at *
      grind
    rw [e6, ab_mul, ab_pos (Rat.le_of_lt hmK)]
    have e7 := Rat.mul_le_mul_of_nonneg_right ev (Rat.le_of_lt hmK)
    have e8 : (uu * ab (y' / (2 * s)) + et) * pw (-K) = uu * ab w + et * pw (-K) := by
      rw [hq, ab_mul, ab_pos (Rat.le_of_lt hKp)]
      generalize pw (-K) = a at *
      generalize pw K = b at *
      grind
    rw [e8] at e7
    have := ab_nn w
    have := mul_nn (Rat.le_of_lt uu_pos) this
    grind
  have core := root_core (x := X) (y := Y') (L := L) (A := S0 * S0) (S0 := S0) (b1 := b1) (h := h) (d := d) (v := v * pw (-K)) (w := w) (e := tau) Rat.le_refl hX0 x1 (by rw [YY]; exact hS) (by rw [YY]; grind) hL0 (by rw [YY]; exact q1) (by rw [YY]; exact q2)
    (by grind) k2 (by grind) z0 rfl s1 s2 hw hvw
  rw [YY] at core
  have hq4 : 0 ≤ pw K * pw K * (pw K * pw K) := sq_nn _
  have c4 := Rat.mul_le_mul_of_nonneg_right core hq4
  have f1 : s * s - v * v - ab x = (S0 * S0 - v * pw (-K) * (v * pw (-K)) - X) * (pw K * pw K) := by
    rw [es, eX, pK2]
    generalize pw (-K) = a at *
    generalize pw K = b at *
    have i1 : a * b = 1 := by grind
    have i2 : a * a * (b * b) = 1 := by grind
    grind
  have f2 : 2 * s * v - y' = (2 * S0 * (v * pw (-K)) - Y') * (pw K * pw K) := by
    rw [es, eY', pK2]
    generalize pw (-K) = a at *
    generalize pw K = b at *
    have i1 : a * b = 1 := by grind
    have i2 : a * a * (b * b) = 1 := by grind
    grind
  have f3 : (X * X + Y * Y) * (pw K * pw K * (pw K * pw K)) = x * x + y * y := by
    rw [eX, eY, pK2]
    have := sq_ab' x
    generalize pw (-K) = a at *
    generalize pw K = b at *
    have i1 : a * b = 1 := by grind
    have i2 : a * a * (b * b) = 1 := by grind
    have i3 : a * a * (a * a) * (b * b * (b * b)) = 1 := by grind
    grind
  rw [f1, f2]
  generalize S0 * S0 - v * pw (-K) * (v * pw (-K)) - X = D1 at *
  generalize 2 * S0 * (v * pw (-K)) - Y' = D2 at *
  generalize pw K * pw K = b at *
  rw [← f3]
  grind
theorem V.sign {f : Nat} {x : Rat} (hf : V f x) : fle 0 f = decide (0 ≤ x) := by
  rw [fle_eq, fin_notN hf.fin, show isN 0 = false by decide +kernel, sval_zero, ← hf.val]
  have hU := UQ_pos
  have : (0 ≤ sval f) ↔ (0 ≤ qv f) := by
    unfold qv
    rw [le_div hU, Rat.zero_mul]
    exact cast_le' (a := 0) (b := sval f) |>.symm
  simp [this]
theorem copy_word {s g : Nat} (h : s < 9218868437227405312) : copyF s g = wd (sgn g) s := by
  have e : (rung s + if sgn g then 9223372036854775808 else 0) = wd (sgn g) s := by
    unfold wd rung
    split <;> omega
  unfold copyF
  rw [e]
  exact nrm_of_not (wd_notN (Nat.le_of_lt h))
theorem edge_false {f g : Nat} {x y : Rat} (hf : V f x) (hg : V g y) (h0 : x ≠ 0 ∨ y ≠ 0) : edgeIs f g = false := by
  have nf := fin_notN hf.fin
  have ng := fin_notN hg.fin
  have rf := fin_rung hf.fin
  unfold edgeIs
  rw [isInf_fin hg.fin, infP_iff hf.lt nf, infN_iff hf.lt nf, nf, ng]
  have e1 : decide (f = 9218868437227405312) = false := by
    apply decide_eq_false; rintro rfl; exact absurd rf (by decide +kernel)
  have e2 : decide (f = 18442240474082181120) = false := by
    apply decide_eq_false; rintro rfl; exact absurd rf (by decide +kernel)
  have e3 : (feq f 0 && feq g 0) = false := by
    rcases h0 with h | h
    · rw [hf.feq0 h]; rfl
    · rw [hg.feq0 h]; simp
  rw [e1, e2, e3]
  rfl
theorem root_true {f g : Nat} {x y : Rat} (hf : V f x) (hg : V g y) (h0 : x ≠ 0 ∨ y ≠ 0) :
    ∃ u v, V (rootX f g) u ∧ V (rootY f g) v ∧ (u * u - v * v - x) * (u * u - v * v - x) + (2 * u * v - y) * (2 * u * v - y) ≤ (x * x + y * y) * (1024 * (uu * uu)) := by
  obtain ⟨s, hs, hs0, hq⟩ := root_part hf hg h0
  have he := edge_false hf hg h0
  unfold rootX rootY
  rw [he, hf.sign]
  by_cases hx : 0 ≤ x
  · rw [decide_eq_true hx]
    obtain ⟨v, hv, h1⟩ := hq g y hg rfl
    rw [ab_pos hx] at h1
    exact ⟨s, v, hs, hv, h1⟩
  · rw [decide_eq_false hx]
    obtain ⟨v, hv, h1⟩ := hq (rung g) (ab y) hg.absv (sq_ab' y)
    have hax : ab x = -x := by unfold ab; grind
    rw [hax] at h1
    have hsw := pos_word hs hs0
    simp only [Bool.false_eq_true, if_false]
    rw [fabs_of (fin_notN hg.fin), copy_word hsw]
    have hw := V.word (s := sgn g) hsw
    rw [← hs.val_pos hsw] at hw
    refine ⟨v, _, hv, hw, ?_⟩
    have hy := hg.form
    rw [← hg.size] at hy
    generalize ab y = Y at *
    have i3 : sq (sgn g) Y * sq (sgn g) Y = Y * Y := by cases sgn g <;> simp [sq] <;> grind
    rw [hy, i3] at h1
    rw [hy, i3]
    clear i3 hw hy hv hq
    cases sgn g
    · have i1 : (v * v - sq false s * sq false s - x) * (v * v - sq false s * sq false s - x) = (s * s - v * v - -x) * (s * s - v * v - -x) := by simp only [sq, Bool.false_eq_true, if_false]; grind
      have i2 : (2 * v * sq false s - sq false Y) * (2 * v * sq false s - sq false Y) = (2 * s * v - Y) * (2 * s * v - Y) := by simp only [sq, Bool.false_eq_true, if_false]; grind
      rw [i1, i2]
      exact h1
    · have i1 : (v * v - sq true s * sq true s - x) * (v * v - sq true s * sq true s - x) = (s * s - v * v - -x) * (s * s - v * v - -x) := by simp only [sq, if_true]; grind
      have i2 : (2 * v * sq true s - sq true Y) * (2 * v * sq true s - sq true Y) = (2 * s * v - Y) * (2 * s * v - Y) := by simp only [sq, if_true]; grind
      rw [i1, i2]
      exact h1
/-- of two noughts. -/
theorem root_zero {f g : Nat} (hf : V f 0) (hg : V g 0) : rootX f g = 0 ∧ rootY f g = g := by
  have nf := fin_notN hf.fin
  have ng := fin_notN hg.fin
  have rf : rung f = 0 := by
    rcases Nat.eq_zero_or_pos (rung f) with h | h
    · exact h
    · exfalso
      have h1 := hf.size
      have h2 := mval_pos h
      have hU := UQ_pos
      have h3 := div_self_mul (mval (rung f) : Rat) UQ_ne
      rw [← h1, show ab 0 = 0 by decide +kernel] at h3
      have : ((1 : Nat) : Rat) ≤ (mval (rung f) : Rat) := cast_le.2 h2
      have e : ((1 : Nat) : Rat) = 1 := rfl
      grind
  have rg : rung g = 0 := by
    rcases Nat.eq_zero_or_pos (rung g) with h | h
    · exact h
    · exfalso
      have h1 := hg.size
      have h2 := mval_pos h
      have hU := UQ_pos
      have h3 := div_self_mul (mval (rung g) : Rat) UQ_ne
      rw [← h1, show ab 0 = 0 by decide +kernel] at h3
      have : ((1 : Nat) : Rat) ≤ (mval (rung g) : Rat) := cast_le.2 h2
      have e : ((1 : Nat) : Rat) = 1 := rfl
      grind
  have e1 : decide (f = 9218868437227405312) = false := by
    apply decide_eq_false; rintro rfl; exact absurd rf (by decide +kernel)
  have e2 : decide (f = 18442240474082181120) = false := by
    apply decide_eq_false; rintro rfl; exact absurd rf (by decide +kernel)
  unfold rootX rootY edgeIs edgeX edgeY
  rw [isInf_fin hg.fin, infP_iff hf.lt nf, infN_iff hf.lt nf, nf, ng, e1, e2, feq_zero nf, feq_zero ng, rf, rg]
  simp
end Go.Proofs.Ytcfkhhnkboealaa
