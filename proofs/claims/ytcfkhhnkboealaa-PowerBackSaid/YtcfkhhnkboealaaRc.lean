/- Lengths and roots of complex numbers: near to the true ones, over fractions alone. No text of the program. -/
import Derived.Test.YtcfkhhnkboealaaQv
namespace Go.Proofs.Ytcfkhhnkboealaa
set_option linter.unusedVariables false
theorem sq_near {a b e M : Rat} (h : ab (a - b) ≤ e) (hb : ab b ≤ M) (he : e ≤ 1) : ab (a * a - b * b) ≤ e * (2 * M + 1) := by
  have e1 : a * a - b * b = (a - b) * (a - b) + 2 * (b * (a - b)) := by grind
  have h0 := ab_nn (a - b)
  have h1 := ab_nn b
  have e2 : ab ((a - b) * (a - b)) ≤ e * 1 := by rw [ab_mul]; exact mul_mono h0 h h0 (Rat.le_trans h he)
  have e3 : ab (b * (a - b)) ≤ M * e := by rw [ab_mul]; exact mul_mono h1 hb h0 h
  have e4 := ab_add ((a - b) * (a - b)) (2 * (b * (a - b)))
  have e5 : ab (2 * (b * (a - b))) = 2 * ab (b * (a - b)) := by rw [ab_mul]; congr 1
  rw [e1]; grind
theorem sq_nn (a : Rat) : 0 ≤ a * a := by
  have := mul_nn (ab_nn a) (ab_nn a)
  rw [← ab_mul] at this
  rcases Rat.le_total (a := 0) (b := a) with h | h
  · exact mul_nn h h
  · have := mul_nn (x := -a) (y := -a) (by grind) (by grind); grind
def tau : Rat := 1 / 1606938044258990275541962092341162602522202993782792835301376
/-- A LENGTH'S SQUARE: near to the true one. -/
theorem sum_core {x y b1 b2 c1 c2 s e : Rat} (he : e ≤ tau) (h1 : ab (b1 - x) ≤ e) (h2 : ab (b2 - y) ≤ e) (hx : ab x ≤ 2) (hy : ab y ≤ 2) (hS : 1 / 4 ≤ x * x + y * y)
    (k1 : ab (c1 - b1 * b1) ≤ uu * ab (b1 * b1) + e) (k2 : ab (c2 - b2 * b2) ≤ uu * ab (b2 * b2) + e) (k3 : ab (s - (c1 + c2)) ≤ uu * ab (c1 + c2)) :
    10 * s ≤ (10 + 205 / 10 * uu) * (x * x + y * y) ∧ (10 - 205 / 10 * uu) * (x * x + y * y) ≤ 10 * s := by
  have he1 : e ≤ 1 := by unfold tau at he; grind
  have a1 := sq_near h1 hx he1
  have a2 := sq_near h2 hy he1
  have p1 := sq_nn b1
  have p2 := sq_nn b2
  rw [ab_pos p1] at k1
  rw [ab_pos p2] at k2
  have p3 := sq_nn x
  have p4 := sq_nn y
  rw [ab_le] at a1 a2 k1 k2
  generalize b1 * b1 = B1 at *
  generalize b2 * b2 = B2 at *
  generalize x * x = X at *
  generalize y * y = Y at *
  have hc : 0 ≤ c1 + c2 := by unfold tau at he; unfold uu at k1 k2; grind
  rw [ab_pos hc, ab_le] at k3
  unfold tau at he
  unfold uu at *
  constructor <;> grind
theorem sq_le4 {x : Rat} (hx : ab x ≤ 2) : x * x ≤ 4 := by
  have := mul_mono (ab_nn x) hx (ab_nn x) hx
  rw [← ab_mul, ab_pos (sq_nn x)] at this
  grind
theorem prod_size {b1 c1 : Rat} {e : Rat} (he : e ≤ tau) (h1 : ab b1 ≤ 3) (k1 : ab (c1 - b1 * b1) ≤ uu * ab (b1 * b1) + e) : ab (b1 * b1) ≤ 9 ∧ ab c1 ≤ 10 := by
  have p1 := sq_nn b1
  have h9 : b1 * b1 ≤ 9 := by
    have := mul_mono (ab_nn b1) h1 (ab_nn b1) h1
    rw [← ab_mul, ab_pos p1] at this
    grind
  rw [ab_pos p1] at *
  refine ⟨h9, ?_⟩
  rw [ab_le] at k1 ⊢
  unfold tau at he
  unfold uu at *
  constructor <;> grind
theorem len_core {S s L : Rat} (hS : 1 / 4 ≤ S) (h1 : 10 * s ≤ (10 + 205 / 10 * uu) * S) (h2 : (10 - 205 / 10 * uu) * S ≤ 10 * s)
    (l1 : L * L ≤ (1 + uu) * (1 + uu) * s) (l2 : (1 - uu) * (1 - uu) * s ≤ L * L) :
    10 * (L * L) ≤ (10 + 41 * uu) * S ∧ (10 - 41 * uu) * S ≤ 10 * (L * L) := by
  generalize L * L = Q at *
  unfold uu at *
  constructor <;> grind
theorem sq_lt_of {a b : Rat} (hb : 0 ≤ b) (h : b * b < a * a) (ha : 0 ≤ a) : b < a := by
  rcases Rat.le_total (a := a) (b := b) with k | k
  · have := mul_mono ha k ha k; grind
  · grind
theorem le_of_sq {a b : Rat} (hb : 0 ≤ b) (h : a * a ≤ b * b) : a ≤ b := by
  rcases Rat.le_total (a := a) (b := b) with k | k
  · exact k
  · have h0 : 0 ≤ a := Rat.le_trans hb k
    by_cases e : a = b
    · rw [e]; exact Rat.le_refl
    · exfalso
      have h1 : b < a := by grind
      have := Rat.mul_pos (a := a - b) (b := a + b) (by grind) (by grind)
      grind
theorem sq_ab' (a : Rat) : ab a * ab a = a * a := by rw [← ab_mul, ab_pos (sq_nn a)]
theorem root_aux {T T1 T2 W we ee e L : Rat} (he : e ≤ tau) (he0 : 0 ≤ e) (hL3 : 49 / 100 ≤ L) (hw2 : W ≤ 51 / 100 * L) (hW : 0 ≤ W) (k4 : T ≤ T1 + 2 * T2) (k2 : T1 ≤ 9 * uu * uu * W + (6 * uu * we + ee)) (k3 : T2 ≤ 3 * uu * W + we) (k8 : we ≤ 2 * e) (k9 : ee ≤ 1 * e) (k10 : 0 ≤ we) : T ≤ 34 / 10 * uu * L := by
  unfold uu tau at *
  grind
/-- A ROOT'S SQUARE: near to the number. -/
theorem root_core {x y L A S0 b1 h d v w e : Rat} (he : e ≤ tau) (hx0 : 0 ≤ x) (hx2 : x ≤ 2) (hS : 1 / 4 ≤ x * x + y * y) (hS2 : x * x + y * y ≤ 8)
    (hL0 : 0 ≤ L) (hL1 : 10 * (L * L) ≤ (10 + 41 * uu) * (x * x + y * y)) (hL2 : (10 - 41 * uu) * (x * x + y * y) ≤ 10 * (L * L))
    (g1 : ab (b1 - x) ≤ e) (g2 : ab (h - (b1 + L)) ≤ uu * ab (b1 + L)) (g3 : ab (d - h / 2) ≤ uu * ab (h / 2) + e)
    (hS0 : 0 ≤ S0) (eA : A = S0 * S0) (s1 : A ≤ (1 + uu) * (1 + uu) * d) (s2 : (1 - uu) * (1 - uu) * d ≤ A)
    (hw : 2 * S0 * w = y) (hv : ab (v - w) ≤ 3 * uu * ab w + e) :
    (A - v * v - x) * (A - v * v - x) + (2 * S0 * v - y) * (2 * S0 * v - y) ≤ (x * x + y * y) * (1024 * (uu * uu)) := by
  have he0 : 0 ≤ e := Rat.le_trans (ab_nn _) g1
  have hx2' := sq_nn x
  have hy2 := sq_nn y
  have hL3 : 49 / 100 ≤ L := by
    apply le_of_sq hL0
    unfold uu at hL2
    grind
  have hL4 : L ≤ 3 := by
    apply le_of_sq (by decide +kernel)
    unfold uu at hL1
    grind
  have hxL : x ≤ (1 + 3 * uu) * L := by
    apply le_of_sq (mul_nn (by unfold uu; decide +kernel) hL0)
    have : (1 + 3 * uu) * L * ((1 + 3 * uu) * L) = (1 + 3 * uu) * (1 + 3 * uu) * (L * L) := by grind
    rw [this]
    unfold uu at *
    grind
  have hyL : ab y ≤ 101 / 100 * L := by
    apply le_of_sq (mul_nn (by decide +kernel) hL0)
    rw [sq_ab']
    have : (101 / 100) * L * ((101 / 100) * L) = 10201 / 10000 * (L * L) := by grind
    rw [this]
    unfold uu at *
    grind
  obtain ⟨P, eP⟩ : ∃ P, P = (x + L) / 2 := ⟨_, rfl⟩
  have hP0 : 245 / 1000 ≤ P := by grind
  have hPL : L ≤ 2 * P := by grind
  have hP1 : P ≤ 3 := by grind
  have hb : 0 ≤ b1 + L := by rw [ab_le] at g1; unfold tau at he; grind
  rw [ab_pos hb, ab_le] at g2
  rw [ab_le] at g1
  have hh : 0 ≤ h / 2 := by unfold uu tau at *; grind
  rw [ab_pos hh, ab_le] at g3
  have hd1 : d ≤ (1 + 22 / 10 * uu) * P := by unfold uu tau at *; grind
  have hd2 : (1 - 22 / 10 * uu) * P ≤ d := by unfold uu tau at *; grind
  have hA1 : A ≤ (1 + 43 / 10 * uu) * P := by unfold uu at *; grind
  have hA2 : (1 - 43 / 10 * uu) * P ≤ A := by unfold uu at *; grind
  clear g1 g2 g3 hd1 hd2 s1 s2 hb hh
  have hPx : P ≤ (1 + 2 * uu) * L := by unfold uu at *; grind
  have hAP : ab (A - P) ≤ 43 / 10 * uu * P := by rw [ab_le]; constructor <;> grind
  have hAx : ab (A + P - x) ≤ 101 / 100 * L := by rw [ab_le]; unfold uu at *; constructor <;> grind
  have hm : ab ((A - P) * (A + P - x)) ≤ 43 / 10 * uu * P * (101 / 100 * L) := by
    rw [ab_mul]; exact mul_mono (ab_nn _) hAP (ab_nn _) hAx
  obtain ⟨E1, eE⟩ : ∃ E1, E1 = 4 * A * (A - x) - y * y := ⟨_, rfl⟩
  have hE : E1 = 4 * ((A - P) * (A + P - x)) + (L * L - (x * x + y * y)) := by rw [eE, eP]; grind
  have hPLn : 0 ≤ P * L := mul_nn (by grind) hL0
  have hLL : L * L ≤ 2 * (P * L) := by have := Rat.mul_le_mul_of_nonneg_right hPL hL0; grind
  have hE1 : ab E1 ≤ 26 * uu * (P * L) := by
    rw [hE, ab_le]
    rw [ab_le] at hm
    have : 43 / 10 * uu * P * (101 / 100 * L) = 4343 / 1000 * uu * (P * L) := by grind
    rw [this] at hm
    generalize (A - P) * (A + P - x) = M at *
    generalize P * L = PL at *
    generalize L * L = LL at *
    unfold uu at *
    constructor <;> grind
  obtain ⟨D, eD⟩ : ∃ D, D = A - w * w - x := ⟨_, rfl⟩
  have hD1 : 4 * A * D = E1 := by
    have : 4 * A * (w * w) = y * y := by rw [← hw, eA]; grind
    rw [eD, eE]; grind
  have hA0 : 0 < A := by unfold uu at *; grind
  have hD : ab D ≤ 7 * uu * L := by
    have k1 : ab (4 * A * D) = 4 * A * ab D := by rw [ab_mul, ab_pos (by grind)]
    rw [hD1] at k1
    refine Rat.le_of_mul_le_mul_right (c := 4 * A) ?_ (by grind)
    have k2 : 7 * uu * L * (4 * A) = 28 * uu * (A * L) := by grind
    have k3 : (1 - 43 / 10 * uu) * (P * L) ≤ A * L := by have := Rat.mul_le_mul_of_nonneg_right hA2 hL0; grind
    rw [k2]
    have k4 : ab D * (4 * A) = ab E1 := by rw [k1]; grind
    rw [k4]
    generalize P * L = PL at *
    generalize A * L = AL at *
    generalize ab E1 = aE at *
    unfold uu at *
    grind
  have hww := sq_nn w
  have hw2 : w * w ≤ 51 / 100 * L := by
    have k1 : w * w = A - x - D := by rw [eD]; grind
    rw [ab_le] at hD
    rw [k1]
    unfold uu at *
    grind
  have hwa : ab w ≤ 2 := by
    apply le_of_sq (by decide +kernel)
    rw [sq_ab']; grind
  have haw := ab_nn w
  have hav := ab_nn (v - w)
  have hv2 : ab (v * v - w * w) ≤ 34 / 10 * uu * L := by
    have k1 : v * v - w * w = (v - w) * (v - w) + 2 * (w * (v - w)) := by grind
    have k2 : ab ((v - w) * (v - w)) ≤ (3 * uu * ab w + e) * (3 * uu * ab w + e) := by rw [ab_mul]; exact mul_mono hav hv hav hv
    have k3 : ab (w * (v - w)) ≤ ab w * (3 * uu * ab w + e) := by rw [ab_mul]; exact mul_mono haw Rat.le_refl hav hv
    have k4 := ab_add ((v - w) * (v - w)) (2 * (w * (v - w)))
    have k5 : ab (2 * (w * (v - w))) = 2 * ab (w * (v - w)) := by rw [ab_mul]; congr 1
    have k6 : ab w * (3 * uu * ab w + e) = 3 * uu * (w * w) + ab w * e := by rw [← sq_ab' w]; grind
    have k7 : (3 * uu * ab w + e) * (3 * uu * ab w + e) = 9 * uu * uu * (w * w) + (6 * uu * (ab w * e) + e * e) := by rw [← sq_ab' w]; grind
    have k8 : ab w * e ≤ 2 * e := Rat.mul_le_mul_of_nonneg_right hwa he0
    have k9 : e * e ≤ 1 * e := Rat.mul_le_mul_of_nonneg_right (by unfold tau at he; grind) he0
    have k10 : 0 ≤ ab w * e := mul_nn haw he0
    rw [k6] at k3
    rw [k7] at k2
    rw [k1]
    rw [k5] at k4
    exact root_aux he he0 hL3 hw2 hww k4 k2 k3 k8 k9 k10
  have hfin : ab (A - v * v - x) ≤ 105 / 10 * uu * L := by
    have k1 : A - v * v - x = D - (v * v - w * w) := by rw [eD]; grind
    rw [k1]
    have := ab_sub D (v * v - w * w)
    generalize ab (v * v - w * w) = t1 at *
    generalize ab D = t2 at *
    clear hE hm hAx hAP hE1 hD1 eE eP
    unfold uu at *
    grind
  have hdy : ab (2 * S0 * v - y) ≤ 4 * uu * L := by
    have k1 : 2 * S0 * v - y = 2 * (S0 * (v - w)) := by rw [← hw]; grind
    have k2 : ab (2 * (S0 * (v - w))) = 2 * (S0 * ab (v - w)) := by rw [ab_mul, ab_mul, ab_pos hS0]; congr 1
    have k3 : S0 * ab (v - w) ≤ S0 * (3 * uu * ab w + e) := Rat.mul_le_mul_of_nonneg_left hv hS0
    have k4 : 2 * (S0 * ab w) = ab y := by rw [← hw, ab_mul, ab_mul, ab_pos hS0]; have : ab 2 = 2 := by decide +kernel
                                           rw [this]; grind
    have k5 : S0 * (3 * uu * ab w + e) = 3 * uu * (S0 * ab w) + S0 * e := by grind
    have k6 : S0 ≤ 3 := by
      apply le_of_sq (by decide +kernel)
      rw [← eA]; unfold uu at *; grind
    have k7 : S0 * e ≤ 3 * e := Rat.mul_le_mul_of_nonneg_right k6 he0
    rw [k1, k2]
    rw [k5] at k3
    generalize S0 * ab w = sw at *
    generalize S0 * e = se at *
    generalize S0 * ab (v - w) = sv at *
    unfold uu tau at *
    grind
  have q1 : (A - v * v - x) * (A - v * v - x) ≤ (105 / 10 * uu * L) * (105 / 10 * uu * L) := by
    rw [← sq_ab' (A - v * v - x)]; exact mul_mono (ab_nn _) hfin (ab_nn _) hfin
  have q2 : (2 * S0 * v - y) * (2 * S0 * v - y) ≤ (4 * uu * L) * (4 * uu * L) := by
    rw [← sq_ab' (2 * S0 * v - y)]; exact mul_mono (ab_nn _) hdy (ab_nn _) hdy
  have q3 : (105 / 10 * uu * L) * (105 / 10 * uu * L) = 11025 / 100 * (uu * uu) * (L * L) := by grind
  have q4 : (4 * uu * L) * (4 * uu * L) = 16 * (uu * uu) * (L * L) := by grind
  rw [q3] at q1
  rw [q4] at q2
  generalize (A - v * v - x) * (A - v * v - x) = Q1 at *
  generalize (2 * S0 * v - y) * (2 * S0 * v - y) = Q2 at *
  generalize L * L = LL at *
  generalize x * x + y * y = S at *
  unfold uu at *
  grind
end Go.Proofs.Ytcfkhhnkboealaa
