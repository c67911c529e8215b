/- Lengths and roots of numbers 2^j or 4^j times as great: so many times as great, to the word. No text of the program. -/
import Derived.Test.YtcfkhhnkboealaaSa
import Derived.Test.YtcfkhhnkboealaaRt
namespace Go.Proofs.Ytcfkhhnkboealaa
set_option linter.unusedVariables false
set_option linter.unusedSimpArgs false
set_option maxRecDepth 100000
/-- nought, or from 2^-400 to 2^400. -/
def Mild (a : Rat) : Prop := a = 0 ∨ (pw (-400) ≤ ab a ∧ ab a ≤ pw 400)
theorem Mild.le {a : Rat} (h : Mild a) : ab a ≤ pw 400 := by
  rcases h with rfl | h
  · rw [show ab (0 : Rat) = 0 by decide +kernel]; exact Rat.le_of_lt (pw_pos _)
  · exact h.2
theorem ab_pw (a : Rat) (n : Int) : ab (a * pw n) = ab a * pw n := by rw [ab_mul, ab_pos (Rat.le_of_lt (pw_pos n))]
theorem Mild.low {a : Rat} (h : Mild a) {n m : Int} (hm : m ≤ n - 400) : a = 0 ∨ pw m ≤ ab (a * pw n) := by
  rcases h with rfl | h
  · exact .inl rfl
  · refine .inr ?_
    rw [ab_pw]
    have h2 := Rat.mul_le_mul_of_nonneg_right h.1 (Rat.le_of_lt (pw_pos n))
    rw [← pw_add] at h2
    exact Rat.le_trans (pw_mono (by omega)) h2
theorem Mild.high {a : Rat} (h : Mild a) {n m : Int} (hm : n + 400 ≤ m) : ab (a * pw n) ≤ pw m := by
  rw [ab_pw]
  have h2 := Rat.mul_le_mul_of_nonneg_right h.le (Rat.le_of_lt (pw_pos n))
  rw [← pw_add] at h2
  exact Rat.le_trans h2 (pw_mono (by omega))
theorem V.mild {f : Nat} {a : Rat} (hf : V f a) (h : Mild a) {n : Int} (h1 : -600 ≤ n) (h2 : n ≤ 600) : V (scaleF f n) (a * pw n) ∧ sgn (scaleF f n) = sgn f :=
  hf.up (by omega) (by omega) (h.low (by omega)) (h.high (by omega))
theorem pw_lt_of {a b : Int} (h : pw a < pw b) : a < b := by
  rcases Int.lt_or_le a b with k | k
  · exact k
  · exact absurd h (by have := pw_mono k; grind)
theorem pw_le_of {a b : Int} (h : pw a ≤ pw b) : a ≤ b := by
  rcases Int.lt_or_le b a with k | k
  · have h2 := pw_mono (a := b + 1) (b := a) (by omega)
    have e : pw (b + 1) = 2 * pw b := by rw [pw_add, pw_one]; grind
    have := pw_pos b
    grind
  · exact k
theorem max_same {X Y G H : Rat} (g1 : X ≤ G) (g2 : Y ≤ G) (g3 : G = X ∨ G = Y) (k1 : X ≤ H) (k2 : Y ≤ H) (k3 : H = X ∨ H = Y) : H = G := by grind
/-- the order of the greater part, and of the scaled ones. -/
theorem great_order {f g : Nat} {x y : Rat} (hf : V f x) (hg : V g y) (mx : Mild x) (my : Mild y) (h0 : x ≠ 0 ∨ y ≠ 0) :
    ∃ G, 0 < G ∧ ab x ≤ G ∧ ab y ≤ G ∧ (G = ab x ∨ G = ab y) ∧ 1 / 2 ≤ G * pw (-partE (greatF f g)) ∧ G * pw (-partE (greatF f g)) < 1 ∧ -400 ≤ partE (greatF f g) ∧ partE (greatF f g) ≤ 401 ∧
      ∀ {f' g' : Nat} {j : Int}, V f' (x * pw j) → V g' (y * pw j) → partE (greatF f' g') = partE (greatF f g) + j := by
  obtain ⟨G, hG, g1, g2, g3⟩ := hf.great hg
  have hp := great_pos h0 g1 g2
  obtain ⟨p1, p2, _, _⟩ := hG.parts (by grind)
  rw [ab_pos (Rat.le_of_lt hp)] at p1 p2
  have hG4 : G ≤ pw 400 ∧ pw (-400) ≤ G := by
    constructor
    · rcases g3 with e | e
      · rw [e]; exact mx.le
      · rw [e]; exact my.le
    · rcases g3 with e | e
      · rcases mx with z | z
        · rw [z, show ab (0 : Rat) = 0 by decide +kernel] at e; grind
        · rw [e]; exact z.1
      · rcases my with z | z
        · rw [z, show ab (0 : Rat) = 0 by decide +kernel] at e; grind
        · rw [e]; exact z.1
  generalize partE (greatF f g) = K at *
  refine ⟨G, hp, g1, g2, g3, p1, p2, ?_, ?_, ?_⟩
  · have h := Rat.mul_le_mul_of_nonneg_right hG4.2 (Rat.le_of_lt (pw_pos (-K)))
    rw [← pw_add] at h
    have h2 : pw (-400 + -K) < pw 0 := by rw [pw_zero]; grind
    have := pw_lt_of h2
    omega
  · have h := Rat.mul_le_mul_of_nonneg_right hG4.1 (Rat.le_of_lt (pw_pos (-K)))
    rw [← pw_add] at h
    have e : pw (-1) = 1 / 2 := by decide +kernel
    have h2 : pw (-1) ≤ pw (400 + -K) := by rw [e]; grind
    have := pw_le_of h2
    omega
  · intro f' g' j hf' hg'
    obtain ⟨G', hG', k1, k2, k3⟩ := hf'.great hg'
    rw [ab_pw] at k1 k3
    rw [ab_pw] at k2 k3
    have hj := pw_pos j
    have e : G' = G * pw j := by
      have u1 := Rat.mul_le_mul_of_nonneg_right g1 (Rat.le_of_lt hj)
      have u2 := Rat.mul_le_mul_of_nonneg_right g2 (Rat.le_of_lt hj)
      exact max_same u1 u2 (by rcases g3 with t | t <;> rw [t] <;> grind) k1 k2 k3
    have ep : pw j * pw (-(K + j)) = pw (-K) := by rw [← pw_add, show j + -(K + j) = -K by omega]
    have hpos : 0 < G' := by rw [e]; exact Rat.mul_pos hp hj
    have e2 : ab G' * pw (-(K + j)) = G * pw (-K) := by rw [ab_pos (Rat.le_of_lt hpos), e, Rat.mul_assoc, ep]
    refine partE_of hG' ?_ ?_
    · rw [e2]; exact p1
    · rw [e2]; exact p2
theorem quarter_sq {x y G p : Rat} (gg : G = ab x ∨ G = ab y) (h : 1 / 2 ≤ G * p) : 1 / 4 ≤ x * p * (x * p) + y * p * (y * p) := by
  have n1 := sq_nn (x * p)
  have n2 := sq_nn (y * p)
  have hh := mul_mono (a := 1 / 2) (c := 1 / 2) (by decide +kernel) h (by decide +kernel) h
  have e4 : (1 / 2 : Rat) * (1 / 2) = 1 / 4 := by decide +kernel
  rw [e4] at hh
  rcases gg with e | e
  · have : G * p * (G * p) = x * p * (x * p) := by rw [e]; have := sq_ab' x; grind
    grind
  · have : G * p * (G * p) = y * p * (y * p) := by rw [e]; have := sq_ab' y; grind
    grind
/-- a part brought near to 1 is the same word before and behind. -/
theorem part_same {f f' : Nat} {x : Rat} {n j : Int} (hf : V f x) (mx : Mild x) (hf' : V f' (x * pw j)) (sf : sgn f' = sgn f) (h1 : -402 ≤ n) (h2 : n ≤ 402) (j1 : -200 ≤ j) (j2 : j ≤ 200) :
    scaleF f' (clampN (-(n + j))) = scaleF f (clampN (-n)) ∧ V (scaleF f (clampN (-n))) (x * pw (-n)) ∧ sgn (scaleF f (clampN (-n))) = sgn f := by
  rw [clamp_id (by omega) (by omega), clamp_id (by omega) (by omega)]
  obtain ⟨a1, a2⟩ := hf.mild mx (n := -n) (by omega) (by omega)
  have ep : x * pw j * pw (-(n + j)) = x * pw (-n) := by rw [Rat.mul_assoc, ← pw_add, show j + -(n + j) = -n by omega]
  obtain ⟨b1, b2⟩ := hf'.up (n := -(n + j)) (by omega) (by omega)
    (by
      rw [ep]
      rcases mx.low (n := -n) (m := -1000) (by omega) with z | z
      · left; rw [z]; grind
      · exact .inr z)
    (by rw [ep]; exact mx.high (by omega))
  rw [ep] at b1
  exact ⟨b1.same a1 (by rw [b2, a2, sf]), a1, a2⟩
/-- THE LENGTH of a number 2^j times as great. -/
theorem len_scaled {f g f' g' : Nat} {x y : Rat} {j : Int} (hf : V f x) (hg : V g y) (mx : Mild x) (my : Mild y) (hf' : V f' (x * pw j)) (hg' : V g' (y * pw j)) (sf : sgn f' = sgn f) (sg : sgn g' = sgn g)
    (j1 : -100 ≤ j) (j2 : j ≤ 100) (h0 : x ≠ 0 ∨ y ≠ 0) : lenF f' g' = scaleF (lenF f g) j := by
  have hj := pw_pos j
  have h0' : x * pw j ≠ 0 ∨ y * pw j ≠ 0 := by
    rcases h0 with h | h
    · left; intro e; apply h; have := pw_neg j; grind
    · right; intro e; apply h; have := pw_neg j; grind
  obtain ⟨G, hG, gx, gy, gg, p1, p2, k1, k2, ko⟩ := great_order hf hg mx my h0
  have ko := ko hf' hg'
  rw [len_fin hf hg h0, len_fin hf' hg' h0']
  unfold scN
  have e1 : lenK f' g' = lenK f g + j := ko
  have e2 : lenK f g = partE (greatF f g) := rfl
  rw [e1, e2]
  generalize partE (greatF f g) = K at *
  obtain ⟨q1, v1, _⟩ := part_same hf mx hf' sf (n := K) (by omega) (by omega) (by omega) (by omega)
  obtain ⟨q2, v2, _⟩ := part_same hg my hg' sg (n := K) (by omega) (by omega) (by omega) (by omega)
  rw [q1, q2]
  have hpp := pw_pos (-K)
  have x1 : ab (x * pw (-K)) ≤ 1 := by rw [ab_pw]; have := Rat.mul_le_mul_of_nonneg_right gx (Rat.le_of_lt hpp); grind
  have y1 : ab (y * pw (-K)) ≤ 1 := by rw [ab_pw]; have := Rat.mul_le_mul_of_nonneg_right gy (Rat.le_of_lt hpp); grind
  have hS := quarter_sq gg p1
  have et0 : ∀ t : Rat, ab (t - t) ≤ et := by intro t; rw [show t - t = 0 by grind, show ab (0 : Rat) = 0 by decide +kernel]; exact Rat.le_of_lt et_pos
  obtain ⟨L, hL, hL0, hL1, l1, l2⟩ := near_len v1 v2 (et0 _) (et0 _) (by grind) (by grind) hS
  generalize fsqrt (sqF (scaleF f (clampN (-K))) (scaleF g (clampN (-K)))) = r at *
  have L3 : 49 / 100 ≤ L := by
    apply le_of_sq hL0
    unfold uu at l2
    grind
  have L4 : L ≤ 3 := by
    apply le_of_sq (by decide +kernel)
    have z1 := sq_le4 (x := x * pw (-K)) (by grind)
    have z2 := sq_le4 (x := y * pw (-K)) (by grind)
    unfold uu at l1
    grind
  have up : ∀ n : Int, -600 ≤ n → n ≤ 600 → V (scaleF r n) (L * pw n) ∧ sgn (scaleF r n) = sgn r := by
    intro n n1 n2
    have hn := pw_pos n
    refine hL.up (by omega) (by omega) (.inr ?_) ?_
    · rw [ab_pw, ab_pos hL0]
      have e : pw (-2) = 1 / 4 := by decide +kernel
      have := Rat.mul_le_mul_of_nonneg_right (show pw (-2) ≤ L by rw [e]; grind) (Rat.le_of_lt hn)
      rw [← pw_add] at this
      exact Rat.le_trans (pw_mono (by omega)) this
    · rw [ab_pw, ab_pos hL0]
      have e : pw 2 = 4 := by decide +kernel
      have := Rat.mul_le_mul_of_nonneg_right (show L ≤ pw 2 by rw [e]; grind) (Rat.le_of_lt hn)
      rw [← pw_add] at this
      exact Rat.le_trans this (pw_mono (by omega))
  rw [clamp_id (by omega) (by omega), clamp_id (by omega) (by omega)]
  obtain ⟨a1, a2⟩ := up K (by omega) (by omega)
  obtain ⟨b1, b2⟩ := up (K + j) (by omega) (by omega)
  have el : L * pw K * pw j = L * pw (K + j) := by rw [Rat.mul_assoc, ← pw_add]
  have hup := up (K + j) (by omega) (by omega)
  have sz := hup.1
  obtain ⟨c1, c2⟩ := a1.up (n := j) (by omega) (by omega)
    (by
      rw [el, ab_pw, ab_pos hL0]
      have e : pw (-2) = 1 / 4 := by decide +kernel
      have := Rat.mul_le_mul_of_nonneg_right (show pw (-2) ≤ L by rw [e]; grind) (Rat.le_of_lt (pw_pos (K + j)))
      rw [← pw_add] at this
      exact .inr (Rat.le_trans (pw_mono (by omega)) this))
    (by
      rw [el, ab_pw, ab_pos hL0]
      have e : pw 2 = 4 := by decide +kernel
      have := Rat.mul_le_mul_of_nonneg_right (show L ≤ pw 2 by rw [e]; grind) (Rat.le_of_lt (pw_pos (K + j)))
      rw [← pw_add] at this
      exact Rat.le_trans this (pw_mono (by omega)))
  rw [el] at c1
  exact b1.same c1 (by rw [b2, c2, a2])
end Go.Proofs.Ytcfkhhnkboealaa
