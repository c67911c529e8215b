/- Units: their squares lie near to 1; lengths of mild numbers by value. No text of the program. -/
import Derived.Test.YtcfkhhnkboealaaSd
namespace Go.Proofs.Ytcfkhhnkboealaa
set_option linter.unusedVariables false
set_option linter.unusedSimpArgs false
set_option maxRecDepth 100000
set_option maxHeartbeats 4000000
theorem V.nil : V 0 0 := by
  have h := V.pos (r := 0) (by decide)
  rw [mval_zero] at h
  have e : ((0 : Nat) : Rat) / (U : Rat) = 0 := by
    have a := div_self_mul ((0 : Nat) : Rat) UQ_ne
    have := UQ_ne
    have e0 : ((0 : Nat) : Rat) = 0 := rfl
    rw [e0] at a ⊢
    grind
  rw [e] at h
  exact h
theorem quot_sum {X Y L : Rat} (hL : 0 < L) (h1 : 10 * (L * L) ≤ (10 + 41 * uu) * (X * X + Y * Y)) (h2 : (10 - 41 * uu) * (X * X + Y * Y) ≤ 10 * (L * L)) :
    ab (X / L * (X / L) + Y / L * (Y / L) - 1) ≤ 42 / 10 * uu ∧ ab (X / L) ≤ 101 / 100 ∧ ab (Y / L) ≤ 101 / 100 := by
  have hu : 0 < uu ∧ uu ≤ 1 / 10000000 := by decide +kernel
  have e1 := div_self_mul X (show L ≠ 0 by grind)
  have e2 := div_self_mul Y (show L ≠ 0 by grind)
  generalize X / L = p at *
  generalize Y / L = q at *
  have hM : 0 < L * L := Rat.mul_pos hL hL
  have eN : X * X + Y * Y = (p * p + q * q) * (L * L) := by rw [← e1, ← e2]; grind
  rw [eN] at h1 h2
  have n1 := sq_nn p
  have n2 := sq_nn q
  have sp := sq_ab' p
  have sq_ := sq_ab' q
  generalize L * L = M at *
  obtain ⟨P, hP⟩ : ∃ P, P = p * p + q * q := ⟨_, rfl⟩
  rw [← hP] at h1 h2 ⊢
  have k1 : 10 ≤ (10 + 41 * uu) * P := by
    refine Rat.le_of_mul_le_mul_right (c := M) ?_ hM
    grind
  have k2 : (10 - 41 * uu) * P ≤ 10 := by
    refine Rat.le_of_mul_le_mul_right (c := M) ?_ hM
    grind
  have Pn : 0 ≤ P := by grind
  have P2 : P ≤ 1001 / 1000 := by
    have := Rat.mul_le_mul_of_nonneg_right hu.2 Pn
    grind
  have a := Rat.mul_le_mul_of_nonneg_left P2 (Rat.le_of_lt hu.1)
  refine ⟨?_, ?_, ?_⟩
  · rw [ab_le]
    constructor <;> grind
  · apply le_of_sq (by decide +kernel)
    grind
  · apply le_of_sq (by decide +kernel)
    grind
theorem one_off {u p : Rat} (hp : ab p ≤ 101 / 100) (h : ab (u - p) ≤ uu * ab p + et) : ab (u - p) ≤ 11 / 10 * uu ∧ ab u ≤ 102 / 100 := by
  have hu : 0 < uu ∧ uu ≤ 1 / 10000000 := by decide +kernel
  have he : et ≤ 1 / 1000000 * uu := by decide +kernel
  have m := Rat.mul_le_mul_of_nonneg_left hp (Rat.le_of_lt hu.1)
  have a := ab_add (u - p) p
  rw [show u - p + p = u by grind] at a
  constructor <;> grind
theorem sq_one {u : Rat} (h : ab u ≤ 102 / 100) : ab (u * u) ≤ 105 / 100 := by
  rw [ab_mul]
  have := mul_mono (ab_nn u) h (ab_nn u) h
  grind
/-- THE UNIT's square. -/
theorem unit_near {f g : Nat} {x y : Rat} (hf : V f x) (hg : V g y) (mx : Mild x) (my : Mild y) (h0 : x ≠ 0 ∨ y ≠ 0) :
    ∃ n, V (sqF (unitX f g) (unitY f g)) n ∧ ab (n - 1) ≤ 14 * uu := by
  have hu : 0 < uu ∧ uu ≤ 1 / 10000000 := by decide +kernel
  have he : et ≤ 1 / 1000000 * uu := by decide +kernel
  have he0 := et_pos
  have hB := BG_big
  obtain ⟨G, hG, gx, gy, gg, p1, p2, k1, k2, _⟩ := great_order hf hg mx my h0
  unfold unitX unitY scN
  have e2 : lenK f g = partE (greatF f g) := rfl
  rw [e2]
  generalize partE (greatF f g) = K at *
  rw [clamp_id (by omega) (by omega)]
  obtain ⟨v1, _⟩ := hf.mild mx (n := -K) (by omega) (by omega)
  obtain ⟨v2, _⟩ := hg.mild my (n := -K) (by omega) (by omega)
  have hpp := pw_pos (-K)
  have x1 : ab (x * pw (-K)) ≤ 1 := by rw [ab_pw]; have := Rat.mul_le_mul_of_nonneg_right gx (Rat.le_of_lt hpp); grind
  have y1 : ab (y * pw (-K)) ≤ 1 := by rw [ab_pw]; have := Rat.mul_le_mul_of_nonneg_right gy (Rat.le_of_lt hpp); grind
  have hS := quarter_sq gg p1
  have et0 : ∀ t : Rat, ab (t - t) ≤ et := by intro t; rw [show t - t = 0 by grind, show ab (0 : Rat) = 0 by decide +kernel]; exact Rat.le_of_lt et_pos
  obtain ⟨L, hL, hL0, hL1, l1, l2⟩ := near_len v1 v2 (et0 _) (et0 _) (by grind) (by grind) hS
  generalize fsqrt (sqF (scaleF f (-K)) (scaleF g (-K))) = r at *
  generalize scaleF f (-K) = b1 at *
  generalize scaleF g (-K) = b2 at *
  generalize x * pw (-K) = X at *
  generalize y * pw (-K) = Y at *
  have L3 : 49 / 100 ≤ L := by
    apply le_of_sq hL0
    unfold uu at l2
    grind
  obtain ⟨q1, q2, q3⟩ := quot_sum (show 0 < L by grind) l1 l2
  obtain ⟨u, vu, eu⟩ := v1.div hL (by grind) (by grind)
  obtain ⟨v, vv, ev⟩ := v2.div hL (by grind) (by grind)
  obtain ⟨du, bu⟩ := one_off q2 eu
  obtain ⟨dv, bv⟩ := one_off q3 ev
  have su := sq_one bu
  have sv := sq_one bv
  obtain ⟨c1, w1, t1⟩ := vu.mul vu (by grind)
  obtain ⟨c2, w2, t2⟩ := vv.mul vv (by grind)
  have m1 := Rat.mul_le_mul_of_nonneg_left su (Rat.le_of_lt hu.1)
  have m2 := Rat.mul_le_mul_of_nonneg_left sv (Rat.le_of_lt hu.1)
  have t1' : ab (c1 - u * u) ≤ 11 / 10 * uu := by grind
  have t2' : ab (c2 - v * v) ≤ 11 / 10 * uu := by grind
  -- the sum of both squares
  have o1 := sq_off q2 du (by grind)
  have o2 := sq_off q3 dv (by grind)
  have sb : ab (c1 + c2) ≤ 11 / 10 - 1 / 20 := by
    clear m1 m2 su sv t1 t2 hS eu ev du dv bu bv x1 y1
    generalize u * u = U2 at *
    generalize v * v = V2 at *
    generalize X / L * (X / L) = P2 at *
    generalize Y / L * (Y / L) = Q2 at *
    rw [ab_le] at *
    constructor <;> grind
  obtain ⟨n, hn, t3⟩ := w1.add w2 (by grind)
  have m3 := Rat.mul_le_mul_of_nonneg_left sb (Rat.le_of_lt hu.1)
  exact ⟨n, hn, unit_core q1 q2 q3 du dv t1' t2' (by grind)⟩
/-- THE LENGTH of a mild number by value. -/
theorem len_mild {f g : Nat} {x y : Rat} (hf : V f x) (hg : V g y) (mx : Mild x) (my : Mild y) (h0 : x ≠ 0 ∨ y ≠ 0) :
    ∃ T, V (lenF f g) T ∧ lenF f g < 9218868437227405312 ∧ 0 < T ∧ 10 * (T * T) ≤ (10 + 41 * uu) * (x * x + y * y) ∧ (10 - 41 * uu) * (x * x + y * y) ≤ 10 * (T * T) ∧ pw (-403) ≤ T ∧ T ≤ pw 404 := by
  obtain ⟨G, hG, gx, gy, gg, p1, p2, k1, k2, _⟩ := great_order hf hg mx my h0
  rw [len_fin hf hg h0]
  unfold scN
  have e2 : lenK f g = partE (greatF f g) := rfl
  rw [e2]
  generalize partE (greatF f g) = K at *
  rw [clamp_id (n := -K) (by omega) (by omega), clamp_id (n := K) (by omega) (by omega)]
  obtain ⟨v1, _⟩ := hf.mild mx (n := -K) (by omega) (by omega)
  obtain ⟨v2, _⟩ := hg.mild my (n := -K) (by omega) (by omega)
  have hpp := pw_pos (-K)
  have hK := pw_pos K
  have x1 : ab (x * pw (-K)) ≤ 1 := by rw [ab_pw]; have := Rat.mul_le_mul_of_nonneg_right gx (Rat.le_of_lt hpp); grind
  have y1 : ab (y * pw (-K)) ≤ 1 := by rw [ab_pw]; have := Rat.mul_le_mul_of_nonneg_right gy (Rat.le_of_lt hpp); grind
  have hS := quarter_sq gg p1
  have et0 : ∀ t : Rat, ab (t - t) ≤ et := by intro t; rw [show t - t = 0 by grind, show ab (0 : Rat) = 0 by decide +kernel]; exact Rat.le_of_lt et_pos
  obtain ⟨L, hL, hL0, hL1, l1, l2⟩ := near_len v1 v2 (et0 _) (et0 _) (by grind) (by grind) hS
  generalize fsqrt (sqF (scaleF f (-K)) (scaleF g (-K))) = r at *
  have L3 : 49 / 100 ≤ L := by
    apply le_of_sq hL0
    unfold uu at l2
    grind
  have L4 : L ≤ 3 := by
    apply le_of_sq (by decide +kernel)
    have z1 := sq_le4 (x := x * pw (-K)) (by grind)
    have z2 := sq_le4 (x := y * pw (-K)) (by grind)
    unfold uu at l1
    grind
  have lo : pw (K - 2) ≤ L * pw K := by
    have e : pw (-2) = 1 / 4 := by decide +kernel
    have := Rat.mul_le_mul_of_nonneg_right (show pw (-2) ≤ L by rw [e]; grind) (Rat.le_of_lt hK)
    rw [← pw_add, show -2 + K = K - 2 by omega] at this
    exact this
  have hi : L * pw K ≤ pw (K + 2) := by
    have e : pw 2 = 4 := by decide +kernel
    have := Rat.mul_le_mul_of_nonneg_right (show L ≤ pw 2 by rw [e]; grind) (Rat.le_of_lt hK)
    rw [← pw_add, show 2 + K = K + 2 by omega] at this
    exact this
  have T0 : 0 < L * pw K := Rat.mul_pos (by grind) hK
  have aT : ab (L * pw K) = L * pw K := ab_pos (Rat.le_of_lt T0)
  obtain ⟨a1, a2⟩ := hL.up (n := K) (by omega) (by omega) (.inr (by rw [aT]; exact Rat.le_trans (pw_mono (by omega)) lo)) (by rw [aT]; exact Rat.le_trans hi (pw_mono (by omega)))
  have hone := pw_neg K
  have bk : ∀ z : Rat, z * pw (-K) * pw K = z := fun z => by grind
  have hq : (x * pw (-K) * (x * pw (-K)) + y * pw (-K) * (y * pw (-K))) * (pw K * pw K) = x * x + y * y := by
    have b1 := bk x
    have b2 := bk y
    grind
  have hpK : 0 < pw K * pw K := Rat.mul_pos hK hK
  have r1 := Rat.mul_le_mul_of_nonneg_right l1 (Rat.le_of_lt hpK)
  have r2 := Rat.mul_le_mul_of_nonneg_right l2 (Rat.le_of_lt hpK)
  refine ⟨L * pw K, a1, pos_word a1 T0, T0, ?_, ?_, Rat.le_trans (pw_mono (by omega)) lo, Rat.le_trans hi (pw_mono (by omega))⟩
  · clear l1 l2 r2 hS x1 y1
    generalize x * pw (-K) * (x * pw (-K)) + y * pw (-K) * (y * pw (-K)) = Q at *
    rw [← hq]
    grind
  · clear l1 l2 r1 hS x1 y1
    generalize x * pw (-K) * (x * pw (-K)) + y * pw (-K) * (y * pw (-K)) = Q at *
    rw [← hq]
    grind
end Go.Proofs.Ytcfkhhnkboealaa
