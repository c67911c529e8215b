/- The program's sine and cosine of a small float by value. No text of the program. The program's sine and cosine of a small float beside the true ones. No text of the program. The program's arctangent by value. No text of the program. -/
import Derived.Test.YtcfkhhnkboealaaCab
import Derived.Test.YtcfkhhnkboealaaAngb
namespace Go.Proofs.Ytcfkhhnkboealaa
open Go.RowKit
set_option linter.unusedVariables false
set_option linter.unusedSimpArgs false
set_option maxRecDepth 100000
set_option maxHeartbeats 4000000
open Turns Sizes
open Cs (cnr)
theorem ee_ig (y : Rat) (k : Nat) : (cee (ig y) (k + 1)).re = -((cee (ig y) k).im * y / ((k + 1 : Nat) : Rat)) ∧ (cee (ig y) (k + 1)).im = (cee (ig y) k).re * y / ((k + 1 : Nat) : Rat) := by
  have e : cee (ig y) (k + 1) = cee (ig y) k * ig y * (⟨1 / ((k + 1 : Nat) : Rat), 0⟩ : Cq) := rfl
  rw [e]
  constructor
  · show ((cee (ig y) k).re * 0 - (cee (ig y) k).im * y) * (1 / ((k + 1 : Nat) : Rat)) - ((cee (ig y) k).re * y + (cee (ig y) k).im * 0) * 0 = _
    grind
  · show ((cee (ig y) k).re * 0 - (cee (ig y) k).im * y) * 0 + ((cee (ig y) k).re * y + (cee (ig y) k).im * 0) * (1 / ((k + 1 : Nat) : Rat)) = _
    grind
/-- the true steps. -/
def cp (s : Rat) : Nat → Rat
  | 0 => 1
  | i + 1 => 1 - s / ((((17 - 2 * i) * (18 - 2 * i) : Nat)) : Rat) * cp s i
def sp (s : Rat) : Nat → Rat
  | 0 => 1
  | i + 1 => 1 - s / ((((18 - 2 * i) * (19 - 2 * i) : Nat)) : Rat) * sp s i
theorem ee_two (y : Rat) (k : Nat) : (cee (ig y) (k + 2)).re = -(y * y / (((k + 1) * (k + 2) : Nat) : Rat) * (cee (ig y) k).re) ∧ (cee (ig y) (k + 2)).im = -(y * y / (((k + 1) * (k + 2) : Nat) : Rat) * (cee (ig y) k).im) := by
  obtain ⟨a, b⟩ := ee_ig y (k + 1)
  obtain ⟨c, d⟩ := ee_ig y k
  have h1 : (((k + 1 : Nat)) : Rat) ≠ 0 := by have := cast_nn k; grind
  have h2 : (((k + 1 + 1 : Nat)) : Rat) ≠ 0 := by have := cast_nn k; grind
  have e : ((((k + 1) * (k + 2) : Nat)) : Rat) = ((k + 1 : Nat) : Rat) * ((k + 1 + 1 : Nat) : Rat) := cast_mul _ _
  rw [show k + 2 = k + 1 + 1 from rfl, a, b, c, d, e]
  generalize ((k + 1 : Nat) : Rat) = N at *
  generalize ((k + 1 + 1 : Nat) : Rat) = M at *
  constructor <;> grind
theorem re_sm (f : Nat → Cq) : ∀ n, (csm f n).re = sm (fun k => (f k).re) n ∧ (csm f n).im = sm (fun k => (f k).im) n
  | 0 => ⟨rfl, rfl⟩
  | n + 1 => by
    obtain ⟨a, b⟩ := re_sm f n
    constructor
    · show (csm f n).re + (f n).re = sm (fun k => (f k).re) n + (f n).re
      rw [a]
    · show (csm f n).im + (f n).im = sm (fun k => (f k).im) n + (f n).im
      rw [b]
theorem ee_first (y : Rat) : (cee (ig y) 0).re = 1 ∧ (cee (ig y) 0).im = 0 ∧ (cee (ig y) 1).re = 0 ∧ (cee (ig y) 1).im = y := by
  obtain ⟨a, b⟩ := ee_ig y 0
  have e0 : (cee (ig y) 0).re = 1 := rfl
  have e1 : (cee (ig y) 0).im = 0 := rfl
  have e2 : ((0 + 1 : Nat) : Rat) = 1 := rfl
  rw [e1, e2] at a
  rw [e0, e2] at b
  exact ⟨e0, e1, by rw [a]; grind, by rw [b]; grind⟩
/-- even powers have no imaginary part, odd ones no real part. -/
theorem ee_parts (y : Rat) : ∀ k, (cee (ig y) (2 * k)).im = 0 ∧ (cee (ig y) (2 * k + 1)).re = 0
  | 0 => ⟨(ee_first y).2.1, (ee_first y).2.2.1⟩
  | k + 1 => by
    obtain ⟨a, b⟩ := ee_parts y k
    have c := (ee_two y (2 * k)).2
    have d := (ee_two y (2 * k + 1)).1
    rw [a] at c
    rw [b] at d
    constructor
    · show (cee (ig y) (2 * k + 2)).im = 0
      rw [c]; grind
    · show (cee (ig y) (2 * k + 1 + 2)).re = 0
      rw [d]; grind
/-- the sums from the top down. -/
theorem cos_down (y : Rat) : ∀ i, i ≤ 9 → sm (fun m => (cee (ig y) (2 * (9 - i) + 2 * m)).re) (i + 1) = (cee (ig y) (2 * (9 - i))).re * cp (y * y) i
  | 0, _ => by
    show 0 + (cee (ig y) (2 * 9 + 2 * 0)).re = (cee (ig y) (2 * 9)).re * 1
    rw [show 2 * 9 + 2 * 0 = 2 * 9 from rfl]
    grind
  | i + 1, h => by
    have ih := cos_down y i (by omega)
    rw [sm_head]
    have e1 : sm (fun m => (cee (ig y) (2 * (9 - (i + 1)) + 2 * (m + 1))).re) (i + 1) = sm (fun m => (cee (ig y) (2 * (9 - i) + 2 * m)).re) (i + 1) := by
      refine sm_congr fun m hm => ?_
      rw [show 2 * (9 - (i + 1)) + 2 * (m + 1) = 2 * (9 - i) + 2 * m by omega]
    rw [e1, ih]
    have e2 := (ee_two y (2 * (9 - (i + 1)))).1
    rw [show 2 * (9 - (i + 1)) + 2 = 2 * (9 - i) by omega] at e2
    rw [e2, show 2 * (9 - (i + 1)) + 2 * 0 = 2 * (9 - (i + 1)) by omega]
    have e3 : (2 * (9 - (i + 1)) + 1) * (2 * (9 - i)) = (17 - 2 * i) * (18 - 2 * i) := by
      rw [show 2 * (9 - (i + 1)) + 1 = 17 - 2 * i by omega, show 2 * (9 - i) = 18 - 2 * i by omega]
    rw [e3]
    show _ = (cee (ig y) (2 * (9 - (i + 1)))).re * (1 - y * y / ((((17 - 2 * i) * (18 - 2 * i) : Nat)) : Rat) * cp (y * y) i)
    generalize y * y / ((((17 - 2 * i) * (18 - 2 * i) : Nat)) : Rat) = Q
    grind
theorem sin_down (y : Rat) : ∀ i, i ≤ 9 → sm (fun m => (cee (ig y) (2 * (9 - i) + 1 + 2 * m)).im) (i + 1) = (cee (ig y) (2 * (9 - i) + 1)).im * sp (y * y) i
  | 0, _ => by
    show 0 + (cee (ig y) (2 * 9 + 1 + 2 * 0)).im = (cee (ig y) (2 * 9 + 1)).im * 1
    rw [show 2 * 9 + 1 + 2 * 0 = 2 * 9 + 1 from rfl]
    grind
  | i + 1, h => by
    have ih := sin_down y i (by omega)
    rw [sm_head]
    have e1 : sm (fun m => (cee (ig y) (2 * (9 - (i + 1)) + 1 + 2 * (m + 1))).im) (i + 1) = sm (fun m => (cee (ig y) (2 * (9 - i) + 1 + 2 * m)).im) (i + 1) := by
      refine sm_congr fun m hm => ?_
      rw [show 2 * (9 - (i + 1)) + 1 + 2 * (m + 1) = 2 * (9 - i) + 1 + 2 * m by omega]
    rw [e1, ih]
    have e2 := (ee_two y (2 * (9 - (i + 1)) + 1)).2
    rw [show 2 * (9 - (i + 1)) + 1 + 2 = 2 * (9 - i) + 1 by omega] at e2
    rw [e2, show 2 * (9 - (i + 1)) + 1 + 2 * 0 = 2 * (9 - (i + 1)) + 1 by omega]
    have e3 : (2 * (9 - (i + 1)) + 1 + 1) * (2 * (9 - i) + 1) = (18 - 2 * i) * (19 - 2 * i) := by
      rw [show 2 * (9 - (i + 1)) + 1 + 1 = 18 - 2 * i by omega, show 2 * (9 - i) + 1 = 19 - 2 * i by omega]
    rw [e3]
    show _ = (cee (ig y) (2 * (9 - (i + 1)) + 1)).im * (1 - y * y / ((((18 - 2 * i) * (19 - 2 * i) : Nat)) : Rat) * sp (y * y) i)
    generalize y * y / ((((18 - 2 * i) * (19 - 2 * i) : Nat)) : Rat) = Q
    grind
/-- a sum by its even and odd places. -/
theorem sm_pairs (f : Nat → Rat) : ∀ n, sm f (2 * n) = sm (fun m => f (2 * m)) n + sm (fun m => f (2 * m + 1)) n
  | 0 => by show (0 : Rat) = 0 + 0; grind
  | n + 1 => by
    have h := sm_pairs f n
    show sm f (2 * n) + f (2 * n) + f (2 * n + 1) = sm (fun m => f (2 * m)) n + f (2 * n) + (sm (fun m => f (2 * m + 1)) n + f (2 * n + 1))
    rw [h]
    grind
theorem sm_none (f : Nat → Rat) (h : ∀ k, f k = 0) : ∀ n, sm f n = 0
  | 0 => rfl
  | n + 1 => by
    show sm f n + f n = 0
    rw [sm_none f h n, h]
    grind
theorem TT19 (y : Rat) : (cTT (ig y) 19).re = cp (y * y) 9 ∧ (cTT (ig y) 19).im = y * sp (y * y) 9 := by
  obtain ⟨a, b⟩ := re_sm (cee (ig y)) 20
  have c := sm_pairs (fun k => (cee (ig y) k).re) 10
  have d := sm_pairs (fun k => (cee (ig y) k).im) 10
  have z1 := sm_none (fun m => (cee (ig y) (2 * m + 1)).re) (fun k => (ee_parts y k).2) 10
  have z2 := sm_none (fun m => (cee (ig y) (2 * m)).im) (fun k => (ee_parts y k).1) 10
  have e := cos_down y 9 (by omega)
  have f := sin_down y 9 (by omega)
  obtain ⟨f0, f1, f2, f3⟩ := ee_first y
  have e' : sm (fun m => (cee (ig y) (2 * m)).re) 10 = cp (y * y) 9 := by
    have : sm (fun m => (cee (ig y) (2 * (9 - 9) + 2 * m)).re) (9 + 1) = sm (fun m => (cee (ig y) (2 * m)).re) 10 := sm_congr fun m _ => by rw [show 2 * (9 - 9) + 2 * m = 2 * m by omega]
    rw [← this, e, show 2 * (9 - 9) = 0 from rfl, f0, Rat.one_mul]
  have f' : sm (fun m => (cee (ig y) (2 * m + 1)).im) 10 = y * sp (y * y) 9 := by
    have : sm (fun m => (cee (ig y) (2 * (9 - 9) + 1 + 2 * m)).im) (9 + 1) = sm (fun m => (cee (ig y) (2 * m + 1)).im) 10 := sm_congr fun m _ => by rw [show 2 * (9 - 9) + 1 + 2 * m = 2 * m + 1 by omega]
    rw [← this, f, show 2 * (9 - 9) + 1 = 1 from rfl, f3]
  constructor
  · show (csm (cee (ig y)) 20).re = _
    rw [a, show 20 = 2 * 10 from rfl, c, e', z1]
    grind
  · show (csm (cee (ig y)) 20).im = _
    rw [b, show 20 = 2 * 10 from rfl, d, f', z2]
    grind
theorem ee_8 : 2 * ee (8 / 10 : Rat) 20 ≤ tw 65 := by decide +kernel
/-- the true turn and the steps. -/
theorem CS_steps {y : Rat} (h : ab y ≤ 8 / 10) : ab ((CS y).re - cp (y * y) 9) ≤ tw 65 ∧ ab ((CS y).im - y * sp (y * y) 9) ≤ tw 65 := by
  have h1 := cnr_TT_sub (ig y) 19 181
  rw [nr_ig] at h1
  have h2 := tail_le' (ab_nn y) (n := 19) (by have : ((19 + 2 : Nat) : Rat) = 21 := rfl
                                              rw [this]; grind) 181
  have h3 := ee_mono (ab_nn y) h 20
  have h4 := ee_8
  obtain ⟨a, b⟩ := TT19 y
  have h5 : cnr (CS y - cTT (ig y) 19) ≤ tw 65 := by
    refine Rat.le_trans h1 (Rat.le_trans h2 ?_)
    rw [show 19 + 1 = 20 from rfl]
    grind
  have h6 : ab ((CS y).re - (cTT (ig y) 19).re) + ab ((CS y).im - (cTT (ig y) 19).im) ≤ tw 65 := h5
  rw [a, b] at h6
  have := ab_nn ((CS y).re - cp (y * y) 9)
  have := ab_nn ((CS y).im - y * sp (y * y) 9)
  constructor <;> grind
end Go.Proofs.Ytcfkhhnkboealaa
namespace Go.Proofs.Ytcfkhhnkboealaa
open Go.RowKit
set_option linter.unusedVariables false
set_option linter.unusedSimpArgs false
set_option maxRecDepth 100000
set_option maxHeartbeats 4000000
open Turns Sizes
open Cs (cnr)
theorem one_err {s z w d t g m r : Rat} {c : Rat} (hs0 : 0 ≤ s) (hs : s ≤ 64 / 100) (hz : ab (z - s) ≤ uu * s + et) (hc : 2 ≤ c) (hd : ab (d - z / c) ≤ uu * ab (z / c) + et) (ht : ab (t - g) ≤ 3 * uu) (hg0 : 0 ≤ g) (hg : g ≤ 1)
    (hm : ab (m - d * t) ≤ uu * ab (d * t) + et) (hr : ab (r - (1 - m)) ≤ uu * ab (1 - m)) : ab (r - (1 - s / c * g)) ≤ 3 * uu ∧ ab m ≤ 1 := by
  have hu : 0 < uu ∧ uu ≤ 1 / 1000000 := by decide +kernel
  have het := et_uu
  have he0 := et_pos
  have hcp : 0 < c := by grind
  obtain ⟨w, hw⟩ : ∃ w, w = s / c := ⟨_, rfl⟩
  have hwc : w * c = s := by rw [hw]; exact div_self_mul _ (by grind)
  have w0 : 0 ≤ w := by rw [hw, le_div hcp]; grind
  have w1 : w ≤ 32 / 100 := by rw [hw, div_le hcp]; grind
  obtain ⟨x, hx⟩ : ∃ x, x = z / c := ⟨_, rfl⟩
  have hxc : x * c = z := by rw [hx]; exact div_self_mul _ (by grind)
  rw [← hx] at hd
  rw [← hw]
  have us0 := Rat.mul_nonneg (Rat.le_of_lt hu.1) hs0
  have uw0 := Rat.mul_nonneg (Rat.le_of_lt hu.1) w0
  have us := Rat.mul_le_mul_of_nonneg_left hs (Rat.le_of_lt hu.1)
  have uw := Rat.mul_le_mul_of_nonneg_left w1 (Rat.le_of_lt hu.1)
  -- x beside w
  have xw : ab (x - w) ≤ uu * w + et := by
    have e : (x - w) * c = z - s := by grind
    have m1 : ab (x - w) * c = ab (z - s) := by rw [← e, ab_mul, ab_pos (Rat.le_of_lt hcp)]
    refine Rat.le_of_mul_le_mul_right (c := c) ?_ hcp
    rw [m1]
    have : (uu * w + et) * c = uu * s + et * c := by rw [← hwc]; grind
    rw [this]
    have := Rat.mul_le_mul_of_nonneg_left hc (Rat.le_of_lt he0)
    grind
  have xw' := ab_le.1 xw
  have xb : ab x ≤ 33 / 100 := by rw [ab_le]; constructor <;> grind
  have uxb := Rat.mul_le_mul_of_nonneg_left xb (Rat.le_of_lt hu.1)
  have dw : ab (d - w) ≤ 66 / 100 * uu := by
    have := ab_tri d x w
    grind
  have dw' := ab_le.1 dw
  have db : ab d ≤ 33 / 100 := by rw [ab_le]; constructor <;> grind
  have t' := ab_le.1 ht
  have tb : ab t ≤ 101 / 100 := by rw [ab_le]; constructor <;> grind
  have dt : ab (d * t) ≤ 34 / 100 := by
    rw [ab_mul]
    have := mul_mono (ab_nn d) db (ab_nn t) tb
    grind
  have dtw : ab (d * t - w * g) ≤ 163 / 100 * uu := by
    have e : d * t - w * g = (d - w) * t + w * (t - g) := by grind
    rw [e]
    have b1 := ab_add ((d - w) * t) (w * (t - g))
    have b2 : ab ((d - w) * t) ≤ 66 / 100 * uu * (101 / 100) := by rw [ab_mul]; exact mul_mono (ab_nn _) dw (ab_nn _) tb
    have b3 : ab (w * (t - g)) ≤ 32 / 100 * (3 * uu) := by rw [ab_mul, ab_pos w0]; exact mul_mono w0 w1 (ab_nn _) ht
    grind
  have udt := Rat.mul_le_mul_of_nonneg_left dt (Rat.le_of_lt hu.1)
  have mw : ab (m - w * g) ≤ 1975 / 1000 * uu := by
    have := ab_tri m (d * t) (w * g)
    grind
  have wg : 0 ≤ w * g ∧ w * g ≤ 32 / 100 := by
    have := mul_mono w0 w1 hg0 hg
    exact ⟨Rat.mul_nonneg w0 hg0, by grind⟩
  have mw' := ab_le.1 mw
  have mb : ab m ≤ 33 / 100 := by rw [ab_le]; constructor <;> grind
  have om : ab (1 - m) ≤ 10001 / 10000 := by rw [ab_le]; constructor <;> grind
  have uom := Rat.mul_le_mul_of_nonneg_left om (Rat.le_of_lt hu.1)
  refine ⟨?_, by grind⟩
  have x1 := ab_tri r (1 - m) (1 - w * g)
  rw [show 1 - m - (1 - w * g) = -(m - w * g) by grind, ab_neg] at x1
  grind
theorem cp_size {s : Rat} (h0 : 0 ≤ s) (h1 : s ≤ 64 / 100) : ∀ i, i ≤ 9 → (0 ≤ cp s i ∧ cp s i ≤ 1) ∧ (0 ≤ sp s i ∧ sp s i ≤ 1)
  | 0, _ => by
    show (0 ≤ (1 : Rat) ∧ (1 : Rat) ≤ 1) ∧ (0 ≤ (1 : Rat) ∧ (1 : Rat) ≤ 1)
    decide +kernel
  | i + 1, hi => by
    obtain ⟨⟨a, b⟩, c, d⟩ := cp_size h0 h1 i (by omega)
    have go : ∀ (n : Nat) (g : Rat), 2 ≤ n → 0 ≤ g → g ≤ 1 → 0 ≤ 1 - s / (n : Rat) * g ∧ 1 - s / (n : Rat) * g ≤ 1 := by
      intro n g hn g0 g1
      have c2 := cast_le.2 hn
      have e2 : ((2 : Nat) : Rat) = 2 := rfl
      rw [e2] at c2
      have q1 : s / (n : Rat) ≤ 1 := by rw [div_le (by grind)]; grind
      have q0 : 0 ≤ s / (n : Rat) := by rw [le_div (by grind)]; grind
      have := mul_mono q0 q1 g0 g1
      have := Rat.mul_nonneg q0 g0
      constructor <;> grind
    refine ⟨go ((17 - 2 * i) * (18 - 2 * i)) (cp s i) ?_ a b, go ((18 - 2 * i) * (19 - 2 * i)) (sp s i) ?_ c d⟩
    · exact Nat.le_trans (show 2 ≤ 1 * 2 by omega) (Nat.mul_le_mul (by omega) (by omega))
    · exact Nat.le_trans (show 2 ≤ 1 * 2 by omega) (Nat.mul_le_mul (by omega) (by omega))
theorem step_val {Z T c : Nat} {s z t g : Rat} (hZ : V Z z) (hT : V T t) (hs0 : 0 ≤ s) (hs : s ≤ 64 / 100) (hz : ab (z - s) ≤ uu * s + et) (hc : 2 ≤ c) (hc2 : c ≤ 1000) (ht : ab (t - g) ≤ 3 * uu) (hg0 : 0 ≤ g) (hg : g ≤ 1) :
    ∃ r, V (fsub 4607182418800017408 (fmul (fdiv Z (ofInt c)) T)) r ∧ ab (r - (1 - s / (c : Rat) * g)) ≤ 3 * uu := by
  have hB := BG_big
  have hu : 0 < uu ∧ uu ≤ 1 / 1000000 := by decide +kernel
  have het := et_uu
  have c2 := cast_le.2 hc
  have e2 : ((2 : Nat) : Rat) = 2 := rfl
  rw [e2] at c2
  have us := Rat.mul_le_mul_of_nonneg_left hs (Rat.le_of_lt hu.1)
  have z' := ab_le.1 hz
  have zb : ab z ≤ 1 := by rw [ab_le]; constructor <;> grind
  have zc : ab (z / (c : Rat)) ≤ 1 := by
    rw [ab_div, ab_pos (show 0 ≤ (c : Rat) by grind), div_le (by grind)]
    grind
  obtain ⟨d, hd, r1⟩ := hZ.div (V.ofNat (k := c) (by omega)) (by grind) (by grind)
  have uz := Rat.mul_le_mul_of_nonneg_left zc (Rat.le_of_lt hu.1)
  have db : ab d ≤ 2 := by
    have x := ab_tri d (z / (c : Rat)) 0
    rw [show d - 0 = d by grind, show z / (c : Rat) - 0 = z / (c : Rat) by grind] at x
    grind
  have t' := ab_le.1 ht
  have tb : ab t ≤ 2 := by rw [ab_le]; constructor <;> grind
  have dt : ab (d * t) ≤ 4 := by
    rw [ab_mul]
    have := mul_mono (ab_nn d) db (ab_nn t) tb
    grind
  obtain ⟨m, hm, r2⟩ := hd.mul hT (by grind)
  have udt := Rat.mul_le_mul_of_nonneg_left dt (Rat.le_of_lt hu.1)
  have mb : ab m ≤ 5 := by
    have x := ab_tri m (d * t) 0
    rw [show m - 0 = m by grind, show d * t - 0 = d * t by grind] at x
    grind
  have om := ab_sub 1 m
  rw [show ab (1 : Rat) = 1 by decide +kernel] at om
  obtain ⟨r, hr, r3⟩ := V.unit1.sub hm (by grind)
  exact ⟨r, hr, (one_err (w := 0) hs0 hs hz c2 r1 ht hg0 hg r2 r3).1⟩
theorem cos_val {Z : Nat} {s z : Rat} (hZ : V Z z) (hs0 : 0 ≤ s) (hs : s ≤ 64 / 100) (hz : ab (z - s) ≤ uu * s + et) : ∀ i, i ≤ 9 → ∃ t, V (cosSeq Z i) t ∧ ab (t - cp s i) ≤ 3 * uu
  | 0, _ => by
    refine ⟨1, V.unit1, ?_⟩
    show ab (1 - 1) ≤ _
    rw [show (1 : Rat) - 1 = 0 by decide +kernel]
    decide +kernel
  | i + 1, hi => by
    obtain ⟨t, ht, h2⟩ := cos_val hZ hs0 hs hz i (by omega)
    obtain ⟨⟨g0, g1⟩, _⟩ := cp_size hs0 hs i (by omega)
    obtain ⟨c, hc⟩ : ∃ c, c = (17 - 2 * i) * (18 - 2 * i) := ⟨_, rfl⟩
    have hc2 : 2 ≤ c := by rw [hc]; exact Nat.le_trans (show 2 ≤ 1 * 2 by omega) (Nat.mul_le_mul (by omega) (by omega))
    have hc3 : c ≤ 1000 := by rw [hc]; exact Nat.le_trans (Nat.mul_le_mul (show 17 - 2 * i ≤ 17 by omega) (show 18 - 2 * i ≤ 18 by omega)) (by decide)
    obtain ⟨r, hr, r2⟩ := step_val hZ ht hs0 hs hz hc2 hc3 h2 g0 g1
    refine ⟨r, ?_, ?_⟩
    · show V (fsub 4607182418800017408 (fmul (fdiv Z (ofInt ((2 * (9 - (i : Int)) - 1) * (2 * (9 - (i : Int)))))) (cosSeq Z i))) r
      have e : (2 * (9 - (i : Int)) - 1) * (2 * (9 - (i : Int))) = ((c : Nat) : Int) := by
        rw [hc]
        have a1 : ((17 - 2 * i : Nat) : Int) = 2 * (9 - (i : Int)) - 1 := by omega
        have a2 : ((18 - 2 * i : Nat) : Int) = 2 * (9 - (i : Int)) := by omega
        rw [← a1, ← a2]
        push_cast
        rfl
      rw [e]
      exact hr
    · show ab (r - (1 - s / ((((17 - 2 * i) * (18 - 2 * i) : Nat)) : Rat) * cp s i)) ≤ _
      rw [← hc]
      exact r2
theorem sin_val {Z : Nat} {s z : Rat} (hZ : V Z z) (hs0 : 0 ≤ s) (hs : s ≤ 64 / 100) (hz : ab (z - s) ≤ uu * s + et) : ∀ i, i ≤ 9 → ∃ t, V (sinSeq Z i) t ∧ ab (t - sp s i) ≤ 3 * uu
  | 0, _ => by
    refine ⟨1, V.unit1, ?_⟩
    show ab (1 - 1) ≤ _
    rw [show (1 : Rat) - 1 = 0 by decide +kernel]
    decide +kernel
  | i + 1, hi => by
    obtain ⟨t, ht, h2⟩ := sin_val hZ hs0 hs hz i (by omega)
    obtain ⟨_, g0, g1⟩ := cp_size hs0 hs i (by omega)
    obtain ⟨c, hc⟩ : ∃ c, c = (18 - 2 * i) * (19 - 2 * i) := ⟨_, rfl⟩
    have hc2 : 2 ≤ c := by rw [hc]; exact Nat.le_trans (show 2 ≤ 1 * 2 by omega) (Nat.mul_le_mul (by omega) (by omega))
    have hc3 : c ≤ 1000 := by rw [hc]; exact Nat.le_trans (Nat.mul_le_mul (show 18 - 2 * i ≤ 18 by omega) (show 19 - 2 * i ≤ 19 by omega)) (by decide)
    obtain ⟨r, hr, r2⟩ := step_val hZ ht hs0 hs hz hc2 hc3 h2 g0 g1
    refine ⟨r, ?_, ?_⟩
    · show V (fsub 4607182418800017408 (fmul (fdiv Z (ofInt (2 * (9 - (i : Int)) * (2 * (9 - (i : Int)) + 1)))) (sinSeq Z i))) r
      have e : 2 * (9 - (i : Int)) * (2 * (9 - (i : Int)) + 1) = ((c : Nat) : Int) := by
        rw [hc]
        have a1 : ((18 - 2 * i : Nat) : Int) = 2 * (9 - (i : Int)) := by omega
        have a2 : ((19 - 2 * i : Nat) : Int) = 2 * (9 - (i : Int)) + 1 := by omega
        rw [← a2, ← a1]
        push_cast
        rfl
      rw [e]
      exact hr
    · show ab (r - (1 - s / ((((18 - 2 * i) * (19 - 2 * i) : Nat)) : Rat) * sp s i)) ≤ _
      rw [← hc]
      exact r2
/-- THE STEPS: sine and cosine of a small float. -/
theorem steps_val {f : Nat} {a : Rat} (hf : V f a) (ha : ab a ≤ 8 / 10) : ∃ s c, V (sineF f) s ∧ V (cosF f) c ∧ ab (s - (CS a).im) ≤ 41 / 10 * (uu * ab a) + 2 * et + tw 65 ∧ ab (s - a * sp (a * a) 9) ≤ 41 / 10 * (uu * ab a) + 2 * et ∧ ab (c - (CS a).re) ≤ 3 * uu + tw 65 := by
  have hB := BG_big
  have hu : 0 < uu ∧ uu ≤ 1 / 1000000 := by decide +kernel
  have het := et_uu
  have he0 := et_pos
  have an := ab_nn a
  have e0 : a * a = ab a * ab a := by
    rcases (show 0 ≤ a ∨ a < 0 by grind) with q | q
    · rw [ab_pos q]
    · have : ab a = -a := by unfold ab; grind
      rw [this]; grind
  have s0 : 0 ≤ a * a := by rw [e0]; exact Rat.mul_nonneg an an
  have s1 : a * a ≤ 64 / 100 := by rw [e0]; have := mul_mono an ha an ha; grind
  obtain ⟨z, hz, r1⟩ := hf.mul hf (by rw [ab_pos s0]; grind)
  rw [ab_pos s0] at r1
  obtain ⟨c, hc, r2⟩ := cos_val hz s0 s1 r1 9 (by omega)
  obtain ⟨t, ht, r3⟩ := sin_val hz s0 s1 r1 9 (by omega)
  obtain ⟨_, g0, g1⟩ := cp_size s0 s1 9 (by omega)
  obtain ⟨k1, k2⟩ := CS_steps ha
  generalize cp (a * a) 9 = C at *
  generalize sp (a * a) 9 = g at *
  have t' := ab_le.1 r3
  have tb : ab t ≤ 101 / 100 := by rw [ab_le]; constructor <;> grind
  have atb : ab (a * t) ≤ 101 / 100 * ab a := by
    rw [ab_mul]
    have := Rat.mul_le_mul_of_nonneg_left tb an
    grind
  obtain ⟨s, hs, r4⟩ := hf.mul ht (by grind)
  have p := Rat.mul_nonneg (Rat.le_of_lt hu.1) an
  have key : ab (s - a * g) ≤ 41 / 10 * (uu * ab a) + 2 * et := by
    have x := ab_tri s (a * t) (a * g)
    have e : ab (a * t - a * g) ≤ ab a * (3 * uu) := by
      rw [show a * t - a * g = a * (t - g) by grind, ab_mul]
      exact Rat.mul_le_mul_of_nonneg_left r3 an
    have m := Rat.mul_le_mul_of_nonneg_left atb (Rat.le_of_lt hu.1)
    grind
  refine ⟨s, c, hs, hc, ?_, key, ?_⟩
  · have x := ab_tri s (a * g) (CS a).im
    rw [ab_comm (a * g)] at x
    grind
  · have x := ab_tri c C (CS a).re
    rw [ab_comm C] at x
    grind
end Go.Proofs.Ytcfkhhnkboealaa
namespace Go.Proofs.Ytcfkhhnkboealaa
open Go.RowKit
set_option linter.unusedVariables false
set_option linter.unusedSimpArgs false
set_option maxRecDepth 100000
set_option maxHeartbeats 4000000
open Turns Sizes
open Cs (cnr)
def ak (z : Rat) : Nat → Rat
  | 0 => 0
  | j + 1 => 1 / ((2 * (24 - j) + 1 : Nat) : Rat) - z * ak z j
/-- the sum from the top down. -/
theorem BT_down (u : Rat) : ∀ j, j ≤ 25 → BT u 25 = BT u (25 - j) + sn (25 - j) * pn u (2 * (25 - j) + 1) * ak (u * u) j
  | 0, _ => by
    show BT u 25 = BT u 25 + sn 25 * pn u (2 * 25 + 1) * 0
    grind
  | j + 1, h => by
    have ih := BT_down u j (by omega)
    obtain ⟨m, hm⟩ : ∃ m, 25 - j = m + 1 := ⟨24 - j, by omega⟩
    have hm2 : 25 - (j + 1) = m := by omega
    have hm3 : 24 - j = m := by omega
    rw [hm] at ih
    rw [ih, hm2]
    have e1 : BT u (m + 1) = BT u m + sn m * (pn u (2 * m + 1) / ((2 * m + 1 : Nat) : Rat)) := rfl
    have e2 : sn (m + 1) = -sn m := rfl
    have e3 : pn u (2 * (m + 1) + 1) = pn u (2 * m + 1) * u * u := rfl
    have e4 : ak (u * u) (j + 1) = 1 / ((2 * (24 - j) + 1 : Nat) : Rat) - u * u * ak (u * u) j := rfl
    rw [e1, e2, e3, e4, hm3]
    generalize ak (u * u) j = A
    generalize pn u (2 * m + 1) = P
    generalize ((2 * m + 1 : Nat) : Rat) = N
    grind
theorem BT_ak (u : Rat) : BT u 25 = u * ak (u * u) 25 := by
  have h := BT_down u 25 (by omega)
  have e : 25 - 25 = 0 := rfl
  rw [e] at h
  have e1 : BT u 0 = 0 := rfl
  have e2 : sn 0 = 1 := rfl
  have e3 : pn u (2 * 0 + 1) = u := by show 1 * u = u; grind
  rw [e1, e2, e3] at h
  rw [h]
  grind
theorem ak_size {z : Rat} (h0 : 0 ≤ z) (h1 : z ≤ 173 / 1000) : ∀ j, j ≤ 25 → 0 ≤ ak z j ∧ ak z j * ((2 * (25 - j) + 1 : Nat) : Rat) ≤ 1
  | 0, _ => by
    refine ⟨Rat.le_refl, ?_⟩
    show 0 * ((2 * (25 - 0) + 1 : Nat) : Rat) ≤ 1
    rw [Rat.zero_mul]
    decide +kernel
  | j + 1, hj => by
    obtain ⟨a, b⟩ := ak_size h0 h1 j (by omega)
    obtain ⟨m, hm⟩ : ∃ m, 24 - j = m := ⟨_, rfl⟩
    have hm1 : 25 - j = m + 1 := by omega
    have hm2 : 25 - (j + 1) = m := by omega
    rw [hm1] at b
    rw [hm2]
    show 0 ≤ 1 / ((2 * (24 - j) + 1 : Nat) : Rat) - z * ak z j ∧ (1 / ((2 * (24 - j) + 1 : Nat) : Rat) - z * ak z j) * ((2 * m + 1 : Nat) : Rat) ≤ 1
    rw [hm]
    have e : ((2 * (m + 1) + 1 : Nat) : Rat) = ((2 * m + 1 : Nat) : Rat) + 2 := by
      have : 2 * (m + 1) + 1 = (2 * m + 1) + 2 := by omega
      rw [this]
      grind
    rw [e] at b
    have n1 : (1 : Rat) ≤ ((2 * m + 1 : Nat) : Rat) := by
      have := cast_le.2 (show 1 ≤ 2 * m + 1 by omega)
      have e1 : ((1 : Nat) : Rat) = 1 := rfl
      grind
    generalize ((2 * m + 1 : Nat) : Rat) = N at *
    have hN : N ≠ 0 := by grind
    have q : 1 / N * N = 1 := div_self_mul 1 hN
    have aN : ak z j * N ≤ 1 := by grind
    have za := mul_mono h0 h1 a (Rat.le_refl (a := ak z j))
    have za0 := Rat.mul_nonneg h0 a
    constructor
    · have h2 : z * ak z j ≤ 1 / N := by
        rw [le_div (show 0 < N by grind)]
        have := Rat.mul_le_mul_of_nonneg_right za (show 0 ≤ N by grind)
        grind
      grind
    · have := Rat.mul_nonneg za0 (show 0 ≤ N by grind)
      grind
theorem core_err {z z' t g k d m r : Rat} (hz0 : 0 ≤ z) (hz : z ≤ 173 / 1000) (h1 : ab (z' - z) ≤ uu * z + et) (ht : ab (t - g) ≤ 3 * uu) (hg0 : 0 ≤ g) (hg : g ≤ 1) (hk0 : 0 ≤ k) (hk : k ≤ 1)
    (hd : ab (d - k) ≤ uu * ab k + et) (hm : ab (m - z' * t) ≤ uu * ab (z' * t) + et) (hr : ab (r - (d - m)) ≤ uu * ab (d - m)) (hkg : 0 ≤ k - z * g) : ab (r - (k - z * g)) ≤ 3 * uu := by
  have hu : 0 < uu ∧ uu ≤ 1 / 1000000 := by decide +kernel
  have het := et_uu
  have he0 := et_pos
  rw [ab_pos hk0] at hd
  have uz0 := Rat.mul_nonneg (Rat.le_of_lt hu.1) hz0
  have uz := Rat.mul_le_mul_of_nonneg_left hz (Rat.le_of_lt hu.1)
  have uk := Rat.mul_le_mul_of_nonneg_left hk (Rat.le_of_lt hu.1)
  have z1 := ab_le.1 h1
  have zb : ab z' ≤ 174 / 1000 := by rw [ab_le]; constructor <;> grind
  have t' := ab_le.1 ht
  have tb : ab t ≤ 101 / 100 := by rw [ab_le]; constructor <;> grind
  have zt : ab (z' * t) ≤ 176 / 1000 := by
    rw [ab_mul]
    have := mul_mono (ab_nn z') zb (ab_nn t) tb
    grind
  have uzt := Rat.mul_le_mul_of_nonneg_left zt (Rat.le_of_lt hu.1)
  have ztg : ab (z' * t - z * g) ≤ 698 / 1000 * uu := by
    have e : z' * t - z * g = (z' - z) * t + z * (t - g) := by grind
    rw [e]
    have b1 := ab_add ((z' - z) * t) (z * (t - g))
    have b2 : ab ((z' - z) * t) ≤ 1731 / 10000 * uu * (101 / 100) := by rw [ab_mul]; exact mul_mono (ab_nn _) (by grind) (ab_nn _) tb
    have b3 : ab (z * (t - g)) ≤ 173 / 1000 * (3 * uu) := by rw [ab_mul, ab_pos hz0]; exact mul_mono hz0 hz (ab_nn _) ht
    grind
  have mg : ab (m - z * g) ≤ 875 / 1000 * uu := by
    have := ab_tri m (z' * t) (z * g)
    grind
  have dk : ab (d - k) ≤ 10001 / 10000 * uu := by grind
  have dm : ab (d - m - (k - z * g)) ≤ 1877 / 1000 * uu := by
    have := ab_sub (d - k) (m - z * g)
    rw [show d - k - (m - z * g) = d - m - (k - z * g) by grind] at this
    grind
  have zg := Rat.mul_nonneg hz0 hg0
  have db : ab (d - m) ≤ 10001 / 10000 := by
    have x := ab_le.1 dm
    rw [ab_le]; constructor <;> grind
  have udm := Rat.mul_le_mul_of_nonneg_left db (Rat.le_of_lt hu.1)
  have x := ab_tri r (d - m) (k - z * g)
  grind
theorem core_upto {Z : Nat} {z z' : Rat} (hZ : V Z z') (hz0 : 0 ≤ z) (hz : z ≤ 173 / 1000) (h1 : ab (z' - z) ≤ uu * z + et) : ∀ j, j ≤ 25 → ∃ t, V (coreSeq Z j) t ∧ ab (t - ak z j) ≤ 3 * uu
  | 0, _ => by
    have hv := V.pos (r := 0) (by decide)
    rw [mval_zero] at hv
    have e : ((0 : Nat) : Rat) / (U : Rat) = 0 := by
      have a := div_self_mul ((0 : Nat) : Rat) UQ_ne
      have := UQ_ne
      have e0 : ((0 : Nat) : Rat) = 0 := rfl
      rw [e0] at a ⊢
      grind
    rw [e] at hv
    refine ⟨0, hv, ?_⟩
    show ab (0 - 0) ≤ _
    rw [show (0 : Rat) - 0 = 0 by decide +kernel]
    decide +kernel
  | j + 1, hj => by
    obtain ⟨t, ht, h2⟩ := core_upto hZ hz0 hz h1 j (by omega)
    obtain ⟨g0, g1⟩ := ak_size hz0 hz j (by omega)
    have g2 := (ak_size hz0 hz (j + 1) (by omega)).1
    obtain ⟨c, hc⟩ : ∃ c, c = 2 * (24 - j) + 1 := ⟨_, rfl⟩
    have e5 : ak z (j + 1) = 1 / ((2 * (24 - j) + 1 : Nat) : Rat) - z * ak z j := rfl
    rw [← hc] at e5
    rw [e5] at g2 ⊢
    have hB := BG_big
    have hu : 0 < uu ∧ uu ≤ 1 / 1000000 := by decide +kernel
    have het := et_uu
    have c1 : (1 : Rat) ≤ (c : Rat) := by
      have := cast_le.2 (show 1 ≤ c by omega)
      have e1 : ((1 : Nat) : Rat) = 1 := rfl
      grind
    have gb : ak z j ≤ 1 := by
      have n1 : (1 : Rat) ≤ ((2 * (25 - j) + 1 : Nat) : Rat) := by
        have := cast_le.2 (show 1 ≤ 2 * (25 - j) + 1 by omega)
        have e1 : ((1 : Nat) : Rat) = 1 := rfl
        grind
      have := Rat.mul_le_mul_of_nonneg_left n1 g0
      grind
    have k0 : 0 ≤ 1 / (c : Rat) ∧ 1 / (c : Rat) ≤ 1 := by
      constructor
      · rw [le_div (by grind)]; grind
      · rw [div_le (by grind)]; grind
    obtain ⟨d, hd, r1⟩ := V.unit1.div (V.ofNat (k := c) (by omega)) (by grind) (by rw [ab_pos k0.1]; grind)
    have uz := Rat.mul_le_mul_of_nonneg_left hz (Rat.le_of_lt hu.1)
    have z1 := ab_le.1 h1
    have zb : ab z' ≤ 1 := by rw [ab_le]; constructor <;> grind
    have t' := ab_le.1 h2
    have tb : ab t ≤ 2 := by rw [ab_le]; constructor <;> grind
    have zt : ab (z' * t) ≤ 2 := by
      rw [ab_mul]
      have := mul_mono (ab_nn z') zb (ab_nn t) tb
      grind
    obtain ⟨m, hm, r2⟩ := hZ.mul ht (by grind)
    have dm : ab (d - m) ≤ 5 := by
      have k1 := Rat.mul_le_mul_of_nonneg_left zt (Rat.le_of_lt hu.1)
      have k2 := Rat.mul_le_mul_of_nonneg_left k0.2 (Rat.le_of_lt hu.1)
      rw [ab_pos k0.1] at r1
      have c1 := ab_le.1 r1
      have c2 := ab_le.1 r2
      have c3 := ab_le.1 zt
      rw [ab_le]
      constructor <;> grind
    obtain ⟨r, hr, r3⟩ := hd.sub hm (by grind)
    refine ⟨r, ?_, core_err hz0 hz h1 h2 g0 gb k0.1 k0.2 r1 r2 r3 g2⟩
    show V (fsub (fdiv 4607182418800017408 (ofInt (2 * (24 - (j : Int)) + 1))) (fmul Z (coreSeq Z j))) r
    rw [show (2 : Int) * (24 - (j : Int)) + 1 = ((c : Nat) : Int) by omega]
    exact hr
/-- THE ARCTANGENT'S SUM. -/
theorem core_val {f : Nat} {u : Rat} (hf : V f u) (hu : ab u ≤ 4144 / 10000) : ∃ v, V (fmul f (coreSeq (fmul f f) 25)) v ∧ ab (v - BT u 25) ≤ 41 / 10 * (uu * ab u) + 2 * et := by
  have hB := BG_big
  have huu : 0 < uu ∧ uu ≤ 1 / 1000000 := by decide +kernel
  have het := et_uu
  have he0 := et_pos
  have un := ab_nn u
  have e0 : u * u = ab u * ab u := by
    rcases (show 0 ≤ u ∨ u < 0 by grind) with q | q
    · rw [ab_pos q]
    · have : ab u = -u := by unfold ab; grind
      rw [this]; grind
  have s0 : 0 ≤ u * u := by rw [e0]; exact Rat.mul_nonneg un un
  have s1 : u * u ≤ 173 / 1000 := by rw [e0]; have := mul_mono un hu un hu; grind
  obtain ⟨z, hz, r1⟩ := hf.mul hf (by rw [ab_pos s0]; grind)
  rw [ab_pos s0] at r1
  obtain ⟨t, ht, r3⟩ := core_upto hz s0 s1 r1 25 (by omega)
  obtain ⟨g0, g1⟩ := ak_size s0 s1 25 (by omega)
  have gb : ak (u * u) 25 ≤ 1 := by
    have e : ((2 * (25 - 25) + 1 : Nat) : Rat) = 1 := rfl
    rw [e, Rat.mul_one] at g1
    exact g1
  rw [BT_ak]
  clear g1
  generalize ak (u * u) 25 = g at *
  have t' := ab_le.1 r3
  have tb : ab t ≤ 101 / 100 := by rw [ab_le]; constructor <;> grind
  have atb : ab (u * t) ≤ 101 / 100 * ab u := by
    rw [ab_mul]
    have := Rat.mul_le_mul_of_nonneg_left tb un
    grind
  obtain ⟨s, hs, r4⟩ := hf.mul ht (by grind)
  have p := Rat.mul_nonneg (Rat.le_of_lt huu.1) un
  refine ⟨s, hs, ?_⟩
  have x := ab_tri s (u * t) (u * g)
  have e : ab (u * t - u * g) ≤ ab u * (3 * uu) := by
    rw [show u * t - u * g = u * (t - g) by grind, ab_mul]
    exact Rat.mul_le_mul_of_nonneg_left r3 un
  have m := Rat.mul_le_mul_of_nonneg_left atb (Rat.le_of_lt huu.1)
  grind
end Go.Proofs.Ytcfkhhnkboealaa
