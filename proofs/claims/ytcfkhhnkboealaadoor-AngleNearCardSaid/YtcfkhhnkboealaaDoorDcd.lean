/- The law's series with rounding: the angle of 1 / n, the sine and the cosine, by what each round leaves. No text of the program. The law's sine and cosine by their series, with rounding. No text of the program. -/
import Derived.Test.YtcfkhhnkboealaaDoorCce
import Derived.Test.YtcfkhhnkboealaaDoorCfh
namespace Go.Proofs.YtcfkhhnkboealaaDoor
set_option linter.unusedVariables false
set_option linter.unusedSimpArgs false
set_option maxRecDepth 100000
set_option maxHeartbeats 4000000
open Turns Sizes
open Cs (cnr)
/-- the terms and the sum of an arctangent's series, so far. -/
def LTm (u x : Rat) (k : Nat) (t : Rat) : Prop := ab (t - pn x (2 * k + 1)) ≤ 8 * ((k + 1 : Nat) : Rat) * u * ab (pn x (2 * k + 1))
def LSm (u x : Rat) (k : Nat) (s : Rat) : Prop := ab (s - BT x k) ≤ 2000 * (k : Rat) * u
theorem less_term {u x t t' : Rat} {k : Nat} (hu0 : 0 ≤ u) (hu : u ≤ 1 / 1000000000000) (hk : k < 180) (h : LTm u x k t) (h1 : ab (t' - t * (x * x)) ≤ 3 * u * ab (t * (x * x))) : LTm u x (k + 1) t' := by
  unfold LTm at *
  have e : pn x (2 * (k + 1) + 1) = pn x (2 * k + 1) * (x * x) := by
    show pn x (2 * k + 1) * x * x = _
    grind
  have kn : ((k + 1 : Nat) : Rat) ≤ 180 := cast_le.2 (show k + 1 ≤ 180 by omega)
  have k0 := cast_nn (k + 1)
  have e2 : ((k + 1 + 1 : Nat) : Rat) = ((k + 1 : Nat) : Rat) + 1 := by grind
  rw [e, e2]
  generalize ((k + 1 : Nat) : Rat) = K at *
  have Ku : 0 ≤ K * u := mul_nn k0 hu0
  have Kuu := Rat.mul_le_mul_of_nonneg_right kn hu0
  have m := near_mul (d := 8 * K * u) (u := 3 * u) h h1 (by grind) (by grind)
  refine Rat.le_trans m (Rat.mul_le_mul_of_nonneg_right ?_ (ab_nn _))
  have a := Rat.mul_le_mul_of_nonneg_left hu Ku
  have b : 3 * u * (8 * K * u) = 24 * (K * u * u) := by grind
  have c : 8 * K * u = 8 * (K * u) := by grind
  have d : 8 * (K + 1) * u = 8 * (K * u) + 8 * u := by grind
  rw [b, c, d]
  generalize K * u * u = q at *
  generalize K * u = p at *
  grind
theorem less_one {u x t o : Rat} {k : Nat} (hu0 : 0 ≤ u) (hu : u ≤ 1 / 1000000000000) (hk : k < 180) (h : LTm u x k t) (h1 : ab (o - t / ((2 * k + 1 : Nat) : Rat)) ≤ 3 * u * ab (t / ((2 * k + 1 : Nat) : Rat))) :
    ab (o - pn x (2 * k + 1) / ((2 * k + 1 : Nat) : Rat)) ≤ 1500 * u * ab (pn x (2 * k + 1) / ((2 * k + 1 : Nat) : Rat)) := by
  unfold LTm at *
  have kn : ((k + 1 : Nat) : Rat) ≤ 180 := cast_le.2 (show k + 1 ≤ 180 by omega)
  have k0 := cast_nn (k + 1)
  have e1 : ∀ z : Rat, z / ((2 * k + 1 : Nat) : Rat) = z * (1 / ((2 * k + 1 : Nat) : Rat)) := by intro z; grind
  rw [e1] at h1 ⊢
  generalize ((k + 1 : Nat) : Rat) = K at *
  have Ku : 0 ≤ K * u := mul_nn k0 hu0
  have Kuu := Rat.mul_le_mul_of_nonneg_right kn hu0
  have m := near_mul (d := 8 * K * u) (u := 3 * u) h h1 (by grind) (by grind)
  refine Rat.le_trans m (Rat.mul_le_mul_of_nonneg_right ?_ (ab_nn _))
  have a := Rat.mul_le_mul_of_nonneg_left hu Ku
  have b : 3 * u * (8 * K * u) = 24 * (K * u * u) := by grind
  have c : 8 * K * u = 8 * (K * u) := by grind
  rw [b, c]
  generalize K * u * u = q at *
  generalize K * u = p at *
  grind
theorem pn_le {x : Rat} (h0 : 0 ≤ x) (h1 : x ≤ 1) : ∀ k, pn x (k + 1) ≤ x
  | 0 => by show 1 * x ≤ x; grind
  | k + 1 => by
    have a := pn_le h0 h1 k
    have b := mul_mono (pn_nn h0 (k + 1)) a h0 h1
    show pn x (k + 1) * x ≤ x
    grind
theorem odd_pos (k : Nat) : (1 : Rat) ≤ ((2 * k + 1 : Nat) : Rat) := cast_le.2 (show 1 ≤ 2 * k + 1 by omega)
theorem part_le {x : Rat} (h0 : 0 ≤ x) (h1 : x ≤ 1) (k : Nat) : 0 ≤ pn x (2 * k + 1) / ((2 * k + 1 : Nat) : Rat) ∧ pn x (2 * k + 1) / ((2 * k + 1 : Nat) : Rat) ≤ pn x (2 * k + 1) ∧ pn x (2 * k + 1) ≤ x := by
  have a := pn_nn h0 (2 * k + 1)
  have b := odd_pos k
  refine ⟨?_, ?_, pn_le h0 h1 _⟩
  · rw [le_div (by grind)]; grind
  · rw [div_le (by grind)]
    have := Rat.mul_le_mul_of_nonneg_left b a
    grind
theorem BT_near {x : Rat} (h0 : 0 ≤ x) (h1 : x ≤ 1 / 5) : ∀ k, ab (BT x (k + 1) - x) ≤ (x - pn x (2 * k + 1)) / 24
  | 0 => by
    have e : BT x 1 = x := by
      show 0 + 1 * ((1 * x) / ((2 * 0 + 1 : Nat) : Rat)) = x
      have : ((2 * 0 + 1 : Nat) : Rat) = 1 := rfl
      rw [this]; grind
    have e2 : pn x (2 * 0 + 1) = x := by show 1 * x = x; grind
    rw [e, e2, show x - x = 0 by grind, show ab (0 : Rat) = 0 by decide +kernel]
    decide +kernel
  | k + 1 => by
    have ih := BT_near h0 h1 k
    have e : pn x (2 * (k + 1) + 1) = pn x (2 * k + 1) * (x * x) := by
      show pn x (2 * k + 1) * x * x = _
      grind
    have x2 := mul_mono h0 h1 h0 h1
    have p0 := pn_nn h0 (2 * k + 1)
    have p1 := Rat.mul_le_mul_of_nonneg_left x2 p0
    obtain ⟨a1, a2, a3⟩ := part_le h0 (by grind) (k + 1)
    have st : BT x (k + 1 + 1) = BT x (k + 1) + sn (k + 1) * (pn x (2 * (k + 1) + 1) / ((2 * (k + 1) + 1 : Nat) : Rat)) := rfl
    rw [st]
    generalize pn x (2 * (k + 1) + 1) / ((2 * (k + 1) + 1 : Nat) : Rat) = r at *
    have s := ab_mul (sn (k + 1)) r
    rw [sn_ab, Rat.one_mul, ab_pos a1] at s
    have t := ab_add (BT x (k + 1) - x) (sn (k + 1) * r)
    rw [show BT x (k + 1) - x + sn (k + 1) * r = BT x (k + 1) + sn (k + 1) * r - x by grind] at t
    rw [e] at a2 ⊢
    generalize pn x (2 * k + 1) * (x * x) = q at *
    generalize pn x (2 * k + 1) = p at *
    generalize BT x (k + 1) = B at *
    grind
theorem lsm_next {u x s o o' s' : Rat} {k : Nat} (hu0 : 0 ≤ u) (hu : u ≤ 1 / 1000000000000) (hk : k < 180) (h0 : 0 ≤ x) (hx : x ≤ 1 / 5) (h : LSm u x k s)
    (h1 : ab (o - pn x (2 * k + 1) / ((2 * k + 1 : Nat) : Rat)) ≤ 1500 * u * ab (pn x (2 * k + 1) / ((2 * k + 1 : Nat) : Rat)))
    (h2 : ab (o' - sn k * o) ≤ u * ab o) (h3 : ab (s' - (s + o')) ≤ u * ab (s + o')) : LSm u x (k + 1) s' := by
  unfold LSm at *
  have kn : (k : Rat) ≤ 180 := cast_le.2 (show k ≤ 180 by omega)
  have k0 := cast_nn k
  have e2 : ((k + 1 : Nat) : Rat) = (k : Rat) + 1 := by grind
  obtain ⟨a1, a2, a3⟩ := part_le h0 (show x ≤ 1 by grind) k
  have st : BT x (k + 1) = BT x k + sn k * (pn x (2 * k + 1) / ((2 * k + 1 : Nat) : Rat)) := rfl
  rw [e2, st]
  have bt := BT_size h0 (show x ≤ 1 / 2 by grind) k
  have r1 : pn x (2 * k + 1) / ((2 * k + 1 : Nat) : Rat) ≤ 1 / 5 := by grind
  have sk := sn_ab k
  generalize pn x (2 * k + 1) / ((2 * k + 1 : Nat) : Rat) = r at *
  generalize BT x k = B at *
  generalize sn k = σ at *
  generalize (k : Rat) = K at *
  rw [ab_pos a1] at h1
  have u1 := Rat.mul_le_mul_of_nonneg_left r1 hu0
  have o1 : ab (o - r) ≤ 300 * u := by grind
  have o2 : ab o ≤ 1 / 4 := by
    have := ab_add (o - r) r
    rw [show o - r + r = o by grind, ab_pos a1] at this
    grind
  have u2 := Rat.mul_le_mul_of_nonneg_left o2 hu0
  have o3 : ab (o' - σ * r) ≤ 301 * u := by
    have a := ab_add (o' - σ * o) (σ * (o - r))
    rw [show o' - σ * o + σ * (o - r) = o' - σ * r by grind, ab_mul, sk, Rat.one_mul] at a
    grind
  have Ku := Rat.mul_le_mul_of_nonneg_right kn hu0
  have e3 : 2000 * K * u = 2000 * (K * u) := by grind
  rw [e3] at h
  have d : ab (s + o' - (B + σ * r)) ≤ 2000 * (K * u) + 301 * u := by
    have a := ab_add (s - B) (o' - σ * r)
    rw [show s - B + (o' - σ * r) = s + o' - (B + σ * r) by grind] at a
    grind
  have z : ab (s + o') ≤ 2 := by
    have a := ab_add (s + o' - (B + σ * r)) (B + σ * r)
    have b := ab_add B (σ * r)
    rw [ab_mul σ r, sk, Rat.one_mul, ab_pos a1] at b
    rw [show s + o' - (B + σ * r) + (B + σ * r) = s + o' by grind] at a
    grind
  have u3 := Rat.mul_le_mul_of_nonneg_left z hu0
  have a := ab_tri s' (s + o') (B + σ * r)
  have e4 : 2000 * (K + 1) * u = 2000 * (K * u) + 2000 * u := by grind
  rw [e4]
  grind
theorem less_range {u x s : Rat} {k : Nat} (hu0 : 0 ≤ u) (hu : u ≤ 1 / 1000000000000) (hk : k < 180) (h0 : 1 / 300 ≤ x) (hx : x ≤ 1 / 5) (h : LSm u x (k + 1) s) : x / 2 ≤ s ∧ s ≤ 2 * x := by
  unfold LSm at h
  have b := BT_near (show 0 ≤ x by grind) hx k
  have p := pn_nn (show 0 ≤ x by grind) (2 * k + 1)
  have kn : ((k + 1 : Nat) : Rat) ≤ 180 := cast_le.2 (show k + 1 ≤ 180 by omega)
  have Ku := Rat.mul_le_mul_of_nonneg_right kn hu0
  have e3 : 2000 * ((k + 1 : Nat) : Rat) * u = 2000 * (((k + 1 : Nat) : Rat) * u) := by grind
  rw [e3] at h
  generalize ((k + 1 : Nat) : Rat) * u = q at *
  generalize BT x (k + 1) = B at *
  generalize pn x (2 * k + 1) = P at *
  have a := ab_le.1 h
  have c := ab_le.1 b
  constructor <;> grind
/-- beyond so many terms. -/
theorem BT_tail {x : Rat} (h0 : 0 ≤ x) (h1 : x ≤ 1 / 5) (m : Nat) : ∀ k, ab (BT x (m + k) - BT x m) ≤ 2 * (pn x (2 * m + 1) - pn x (2 * (m + k) + 1))
  | 0 => by
    rw [Nat.add_zero, show BT x m - BT x m = 0 by grind, show ab (0 : Rat) = 0 by decide +kernel]
    grind
  | k + 1 => by
    have ih := BT_tail h0 h1 m k
    have e : pn x (2 * (m + (k + 1)) + 1) = pn x (2 * (m + k) + 1) * (x * x) := by
      show pn x (2 * (m + k) + 1) * x * x = _
      grind
    have x2 := mul_mono h0 h1 h0 h1
    have p0 := pn_nn h0 (2 * (m + k) + 1)
    have p1 := Rat.mul_le_mul_of_nonneg_left x2 p0
    obtain ⟨a1, a2, a3⟩ := part_le h0 (show x ≤ 1 by grind) (m + k)
    have st : BT x (m + (k + 1)) = BT x (m + k) + sn (m + k) * (pn x (2 * (m + k) + 1) / ((2 * (m + k) + 1 : Nat) : Rat)) := rfl
    rw [st, e]
    generalize pn x (2 * (m + k) + 1) / ((2 * (m + k) + 1 : Nat) : Rat) = r at *
    have s := ab_mul (sn (m + k)) r
    rw [sn_ab, Rat.one_mul, ab_pos a1] at s
    have t := ab_add (BT x (m + k) - BT x m) (sn (m + k) * r)
    rw [show BT x (m + k) - BT x m + sn (m + k) * r = BT x (m + k) + sn (m + k) * r - BT x m by grind] at t
    generalize pn x (2 * (m + k) + 1) * (x * x) = q at *
    generalize pn x (2 * (m + k) + 1) = p at *
    grind
theorem machin_num : ab (16 * BT (1 / 5) 40 - 4 * BT (1 / 239) 12 - 2 * hp) ≤ tw 105 ∧ 2 * pn (1 / 5) (2 * 40 + 1) ≤ tw 180 ∧ 2 * pn (1 / 239) (2 * 12 + 1) ≤ tw 180 := by decide +kernel
theorem machin {a b : Rat} (ha : ab (a - BT (1 / 5) 180) ≤ tw 120) (hb : ab (b - BT (1 / 239) 180) ≤ tw 120) : ab (16 * a - 4 * b - 2 * hp) ≤ tw 104 := by
  obtain ⟨n1, n2, n3⟩ := machin_num
  have t1 := BT_tail (x := 1 / 5) (by decide +kernel) (by decide +kernel) 40 140
  have t2 := BT_tail (x := 1 / 239) (by decide +kernel) (by decide +kernel) 12 168
  have p1 := pn_nn (x := 1 / 5) (by decide +kernel) (2 * (40 + 140) + 1)
  have p2 := pn_nn (x := 1 / 239) (by decide +kernel) (2 * (12 + 168) + 1)
  rw [show 40 + 140 = 180 from rfl] at t1 p1
  rw [show 12 + 168 = 180 from rfl] at t2 p2
  have u : tw 105 + 40 * tw 120 + 40 * tw 180 ≤ tw 104 := by decide +kernel
  have w0 := tw_pos 180
  generalize pn (1 / 5) (2 * 180 + 1) = P1 at *
  generalize pn (1 / 239) (2 * 180 + 1) = P2 at *
  generalize pn (1 / 5) (2 * 40 + 1) = Q1 at *
  generalize pn (1 / 239) (2 * 12 + 1) = Q2 at *
  generalize BT (1 / 5) 180 = A at *
  generalize BT (1 / 239) 180 = B at *
  generalize BT (1 / 5) 40 = C at *
  generalize BT (1 / 239) 12 = D at *
  generalize hp = H at *
  generalize tw 104 = w1 at *
  generalize tw 105 = w2 at *
  generalize tw 120 = w3 at *
  generalize tw 180 = w4 at *
  have a1 := ab_le.1 ha
  have a2 := ab_le.1 hb
  have a3 := ab_le.1 t1
  have a4 := ab_le.1 t2
  have a5 := ab_le.1 n1
  rw [ab_le]
  constructor <;> grind
end Go.Proofs.YtcfkhhnkboealaaDoor
namespace Go.Proofs.YtcfkhhnkboealaaDoor
set_option linter.unusedVariables false
set_option linter.unusedSimpArgs false
set_option maxRecDepth 100000
set_option maxHeartbeats 4000000
open Turns Sizes
open Cs (cnr)
def TTm (u y : Rat) (k : Nat) (t : Rat) : Prop := ab (t - ee y k) ≤ 5 * (k : Rat) * u * ab (ee y k)
theorem turn_term {u y t t1 t2 : Rat} {k : Nat} (hu0 : 0 ≤ u) (hu : u ≤ 1 / 1000000000000) (hk : k < 100) (h : TTm u y k t) (h1 : ab (t1 - t * y) ≤ u * ab (t * y)) (h2 : ab (t2 - t1 / ((k + 1 : Nat) : Rat)) ≤ 3 * u * ab (t1 / ((k + 1 : Nat) : Rat))) : TTm u y (k + 1) t2 := by
  unfold TTm at *
  have k0 := cast_nn k
  have k60 : (k : Rat) ≤ 100 := cast_le.2 (show k ≤ 100 by omega)
  have e2 : ee y (k + 1) = ee y k * y * (1 / ((k + 1 : Nat) : Rat)) := by rw [ee_rat]; grind
  have e1 : t1 / ((k + 1 : Nat) : Rat) = t1 * (1 / ((k + 1 : Nat) : Rat)) := by grind
  have q0 : ((k + 1 : Nat) : Rat) = (k : Rat) + 1 := by grind
  rw [e1] at h2
  rw [e2]
  have a0 := ab_nn (ee y k * y * (1 / ((k + 1 : Nat) : Rat)))
  generalize 1 / ((k + 1 : Nat) : Rat) = v at *
  rw [q0]
  generalize (k : Rat) = K at *
  have ku : 0 ≤ K * u := mul_nn k0 hu0
  have ku2 : K * u ≤ 100 * u := Rat.mul_le_mul_of_nonneg_right k60 hu0
  have m1 := near_mul h h1 (by grind) hu0
  have b1 := Rat.mul_le_mul_of_nonneg_left hu ku
  have b2 := Rat.mul_le_mul_of_nonneg_left hu hu0
  have b3 := mul_nn hu0 ku
  have m2 := near_mul m1 h2 (by grind) (by grind)
  refine Rat.le_trans m2 (Rat.mul_le_mul_of_nonneg_right ?_ a0)
  have b4 := Rat.mul_le_mul_of_nonneg_left b1 hu0
  have f1 : 5 * K * u + u + u * (5 * K * u) + 3 * u + 3 * u * (5 * K * u + u + u * (5 * K * u)) = 5 * (K * u) + 4 * u + 20 * (K * u * u) + 3 * (u * u) + 15 * (u * (K * u * u)) := by grind
  have f2 : 5 * (K + 1) * u = 5 * (K * u) + 5 * u := by grind
  rw [f1, f2]
  have f3 : u * (K * u * (1 / 1000000000000)) = K * u * u * (1 / 1000000000000) := by grind
  rw [f3] at b4
  generalize u * (K * u * u) = p3 at *
  generalize K * u * u = p2 at *
  generalize K * u = p1 at *
  generalize u * u = p0 at *
  grind
/-- the sign of a term. -/
def sg4 (k : Nat) : Rat := if 2 ≤ k % 4 then -1 else 1
theorem sg4_ab (k : Nat) : ab (sg4 k) = 1 := by unfold sg4; split <;> decide +kernel
theorem cee_par (y : Rat) : ∀ k, (k % 2 = 0 → (cee (ig y) k).re = sg4 k * ee y k ∧ (cee (ig y) k).im = 0) ∧ (k % 2 = 1 → (cee (ig y) k).re = 0 ∧ (cee (ig y) k).im = sg4 k * ee y k)
  | 0 => ⟨fun _ => ⟨(by show (1 : Rat) = sg4 0 * 1; decide +kernel), rfl⟩, fun h => by omega⟩
  | k + 1 => by
    obtain ⟨a, b⟩ := cee_par y k
    obtain ⟨c, d⟩ := ee_ig y k
    have e := ee_rat y k
    have n := nQ_pos k
    generalize ((k + 1 : Nat) : Rat) = N at *
    constructor
    · intro h
      obtain ⟨a1, a2⟩ := b (by omega)
      have s : sg4 (k + 1) = -sg4 k := by
        unfold sg4
        rcases (show k % 4 = 1 ∨ k % 4 = 3 by omega) with q | q
        · rw [if_pos (by omega), if_neg (by omega)]
        · rw [if_neg (by omega), if_pos (by omega)]; decide +kernel
      rw [c, d, a1, a2, s, e]
      constructor <;> grind
    · intro h
      obtain ⟨a1, a2⟩ := a (by omega)
      have s : sg4 (k + 1) = sg4 k := by
        unfold sg4
        rcases (show k % 4 = 0 ∨ k % 4 = 2 by omega) with q | q
        · rw [if_neg (by omega), if_neg (by omega)]
        · rw [if_pos (by omega), if_pos (by omega)]
      rw [c, d, a1, a2, s, e]
      constructor <;> grind
/-- the sum of the first k terms. -/
def PSm (y : Rat) (k : Nat) : Cq := csm (cee (ig y)) k
theorem PSm_even (y : Rat) {k : Nat} (h : k % 2 = 0) : (PSm y (k + 1)).re = (PSm y k).re + sg4 k * ee y k ∧ (PSm y (k + 1)).im = (PSm y k).im := by
  obtain ⟨a, b⟩ := (cee_par y k).1 h
  have e : PSm y (k + 1) = PSm y k + cee (ig y) k := rfl
  rw [e]
  refine ⟨?_, ?_⟩
  · show (PSm y k).re + (cee (ig y) k).re = _
    rw [a]
  · show (PSm y k).im + (cee (ig y) k).im = _
    rw [b]; grind
theorem PSm_odd (y : Rat) {k : Nat} (h : k % 2 = 1) : (PSm y (k + 1)).im = (PSm y k).im + sg4 k * ee y k ∧ (PSm y (k + 1)).re = (PSm y k).re := by
  obtain ⟨a, b⟩ := (cee_par y k).2 h
  have e : PSm y (k + 1) = PSm y k + cee (ig y) k := rfl
  rw [e]
  refine ⟨?_, ?_⟩
  · show (PSm y k).im + (cee (ig y) k).im = _
    rw [b]
  · show (PSm y k).re + (cee (ig y) k).re = _
    rw [a]; grind
/-- how great a term is. -/
theorem ee_next {y : Rat} (h : ab y ≤ 8 / 10) (k : Nat) (hk : 2 ≤ k) : ab (ee y (k + 1)) ≤ 3 / 10 * ab (ee y k) := by
  have n := nQ_pos k
  have n3 : (3 : Rat) ≤ ((k + 1 : Nat) : Rat) := cast_le.2 (show 3 ≤ k + 1 by omega)
  have e : ee y (k + 1) * ((k + 1 : Nat) : Rat) = ee y k * y := by rw [ee_rat]; exact div_self (by grind)
  have a := congrArg ab e
  rw [ab_mul, ab_mul, ab_pos (Rat.le_of_lt n)] at a
  have b := Rat.mul_le_mul_of_nonneg_left h (ab_nn (ee y k))
  have c := Rat.mul_le_mul_of_nonneg_left n3 (ab_nn (ee y (k + 1)))
  have d := ab_nn (ee y (k + 1))
  generalize ((k + 1 : Nat) : Rat) = N at *
  grind
theorem ee_two' (y : Rat) : ee y 0 = 1 ∧ ee y 1 = y ∧ ee y 2 = y * y / 2 := by
  have a := ee_rat y 0
  have b := ee_rat y 1
  have e1 : ((0 + 1 : Nat) : Rat) = 1 := rfl
  have e2 : ((1 + 1 : Nat) : Rat) = 2 := rfl
  rw [e1] at a
  rw [e2] at b
  have z : ee y 0 = 1 := rfl
  rw [z] at a
  refine ⟨z, by rw [show (1 : Nat) = 0 + 1 from rfl, a]; grind, ?_⟩
  rw [show (2 : Nat) = 1 + 1 from rfl, b, show (1 : Nat) = 0 + 1 from rfl, a]; grind
theorem ee_small {y : Rat} (h : ab y ≤ 8 / 10) : ∀ k, 1 ≤ k → ab (ee y k) ≤ ab y := by
  intro k hk
  obtain ⟨j, rfl⟩ : ∃ j, k = j + 1 := ⟨k - 1, by omega⟩
  have a := ee_times (show ab y ≤ 1 by grind) j
  have n1 : (1 : Rat) ≤ ((j + 1 : Nat) : Rat) := cast_le.2 (show 1 ≤ j + 1 by omega)
  have c := Rat.mul_le_mul_of_nonneg_right n1 (ab_nn (ee y (j + 1)))
  grind
/-- where the sums stand from the third round on. -/
theorem PSm_near {y : Rat} (h : ab y ≤ 8 / 10) : ∀ j, ab ((PSm y (j + 2)).re - 1) + 2 * ab (ee y (j + 2)) ≤ y * y ∧ ab ((PSm y (j + 2)).im - y) + 2 * ab (ee y (j + 2)) ≤ y * y
  | 0 => by
    obtain ⟨z, a, b⟩ := ee_two' y
    have p0 := PSm_even y (k := 0) rfl
    have p1 := PSm_odd y (k := 1) rfl
    have s0 : sg4 0 = 1 := rfl
    have s1 : sg4 1 = 1 := rfl
    have q : PSm y 0 = 0 := rfl
    rw [z, s0, q, Cq.zero_re, Cq.zero_im] at p0
    rw [a, s1] at p1
    have e1 : (PSm y (0 + 2)).re = 1 := by rw [show 0 + 2 = 1 + 1 from rfl, p1.2, show (1 : Nat) = 0 + 1 from rfl, p0.1]; decide +kernel
    have e2 : (PSm y (0 + 2)).im = y := by rw [show 0 + 2 = 1 + 1 from rfl, p1.1, show (1 : Nat) = 0 + 1 from rfl, p0.2]; grind
    have yy : 0 ≤ y * y := by
      have := mul_nn (ab_nn y) (ab_nn y)
      rw [← ab_mul] at this
      have := ab_of (y * y)
      rcases (show 0 ≤ y ∨ y ≤ 0 by grind) with q | q
      · exact mul_nn q q
      · have := mul_nn (show 0 ≤ -y by grind) (show 0 ≤ -y by grind); grind
    rw [e1, e2, show (1 : Rat) - 1 = 0 by decide +kernel, show y - y = 0 by grind, show ab (0 : Rat) = 0 by decide +kernel, show (0 : Nat) + 2 = 2 from rfl, b, ab_pos (by grind)]
    constructor <;> grind
  | j + 1 => by
    obtain ⟨a, b⟩ := PSm_near h j
    have n := ee_next h (j + 2) (by omega)
    have s := ab_mul (sg4 (j + 2)) (ee y (j + 2))
    rw [sg4_ab, Rat.one_mul] at s
    rw [show j + 1 + 2 = j + 2 + 1 by omega]
    rcases Nat.mod_two_eq_zero_or_one (j + 2) with q | q
    · obtain ⟨c, d⟩ := PSm_even y q
      rw [c, d]
      have t := ab_add ((PSm y (j + 2)).re - 1) (sg4 (j + 2) * ee y (j + 2))
      rw [show (PSm y (j + 2)).re - 1 + sg4 (j + 2) * ee y (j + 2) = (PSm y (j + 2)).re + sg4 (j + 2) * ee y (j + 2) - 1 by grind] at t
      have nn := ab_nn (ee y (j + 2))
      constructor <;> grind
    · obtain ⟨c, d⟩ := PSm_odd y q
      rw [c, d]
      have t := ab_add ((PSm y (j + 2)).im - y) (sg4 (j + 2) * ee y (j + 2))
      rw [show (PSm y (j + 2)).im - y + sg4 (j + 2) * ee y (j + 2) = (PSm y (j + 2)).im + sg4 (j + 2) * ee y (j + 2) - y by grind] at t
      have nn := ab_nn (ee y (j + 2))
      constructor <;> grind
/-- the two sums with rounding. -/
def CSm (u y : Rat) (k : Nat) (c : Rat) : Prop := ab (c - (PSm y k).re) ≤ 2000 * (k : Rat) * u
def SSm (u y : Rat) (k : Nat) (s : Rat) : Prop := ab (s - (PSm y k).im) ≤ 2000 * (k : Rat) * u * ab y
theorem one_near {u y t o : Rat} {k : Nat} (hu0 : 0 ≤ u) (hu : u ≤ 1 / 1000000000000) (hk : k < 100) (ht : TTm u y k t) (h2 : ab (o - sg4 k * t) ≤ u * ab t) : ab (o - sg4 k * ee y k) ≤ 600 * u * ab (ee y k) := by
  unfold TTm at ht
  have k0 := cast_nn k
  have k60 : (k : Rat) ≤ 100 := cast_le.2 (show k ≤ 100 by omega)
  have s := sg4_ab k
  have m := ab_mul (sg4 k) (t - ee y k)
  rw [s, Rat.one_mul] at m
  have a := ab_add (o - sg4 k * t) (sg4 k * (t - ee y k))
  rw [show o - sg4 k * t + sg4 k * (t - ee y k) = o - sg4 k * ee y k by grind] at a
  have b := ab_add (t - ee y k) (ee y k)
  rw [show t - ee y k + ee y k = t by grind] at b
  have nn := ab_nn (ee y k)
  generalize ab (ee y k) = E at *
  generalize (k : Rat) = K at *
  have Ku := Rat.mul_le_mul_of_nonneg_right k60 hu0
  have uE := mul_nn hu0 nn
  have KuE := Rat.mul_le_mul_of_nonneg_right Ku nn
  have f : 5 * K * u * E = 5 * (K * u * E) := by grind
  rw [f] at ht
  have g : 100 * u * E = 100 * (u * E) := by grind
  rw [g] at KuE
  have tb : ab t ≤ 2 * E := by
    have v := Rat.mul_le_mul_of_nonneg_right hu nn
    grind
  have ut := Rat.mul_le_mul_of_nonneg_left tb hu0
  have f2 : 600 * u * E = 600 * (u * E) := by grind
  have f3 : u * (2 * E) = 2 * (u * E) := by grind
  rw [f2]
  rw [f3] at ut
  generalize K * u * E = p at *
  generalize u * E = q at *
  grind
theorem sum_next {u S E s o s' B : Rat} {k : Nat} (hu0 : 0 ≤ u) (hu : u ≤ 1 / 1000000000000) (hk : k < 100) (hB : 0 ≤ B) (h : ab (s - S) ≤ 2000 * (k : Rat) * u * B) (h1 : ab (o - E) ≤ 600 * u * B) (hS : ab (S + E) ≤ 3 * B) (h3 : ab (s' - (s + o)) ≤ u * ab (s + o)) : ab (s' - (S + E)) ≤ 2000 * ((k + 1 : Nat) : Rat) * u * B := by
  have k0 := cast_nn k
  have k60 : (k : Rat) ≤ 100 := cast_le.2 (show k ≤ 100 by omega)
  have q0 : ((k + 1 : Nat) : Rat) = (k : Rat) + 1 := by grind
  rw [q0]
  generalize (k : Rat) = K at *
  have Ku := Rat.mul_le_mul_of_nonneg_right k60 hu0
  have KuB := Rat.mul_le_mul_of_nonneg_right Ku hB
  have uB := mul_nn hu0 hB
  have f1 : 2000 * K * u * B = 2000 * (K * u * B) := by grind
  have f2 : 100 * u * B = 100 * (u * B) := by grind
  have f3 : 600 * u * B = 600 * (u * B) := by grind
  have f4 : 2000 * (K + 1) * u * B = 2000 * (K * u * B) + 2000 * (u * B) := by grind
  rw [f1] at h
  rw [f3] at h1
  rw [f2] at KuB
  rw [f4]
  have uBs := Rat.mul_le_mul_of_nonneg_right hu hB
  have d : ab (s + o - (S + E)) ≤ 2000 * (K * u * B) + 600 * (u * B) := by
    have a := ab_add (s - S) (o - E)
    rw [show s - S + (o - E) = s + o - (S + E) by grind] at a
    grind
  have z : ab (s + o) ≤ 4 * B := by
    have a := ab_add (s + o - (S + E)) (S + E)
    rw [show s + o - (S + E) + (S + E) = s + o by grind] at a
    grind
  have u3 := Rat.mul_le_mul_of_nonneg_left z hu0
  have f5 : u * (4 * B) = 4 * (u * B) := by grind
  rw [f5] at u3
  have a := ab_tri s' (s + o) (S + E)
  generalize K * u * B = p at *
  generalize u * B = q at *
  grind
theorem yy_small {y : Rat} (h : ab y ≤ 8 / 10) : 0 ≤ y * y ∧ y * y ≤ 8 / 10 * ab y ∧ y * y ≤ 64 / 100 := by
  have e : y * y = ab y * ab y := by
    rcases (show 0 ≤ y ∨ y < 0 by grind) with q | q
    · rw [ab_pos q]
    · have : ab y = -y := by unfold ab; grind
      rw [this]; grind
  rw [e]
  have n := ab_nn y
  generalize ab y = a at *
  have b := mul_nn n n
  have c := Rat.mul_le_mul_of_nonneg_right h n
  refine ⟨b, c, ?_⟩
  grind
theorem PSm_size {y : Rat} (h : ab y ≤ 8 / 10) : ∀ k, ab (PSm y k).re ≤ 2 ∧ ab (PSm y k).im ≤ 2 * ab y
  | 0 => by
    have q : PSm y 0 = 0 := rfl
    have := ab_nn y
    rw [q, Cq.zero_re, Cq.zero_im, show ab (0 : Rat) = 0 by decide +kernel]
    constructor <;> grind
  | 1 => by
    have p0 := PSm_even y (k := 0) rfl
    have s0 : sg4 0 = 1 := rfl
    have q : PSm y 0 = 0 := rfl
    rw [(ee_two' y).1, s0, q, Cq.zero_re, Cq.zero_im, show 0 + 1 = 1 from rfl] at p0
    have := ab_nn y
    rw [p0.1, p0.2, show ab (0 : Rat) = 0 by decide +kernel, show (0 : Rat) + 1 * 1 = 1 by decide +kernel, show ab (1 : Rat) = 1 by decide +kernel]
    constructor <;> grind
  | j + 2 => by
    obtain ⟨a, b⟩ := PSm_near h j
    obtain ⟨y0, y1, y2⟩ := yy_small h
    have n := ab_nn (ee y (j + 2))
    have c := ab_add ((PSm y (j + 2)).re - 1) 1
    have d := ab_add ((PSm y (j + 2)).im - y) y
    rw [show (PSm y (j + 2)).re - 1 + 1 = (PSm y (j + 2)).re by grind, show ab (1 : Rat) = 1 by decide +kernel] at c
    rw [show (PSm y (j + 2)).im - y + y = (PSm y (j + 2)).im by grind] at d
    have := ab_nn y
    constructor <;> grind
theorem cos_next {u y t o c c' : Rat} {k : Nat} (hu0 : 0 ≤ u) (hu : u ≤ 1 / 1000000000000) (hk : k < 100) (hy : ab y ≤ 8 / 10) (he : k % 2 = 0) (ht : TTm u y k t) (h2 : ab (o - sg4 k * t) ≤ u * ab t) (hc : CSm u y k c) (h3 : ab (c' - (c + o)) ≤ u * ab (c + o)) : CSm u y (k + 1) c' := by
  unfold CSm at *
  have o1 := one_near hu0 hu hk ht h2
  have e1 : ab (ee y k) ≤ 1 := by
    rcases (show k = 0 ∨ 1 ≤ k by omega) with q | q
    · rw [q, (ee_two' y).1]; decide +kernel
    · have := ee_small hy k q; grind
  have p := (PSm_even y he).1
  have s := (PSm_size hy (k + 1)).1
  rw [p] at s ⊢
  have uu := Rat.mul_le_mul_of_nonneg_left e1 (show 0 ≤ 600 * u by grind)
  have := sum_next (B := 1) (S := (PSm y k).re) (E := sg4 k * ee y k) hu0 hu hk (by decide +kernel) (by rw [Rat.mul_one]; exact hc) (by rw [Rat.mul_one] at uu ⊢; exact Rat.le_trans o1 uu) (by grind) h3
  rwa [Rat.mul_one] at this
theorem sin_next {u y t o s s' : Rat} {k : Nat} (hu0 : 0 ≤ u) (hu : u ≤ 1 / 1000000000000) (hk : k < 100) (hy : ab y ≤ 8 / 10) (he : k % 2 = 1) (ht : TTm u y k t) (h2 : ab (o - sg4 k * t) ≤ u * ab t) (hs : SSm u y k s) (h3 : ab (s' - (s + o)) ≤ u * ab (s + o)) : SSm u y (k + 1) s' := by
  unfold SSm at *
  have o1 := one_near hu0 hu hk ht h2
  have e1 := ee_small hy k (by omega)
  have p := (PSm_odd y he).1
  have z := (PSm_size hy (k + 1)).2
  rw [p] at z ⊢
  have uu := Rat.mul_le_mul_of_nonneg_left e1 (show 0 ≤ 600 * u by grind)
  have := ab_nn y
  exact sum_next (B := ab y) (S := (PSm y k).im) (E := sg4 k * ee y k) hu0 hu hk this hs (Rat.le_trans o1 uu) (by grind) h3
theorem sums_same {u y c s : Rat} {k : Nat} (hu0 : 0 ≤ u) : (k % 2 = 1 → CSm u y k c → CSm u y (k + 1) c) ∧ (k % 2 = 0 → SSm u y k s → SSm u y (k + 1) s) := by
  unfold CSm SSm
  have q0 : ((k + 1 : Nat) : Rat) = (k : Rat) + 1 := by grind
  have k0 := cast_nn k
  have yn := ab_nn y
  constructor
  · intro h g
    rw [(PSm_odd y h).2, q0]
    generalize (k : Rat) = K at *
    grind
  · intro h g
    rw [(PSm_even y h).2, q0]
    have uy := mul_nn hu0 yn
    generalize (k : Rat) = K at *
    have : 2000 * (K + 1) * u * ab y = 2000 * K * u * ab y + 2000 * (u * ab y) := by grind
    rw [this]
    grind
/-- where both sums lie. -/
theorem sums_range {u y c s : Rat} {k : Nat} (hu0 : 0 ≤ u) (hu : u ≤ 1 / 1000000000000) (hk : k < 100) (hy : ab y ≤ 8 / 10) : (1 ≤ k → CSm u y k c → 1 / 4 ≤ c ∧ c ≤ 2) ∧ (2 ≤ k → SSm u y k s → ab (s - y) ≤ 9 / 10 * ab y) := by
  have k0 := cast_nn k
  have k60 : (k : Rat) ≤ 100 := cast_le.2 (show k ≤ 100 by omega)
  have Ku := Rat.mul_le_mul_of_nonneg_right k60 hu0
  obtain ⟨y0, y1, y2⟩ := yy_small hy
  have yn := ab_nn y
  unfold CSm SSm
  constructor
  · intro h1 h
    have r : ab ((PSm y k).re - 1) ≤ 64 / 100 := by
      rcases (show k = 1 ∨ 2 ≤ k by omega) with q | q
      · have p0 := PSm_even y (k := 0) rfl
        have s0 : sg4 0 = 1 := rfl
        have q' : PSm y 0 = 0 := rfl
        rw [(ee_two' y).1, s0, q', Cq.zero_re, Cq.zero_im, show 0 + 1 = 1 from rfl] at p0
        rw [q, p0.1]; decide +kernel
      · obtain ⟨j, rfl⟩ : ∃ j, k = j + 2 := ⟨k - 2, by omega⟩
        have := (PSm_near hy j).1
        have := ab_nn (ee y (j + 2))
        grind
    have f : 2000 * (k : Rat) * u = 2000 * ((k : Rat) * u) := by grind
    rw [f] at h
    generalize (k : Rat) * u = p at *
    have a := ab_le.1 h
    have b := ab_le.1 r
    constructor <;> grind
  · intro h1 h
    obtain ⟨j, rfl⟩ : ∃ j, k = j + 2 := ⟨k - 2, by omega⟩
    have r := (PSm_near hy j).2
    have := ab_nn (ee y (j + 2))
    have a := ab_tri s (PSm y (j + 2)).im y
    have f : 2000 * ((j + 2 : Nat) : Rat) * u * ab y = 2000 * (((j + 2 : Nat) : Rat) * u * ab y) := by grind
    rw [f] at h
    have KuB := Rat.mul_le_mul_of_nonneg_right Ku yn
    have w := Rat.mul_le_mul_of_nonneg_right hu yn
    generalize ((j + 2 : Nat) : Rat) * u * ab y = p at *
    have g : 100 * u * ab y = 100 * (u * ab y) := by grind
    rw [g] at KuB
    generalize u * ab y = q at *
    grind
theorem ee_69 : 2 * ee (8 / 10 : Rat) 69 ≤ tw 320 := by decide +kernel
/-- THE SERIES' END. -/
theorem turn_end {u y c s : Rat} (hu0 : 0 ≤ u) (hu : u ≤ tw 330) (hy : ab y ≤ 8 / 10) (hc : CSm u y 70 c) (hs : SSm u y 70 s) : ab (c - (CS y).re) ≤ tw 300 ∧ ab (s - (CS y).im) ≤ tw 300 * ab y := by
  have t := cnr_TT_sub (ig y) 69 131
  rw [nr_ig] at t
  have h1 := tail_le' (ab_nn y) (n := 69) (by have : ((69 + 2 : Nat) : Rat) = 71 := rfl
                                              rw [this]; grind) 131
  have e : ee (ab y) 70 = ee (ab y) 69 * ab y / ((69 + 1 : Nat) : Rat) := ee_rat (ab y) 69
  have e0 := ee_mono (ab_nn y) hy 69
  have en := ee_nn (ab_nn y) 69
  have e69 := ee_69
  have yn := ab_nn y
  have n70 : ((69 + 1 : Nat) : Rat) = 70 := rfl
  rw [n70] at e
  have d : 2 * ee (ab y) 70 ≤ tw 320 * ab y := by
    have a := Rat.mul_le_mul_of_nonneg_right (show 2 * ee (ab y) 69 ≤ tw 320 by grind) yn
    have b := mul_nn en yn
    have c : ee (ab y) 69 * ab y / 70 ≤ ee (ab y) 69 * ab y := by rw [div_le (by decide +kernel)]; grind
    rw [e]; grind
  have tot : cnr (CS y - PSm y 70) ≤ tw 320 * ab y := Rat.le_trans t (Rat.le_trans h1 d)
  have tot' : ab ((CS y).re - (PSm y 70).re) + ab ((CS y).im - (PSm y 70).im) ≤ tw 320 * ab y := tot
  have r1 := ab_nn ((CS y).re - (PSm y 70).re)
  have r2 := ab_nn ((CS y).im - (PSm y 70).im)
  unfold CSm at hc
  unfold SSm at hs
  have n : ((70 : Nat) : Rat) = 70 := rfl
  rw [n] at hc hs
  have k : tw 320 + 140000 * tw 330 ≤ tw 300 := by decide +kernel
  have k0 := tw_pos 320
  have k1 := tw_pos 330
  have a1 := ab_tri c (PSm y 70).re (CS y).re
  rw [ab_comm (PSm y 70).re] at a1
  have a2 := ab_tri s (PSm y 70).im (CS y).im
  rw [ab_comm (PSm y 70).im] at a2
  have uy := Rat.mul_le_mul_of_nonneg_right hu yn
  have hs' : ab (s - (PSm y 70).im) ≤ 140000 * (u * ab y) := by
    have e : 2000 * 70 * u * ab y = 140000 * (u * ab y) := by grind
    rw [← e]; exact hs
  clear hs
  have ky : tw 320 * ab y + 140000 * (tw 330 * ab y) ≤ tw 300 * ab y := by
    have h := Rat.mul_le_mul_of_nonneg_right k yn
    rw [Rat.add_mul, Rat.mul_assoc] at h; exact h
  have k3 := Rat.mul_le_mul_of_nonneg_left hy (Rat.le_of_lt k0)
  generalize tw 330 * ab y = z6 at *
  generalize tw 300 * ab y = z7 at *
  generalize u * ab y = z8 at *
  generalize tw 320 * ab y = z1 at *
  generalize ab ((CS y).re - (PSm y 70).re) = z2 at *
  generalize ab ((CS y).im - (PSm y 70).im) = z3 at *
  generalize ab (c - (PSm y 70).re) = z4 at *
  generalize ab (s - (PSm y 70).im) = z5 at *
  generalize tw 300 = w1 at *
  generalize tw 320 = w2 at *
  generalize tw 330 = w3 at *
  constructor <;> grind
end Go.Proofs.YtcfkhhnkboealaaDoor
