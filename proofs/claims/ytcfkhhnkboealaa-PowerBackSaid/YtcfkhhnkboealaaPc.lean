/- There and back by exponential and logarithm: the angle; powers. No text of the program. -/
import Derived.Test.YtcfkhhnkboealaaPb
namespace Go.Proofs.Ytcfkhhnkboealaa
open Go.RowKit
set_option linter.unusedVariables false
set_option linter.unusedSimpArgs false
set_option maxRecDepth 100000
set_option maxHeartbeats 4000000
open Turns Sizes
/-! ### a turn that leaves the line where it is, is small -/
theorem sine_low {z : Rat} (hz : ab z ≤ 79 / 100) : 88 / 100 * ab z ≤ ab (CS z).im + tw 60 ∧ 67 / 100 ≤ (CS z).re := by
  obtain ⟨k1, k2⟩ := CS_steps (y := z) (Rat.le_trans hz (by decide +kernel))
  have w : tw 65 ≤ tw 60 ∧ tw 65 ≤ 1 / 1000 := by decide +kernel
  have s0 : 0 ≤ z * z := sq_nn z
  have s1 : z * z ≤ 6241 / 10000 := by
    have := mul_mono (ab_nn z) hz (ab_nn z) hz
    rw [sq_ab'] at this
    grind
  obtain ⟨⟨a1, a2⟩, b1, b2⟩ := cp_size s0 (Rat.le_trans s1 (by decide +kernel)) 8 (by decide)
  have e1 : cp (z * z) 9 = 1 - z * z / ((2 : Nat) : Rat) * cp (z * z) 8 := rfl
  have e2 : sp (z * z) 9 = 1 - z * z / ((6 : Nat) : Rat) * sp (z * z) 8 := rfl
  have n2 : ((2 : Nat) : Rat) = 2 := rfl
  have n6 : ((6 : Nat) : Rat) = 6 := rfl
  rw [n2] at e1
  rw [n6] at e2
  have m1 := mul_mono s0 s1 a1 a2
  have m2 := mul_mono s0 s1 b1 b2
  have c1 : 687 / 1000 ≤ cp (z * z) 9 := by
    have e : z * z / 2 * cp (z * z) 8 = (z * z * cp (z * z) 8) / 2 := by grind
    rw [e1, e]
    grind
  have c2 : 89 / 100 ≤ sp (z * z) 9 := by
    have e : z * z / 6 * sp (z * z) 8 = (z * z * sp (z * z) 8) / 6 := by grind
    rw [e2, e]
    grind
  clear e1 e2 m1 m2
  generalize cp (z * z) 9 = C at *
  generalize sp (z * z) 9 = S at *
  constructor
  · have e : ab (z * S) = ab z * S := by rw [ab_mul, ab_pos (show 0 ≤ S by grind)]
    have a := ab_sub (CS z).im ((CS z).im - z * S)
    rw [show (CS z).im - ((CS z).im - z * S) = z * S by grind, e] at a
    have m := Rat.mul_le_mul_of_nonneg_left c2 (ab_nn z)
    have := ab_nn z
    grind
  · have := (ab_le.1 k1).1
    grind
theorem step_in {d H k l : Rat} (h0 : 1570 / 1000 ≤ H) (hH : H ≤ 1571 / 1000) (h1 : 0 ≤ d) (h2 : d ≤ 615 / 100) (h3 : -(8 / 10) ≤ d - k * H) (h4 : 1 ≤ l) (h5 : l ≤ k) : ab (d - l * H) ≤ 6 := by
  have a := Rat.mul_le_mul_of_nonneg_right h5 (show 0 ≤ H by grind)
  have b := Rat.mul_le_mul_of_nonneg_right h4 (show 0 ≤ H by grind)
  rw [ab_le]
  constructor <;> grind
theorem back_upto {d : Rat} (h1 : 0 ≤ d) (h2 : d ≤ 615 / 100) : ∀ m : Nat, m ≤ 4 → -(8 / 10) ≤ d - (m : Rat) * hp → BackAt d (m : Int) (tw 100)
  | 0, _, _ => back_mono (back_zero d) (Rat.le_of_lt (tw_pos _))
  | m + 1, hm, hd => by
    obtain ⟨p0, p1, p2⟩ := hp_size
    have w : 0 + tw 102 ≤ tw 100 := by decide +kernel
    have en : ∀ j : Nat, (((j : Int)) : Rat) = (j : Rat) := fun j => Rat.intCast_natCast j
    have e1 : ∀ j : Nat, 1 ≤ j → (1 : Rat) ≤ (j : Rat) := fun j h => by have := cast_le.2 h; exact this
    -- from nought on, by steps of one hundred and second
    have go : ∀ j : Nat, j ≤ m + 1 → BackAt d (j : Int) ((j : Rat) * tw 102) := by
      intro j
      induction j with
      | zero =>
        intro _
        have z := back_zero d
        refine back_mono z ?_
        have e0 : ((0 : Nat) : Rat) = 0 := rfl
        rw [e0, Rat.zero_mul]
        exact Rat.le_refl
      | succ j ih =>
        intro hj
        have b := ih (by omega)
        have s := (back_step (e := (j : Rat) * tw 102) (m := (j : Int)) (m' := ((j + 1 : Nat) : Int)) (b := d) (by omega) (by
          rw [en]
          exact step_in (by exact p2) p1 h1 h2 hd (e1 _ (by omega)) (cast_le.2 hj))).1 b
        refine back_mono s ?_
        rw [cast_succ]
        grind
    refine back_mono (go (m + 1) (Nat.le_refl _)) ?_
    have c := cast_le.2 hm
    have e4 : ((4 : Nat) : Rat) = 4 := rfl
    rw [e4] at c
    have w2 : 4 * tw 102 ≤ tw 100 := by decide +kernel
    have := Rat.mul_le_mul_of_nonneg_right c (Rat.le_of_lt (tw_pos 102))
    exact Rat.le_trans this w2
theorem small_turn0 {d : Rat} (h1 : 0 ≤ d) (h2 : d ≤ 615 / 100) (hs : ab (CS d).im ≤ 1 / 100) (hc : -(1 / 2) ≤ (CS d).re) : 88 / 100 * d ≤ ab (CS d).im + tw 60 := by
  obtain ⟨p0, p1, p2⟩ := hp_size
  have w : tw 100 ≤ 1 / 1000 ∧ tw 60 ≤ 1 / 1000 := by decide +kernel
  have pp : 15707 / 10000 ≤ hp ∧ hp ≤ 15708 / 10000 := by decide +kernel
  have hs' := ab_le.1 hs
  rcases (show d ≤ 785 / 1000 ∨ (785 / 1000 < d ∧ d ≤ 2356 / 1000) ∨ (2356 / 1000 < d ∧ d ≤ 3927 / 1000) ∨ (3927 / 1000 < d ∧ d ≤ 5497 / 1000) ∨ 5497 / 1000 < d by grind) with q | q | q | q | q
  · have := (sine_low (z := d) (by rw [ab_pos h1]; grind)).1
    rwa [ab_pos h1] at this
  · exfalso
    have e1 : (((1 : Nat) : Int) : Rat) = 1 := rfl
    have e1' : ((1 : Nat) : Rat) = 1 := rfl
    have b := back_upto h1 h2 1 (by decide) (by rw [e1']; generalize hp = H at *; grind)
    obtain ⟨b1, b2⟩ := b
    rw [show (rot (((1 : Nat) : Int) % 4) (CS (d - (((1 : Nat) : Int) : Rat) * hp)).re (CS (d - (((1 : Nat) : Int) : Rat) * hp)).im).2 = (CS (d - (((1 : Nat) : Int) : Rat) * hp)).re from rfl, e1] at b2
    have l := (sine_low (z := d - 1 * hp) (by rw [ab_le]; generalize hp = H at *; constructor <;> grind)).2
    have b2' := ab_le.1 b2
    grind
  · exfalso
    have e1 : (((2 : Nat) : Int) : Rat) = 2 := rfl
    have e1' : ((2 : Nat) : Rat) = 2 := rfl
    have b := back_upto h1 h2 2 (by decide) (by rw [e1']; generalize hp = H at *; grind)
    obtain ⟨b1, b2⟩ := b
    rw [show (rot (((2 : Nat) : Int) % 4) (CS (d - (((2 : Nat) : Int) : Rat) * hp)).re (CS (d - (((2 : Nat) : Int) : Rat) * hp)).im).1 = -(CS (d - (((2 : Nat) : Int) : Rat) * hp)).re from rfl, e1] at b1
    have l := (sine_low (z := d - 2 * hp) (by rw [ab_le]; generalize hp = H at *; constructor <;> grind)).2
    have b1' := ab_le.1 b1
    grind
  · exfalso
    have e1 : (((3 : Nat) : Int) : Rat) = 3 := rfl
    have e1' : ((3 : Nat) : Rat) = 3 := rfl
    have b := back_upto h1 h2 3 (by decide) (by rw [e1']; generalize hp = H at *; grind)
    obtain ⟨b1, b2⟩ := b
    rw [show (rot (((3 : Nat) : Int) % 4) (CS (d - (((3 : Nat) : Int) : Rat) * hp)).re (CS (d - (((3 : Nat) : Int) : Rat) * hp)).im).2 = -(CS (d - (((3 : Nat) : Int) : Rat) * hp)).re from rfl, e1] at b2
    have l := (sine_low (z := d - 3 * hp) (by rw [ab_le]; generalize hp = H at *; constructor <;> grind)).2
    have b2' := ab_le.1 b2
    grind
  · exfalso
    have e1 : (((4 : Nat) : Int) : Rat) = 4 := rfl
    have e1' : ((4 : Nat) : Rat) = 4 := rfl
    have b := back_upto h1 h2 4 (by decide) (by rw [e1']; generalize hp = H at *; grind)
    obtain ⟨b1, b2⟩ := b
    rw [show (rot (((4 : Nat) : Int) % 4) (CS (d - (((4 : Nat) : Int) : Rat) * hp)).re (CS (d - (((4 : Nat) : Int) : Rat) * hp)).im).2 = (CS (d - (((4 : Nat) : Int) : Rat) * hp)).im from rfl, e1] at b2
    have l := (sine_low (z := d - 4 * hp) (by rw [ab_le]; generalize hp = H at *; constructor <;> grind)).1
    have zz : 13 / 100 ≤ ab (d - 4 * hp) := by
      have := ab_sub (0 : Rat) (d - 4 * hp)
      have e : ab (d - 4 * hp) = ab (4 * hp - d) := ab_comm _ _
      rw [e, ab_pos (by generalize hp = H at *; grind)]
      generalize hp = H at *
      grind
    have t := ab_sub (CS d).im ((CS d).im - (CS (d - 4 * hp)).im)
    rw [show (CS d).im - ((CS d).im - (CS (d - 4 * hp)).im) = (CS (d - 4 * hp)).im by grind] at t
    rw [ab_comm] at b2
    grind
theorem small_turn {d : Rat} (h : ab d ≤ 615 / 100) (hs : ab (CS d).im ≤ 1 / 100) (hc : -(1 / 2) ≤ (CS d).re) : 88 / 100 * ab d ≤ ab (CS d).im + tw 60 := by
  rcases (show 0 ≤ d ∨ d < 0 by grind) with q | q
  · rw [ab_pos q]
    rw [ab_pos q] at h
    exact small_turn0 q h hs hc
  · have e : ab d = -d := by unfold ab; grind
    rw [e]
    rw [e] at h
    have n := CS_neg d
    have e1 : (CS (-d)).re = (CS d).re := by rw [n]; rfl
    have e2 : (CS (-d)).im = -(CS d).im := by rw [n]; rfl
    have k := small_turn0 (d := -d) (by grind) h (by rw [e2, ab_neg]; exact hs) (by rw [e1]; exact hc)
    rwa [e2, ab_neg] at k
/-! ### sine and cosine of small angles -/
theorem turn_near {g : Nat} {y : Rat} (hg : V g y) (hy : ab y ≤ 4) : ∃ c s, V (turnC g) c ∧ V (turnS g) s ∧ ab (c - (CS y).re) ≤ 61 / 10 * uu ∧ ab (s - (CS y).im) ≤ 61 / 10 * uu := by
  have hfit : fit g = true := by
    show fle (fabs g) 4697254411347427328 = true
    have h20 := vnum (w := 4697254411347427328) (k := 1048576) (by decide) (by decide +kernel)
    rw [fabs_of (fin_notN hg.fin), fle_val hg.absv h20]
    exact decide_eq_true (Rat.le_trans hy (by decide +kernel))
  obtain ⟨n, c, s, a1, a2, a3, a4, vc, vs⟩ := turn_val hg (by grind) hfit
  have hn : n.natAbs ≤ 3 := by
    rcases (show n.natAbs ≤ 3 ∨ 4 ≤ n.natAbs by omega) with q | q
    · exact q
    · exfalso
      obtain ⟨p0, _, p2⟩ := hp_size
      have c := cast_le.2 q
      rw [natAbsQ] at c
      have e : ((4 : Nat) : Rat) = 4 := rfl
      rw [e] at c
      have k := Rat.mul_le_mul_of_nonneg_right c p0
      have a := ab_sub y (y - (n : Rat) * hp)
      rw [show y - (y - (n : Rat) * hp) = (n : Rat) * hp by grind, ab_mul, ab_pos p0] at a
      generalize ab (n : Rat) * hp = z at *
      generalize ab (y - (n : Rat) * hp) = z2 at *
      generalize hp = H at *
      grind
  obtain ⟨b1, b2⟩ := back_three hy hn (Rat.le_trans a1 (by decide +kernel))
  obtain ⟨r1, r2⟩ := rot_near (k := n % 4) a3 a4
  have hw : tw 100 ≤ 1 / 100 * uu ∧ 0 < uu := by decide +kernel
  refine ⟨_, _, vc, vs, ?_, ?_⟩
  · have := ab_tri (rot (n % 4) c s).1 (rot (n % 4) (CS (y - (n : Rat) * hp)).re (CS (y - (n : Rat) * hp)).im).1 (CS y).re
    grind
  · have := ab_tri (rot (n % 4) c s).2 (rot (n % 4) (CS (y - (n : Rat) * hp)).re (CS (y - (n : Rat) * hp)).im).2 (CS y).im
    grind
/-- the turn itself keeps lengths, wherever it is worked out. -/
theorem turn_len {g : Nat} {y : Rat} (hg : V g y) (hfit : fit g = true) (hy : ab y ≤ 1048576) : ∃ c s, V (turnC g) c ∧ V (turnS g) s ∧ ab c ≤ 101 / 100 ∧ ab s ≤ 101 / 100 ∧ ab (c * c + s * s - 1) ≤ 26 * uu := by
  obtain ⟨n, c, s, a1, a2, a3, a4, vc, vs⟩ := turn_val hg hy hfit
  have hu : 0 < uu ∧ uu ≤ 1 / 10000000 := by decide +kernel
  generalize y - (n : Rat) * hp = z at *
  have l := (CS_len (y := z) (Rat.le_trans a1 (by decide +kernel))).1
  have up := unit_parts (b := z) (Rat.le_trans a1 (by decide +kernel))
  have w : tw 440 ≤ 1 / 1000 * uu := by decide +kernel
  generalize (CS z).re = C at *
  generalize (CS z).im = S at *
  have cb : ab c ≤ 101 / 100 := by
    have := ab_add (c - C) C
    rw [show c - C + C = c by grind] at this
    grind
  have sb : ab s ≤ 101 / 100 := by
    have := ab_add (s - S) S
    rw [show s - S + S = s by grind] at this
    grind
  have off : ∀ {p q : Rat}, ab q ≤ 1001 / 1000 → ab (p - q) ≤ 6 * uu → ab (p * p - q * q) ≤ 1202 / 100 * uu + 1 / 10 * uu := by
    intro p q hq h
    have e : p * p - q * q = (p - q) * (2 * q + (p - q)) := by grind
    have b : ab (2 * q) = 2 * ab q := by rw [ab_mul, show ab (2 : Rat) = 2 by decide +kernel]
    have a := ab_add (2 * q) (p - q)
    rw [b] at a
    rw [e, ab_mul]
    have m := mul_mono (ab_nn (p - q)) h (ab_nn (2 * q + (p - q))) (show ab (2 * q + (p - q)) ≤ 2003 / 1000 by grind)
    grind
  have o1 := off up.1 a3
  have o2 := off up.2 a4
  have tot : ab (c * c + s * s - 1) ≤ 26 * uu := by
    clear a1 a2 cb sb up off a3 a4
    generalize c * c = c2 at *
    generalize s * s = s2 at *
    generalize C * C = C2 at *
    generalize S * S = S2 at *
    rw [ab_le] at *
    constructor <;> grind
  have nn : ∀ x : Rat, ab (-x) = ab x := ab_neg
  unfold rot at vc vs
  by_cases k0 : n % 4 = 0
  · rw [if_pos k0] at vc vs
    exact ⟨_, _, vc, vs, cb, sb, tot⟩
  · rw [if_neg k0] at vc vs
    by_cases k1 : n % 4 = 1
    · rw [if_pos k1] at vc vs
      exact ⟨_, _, vc, vs, by rw [nn]; exact sb, cb, by rw [show -s * -s + c * c = c * c + s * s by grind]; exact tot⟩
    · rw [if_neg k1] at vc vs
      by_cases k2 : n % 4 = 2
      · rw [if_pos k2] at vc vs
        exact ⟨_, _, vc, vs, by rw [nn]; exact cb, by rw [nn]; exact sb, by rw [show -c * -c + -s * -s = c * c + s * s by grind]; exact tot⟩
      · rw [if_neg k2] at vc vs
        exact ⟨_, _, vc, vs, sb, by rw [nn]; exact cb, by rw [show s * s + -c * -c = c * c + s * s by grind]; exact tot⟩
end Go.Proofs.Ytcfkhhnkboealaa
