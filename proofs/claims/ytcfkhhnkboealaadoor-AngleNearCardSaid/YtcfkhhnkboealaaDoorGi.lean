/- What the law asks of the tangent; finite ones; where a part is no number. -/
import Derived.Test.YtcfkhhnkboealaaDoorGb
import Derived.Test.YtcfkhhnkboealaaDoorGh
import Derived.Test.YtcfkhhnkboealaaDoorDo
namespace Go.Proofs.YtcfkhhnkboealaaDoor
open Go.RowKit
set_option linter.unusedVariables false
set_option linter.unusedSimpArgs false
set_option maxRecDepth 100000
set_option maxHeartbeats 4000000
open Turns Sizes
theorem div_room {N c X Y : Rat} {B : Rat} (hc : 82 / 100 ≤ c) (hX : X * c = Y * c + N) (hN : ab N ≤ B) : ab (Y - X) ≤ 122 / 100 * B := by
  have e : (Y - X) * c = -N := by grind
  have k : ab (Y - X) * c = ab N := by
    have : ab ((Y - X) * c) = ab (Y - X) * c := by rw [ab_mul, ab_pos (show 0 ≤ c by grind)]
    rw [← this, e, ab_neg]
  have n := ab_nn (Y - X)
  have m := Rat.mul_le_mul_of_nonneg_left hc n
  grind
/-- WHAT THE LAW ASKS OF THE TANGENT. -/
theorem tan_law {s : Bool} {t v y0 sa ca : Rat} {m : Int} (h0 : 0 ≤ t) (h1 : t ≤ 53 / 128) (hv : ab (v - BT t 25) ≤ 41 / 10 * (uu * t) + et)
    (t1 : ab (y0 - (sq s (ab v) - (m : Rat) * hp)) ≤ tw 82) (t2 : ab y0 ≤ 7858 / 10000) (t3 : (m : Rat) = 0 → ab (y0 - sq s (ab v)) ≤ u4 * ab (sq s (ab v))) (t5 : RotOk y0 m sa ca) :
    (8 / 10 ≤ ca ∧ ca ≤ 2) ∧ ∀ q, ab (q - sa / ca) ≤ 3 * u4 * ab (sa / ca) → ab (sq s t - q) * (1 + tw 200) ≤ pw (-((49 : Nat) : Int)) * ab (sq s t) + pw (-1074) := by
  have hu : 0 < uu ∧ uu ≤ 1 / 1000000000 := by decide +kernel
  have he0 := et_pos
  have het := et_uu
  obtain ⟨u0, _, u2⟩ := u4_fine
  have w : tw 390 ≤ 1 / 100000 * uu ∧ tw 300 ≤ 1 / 100000 * uu ∧ tw 200 ≤ 1 / 1000 ∧ tw 61 ≤ 1 / 1000 ∧ 0 ≤ tw 200 ∧ 0 ≤ tw 300 := by decide +kernel
  have u1 : u4 ≤ 1 / 100000 * uu := Rat.le_trans u2 w.1
  have ut := mul_nn (Rat.le_of_lt hu.1) h0
  have ut1 := Rat.mul_le_mul_of_nonneg_left (show t ≤ 1 by grind) (Rat.le_of_lt hu.1)
  have utt := Rat.mul_le_mul_of_nonneg_right hu.2 h0
  obtain ⟨B0, B1⟩ := BT_range h0 (show t ≤ 4144 / 10000 by grind)
  obtain ⟨τ, hτ⟩ : ∃ τ, τ = ab v := ⟨_, rfl⟩
  have τn : 0 ≤ τ := by rw [hτ]; exact ab_nn v
  have hv' : ab (τ - BT t 25) ≤ 41 / 10 * (uu * t) + et := by
    rw [hτ]
    have a := ab_le.1 hv
    rw [ab_le]
    rcases (show 0 ≤ v ∨ v < 0 by grind) with q | q
    · rw [ab_pos q]; exact a
    · have : ab v = -v := by unfold ab; grind
      rw [this]; constructor <;> grind
  rw [← hτ] at t1 t3
  have aT : ab (sq s τ) = τ := by rw [sq_ab, ab_pos τn]
  have τb : τ ≤ t + 42 / 10 * (uu * t) + et := by have := ab_le.1 hv'; grind
  have τ1 : τ ≤ 2 * t + et := by grind
  obtain rfl : m = 0 := law_none (by rw [aT]; grind) t2 t1
  have t3' := t3 rfl
  rw [aT] at t3'
  obtain ⟨c', s', b1, b2, b3, _, b5⟩ := t5
  obtain rfl := b5 rfl
  have b3' : ab (ca - c') ≤ tw 300 := b3
  -- on the right side
  obtain ⟨z, hz⟩ : ∃ z, z = sq s y0 := ⟨_, rfl⟩
  have yz : y0 = sq s z ∧ ab z = ab y0 := by
    rw [hz]
    cases s
    · exact ⟨rfl, rfl⟩
    · refine ⟨?_, ?_⟩
      · show y0 = -(-y0); grind
      · show ab (-y0) = ab y0; rw [ab_neg]
  have zt : ab (z - τ) ≤ u4 * τ := by
    have e : ab (z - τ) = ab (y0 - sq s τ) := by
      rw [hz]
      cases s
      · rfl
      · show ab (-y0 - τ) = ab (y0 - -τ)
        rw [show -y0 - τ = -(y0 - -τ) by grind, ab_neg]
    rw [e]; exact t3'
  have k4 := Rat.mul_le_mul_of_nonneg_right u1 τn
  have k5 : 1 / 100000 * uu * τ ≤ 1 / 10000 * (uu * t) + 1 / 10000 * et := by
    have a := Rat.mul_le_mul_of_nonneg_left τ1 (show 0 ≤ 1 / 100000 * uu by grind)
    have b := Rat.mul_le_mul_of_nonneg_right hu.2 (Rat.le_of_lt he0)
    have e : 1 / 100000 * uu * (2 * t + et) = 2 / 100000 * (uu * t) + 1 / 100000 * (uu * et) := by grind
    rw [e] at a
    generalize uu * et = y1 at *
    generalize uu * t = y2 at *
    generalize 1 / 100000 * uu * τ = y3 at *
    grind
  have zB : ab (z - BT t 25) ≤ 411 / 100 * (uu * t) + 1001 / 1000 * et := by
    have x := ab_tri z τ (BT t 25)
    generalize uu * t = y2 at *
    generalize 1 / 100000 * uu * τ = y3 at *
    generalize u4 * τ = y4 at *
    clear t1 t2 t3 b1 b2 b3 hv hτ hz
    grind
  have zb : ab z ≤ 42 / 100 := by
    have x := ab_add (z - BT t 25) (BT t 25)
    rw [show z - BT t 25 + BT t 25 = z by grind, ab_pos (show 0 ≤ BT t 25 by grind)] at x
    grind
  have tc := tan_core h0 h1 zB
  have cc := CS_cos (y := z) (by grind)
  have zz : z * z ≤ 1764 / 10000 := by
    have e1 : z * z = ab z * ab z := by
      rcases (show 0 ≤ z ∨ z < 0 by grind) with k | k
      · rw [ab_pos k]
      · have : ab z = -z := by unfold ab; grind
        rw [this]; grind
    rw [e1]
    have := mul_mono (ab_nn z) zb (ab_nn z) zb
    grind
  -- the law's parts
  have par : (CS y0).re = (CS z).re ∧ (CS y0).im = sq s (CS z).im := by
    rw [yz.1]
    cases s
    · exact ⟨rfl, rfl⟩
    · show (CS (-z)).re = _ ∧ (CS (-z)).im = -(CS z).im
      rw [CS_neg]; exact ⟨rfl, rfl⟩
  rw [par.1] at b1
  rw [par.2, ← yz.2] at b2
  have zn := ab_nn z
  have b2' : ab (sa - sq s (CS z).im) ≤ 1 / 1000 * (uu * t) + 1 / 1000 * et := by
    have x := ab_add (z - τ) τ
    rw [show z - τ + τ = z by grind, ab_pos τn] at x
    have y := Rat.mul_le_mul_of_nonneg_right w.2.1 zn
    have z3 : ab z ≤ 3 * t + 2 * et := by
      generalize 1 / 100000 * uu * τ = y3 at *
      generalize u4 * τ = y4 at *
      grind
    have a := Rat.mul_le_mul_of_nonneg_left z3 (show 0 ≤ 1 / 100000 * uu by grind)
    have b := Rat.mul_le_mul_of_nonneg_right hu.2 (Rat.le_of_lt he0)
    have e : 1 / 100000 * uu * (3 * t + 2 * et) = 3 / 100000 * (uu * t) + 2 / 100000 * (uu * et) := by grind
    rw [e] at a
    generalize uu * et = y1 at *
    generalize uu * t = y2 at *
    generalize 1 / 100000 * uu * ab z = y5 at *
    generalize tw 300 * ab z = y6 at *
    clear zz cc tc zB x
    grind
  have cab : ab (ca - (CS z).re) ≤ 1 / 10000 * uu := by
    have x := ab_tri ca c' (CS z).re
    grind
  have car : 82 / 100 ≤ ca ∧ ca ≤ 2 := by
    have a := ab_le.1 cab
    have b := ab_le.1 cc
    clear tc b1 b2 b2'
    constructor <;> grind
  refine ⟨⟨by grind, car.2⟩, fun q hq => ?_⟩
  generalize (CS z).im = S at *
  generalize (CS z).re = C at *
  have tC : ab (t * (ca - C)) ≤ 1 / 10000 * (uu * t) := by
    rw [ab_mul, ab_pos h0]
    have := Rat.mul_le_mul_of_nonneg_left cab h0
    grind
  have N1 : ab (sa - sq s t * ca) ≤ 491 / 100 * (uu * t) + 12 / 10 * et := by
    have e : sa - sq s t * ca = (sa - sq s S) + sq s (S - t * C) - sq s (t * (ca - C)) := by
      cases s
      · show sa - t * ca = sa - S + (S - t * C) - t * (ca - C); grind
      · show sa - -t * ca = sa - -S + -(S - t * C) - -(t * (ca - C)); grind
    rw [e]
    have a1 := ab_sub ((sa - sq s S) + sq s (S - t * C)) (sq s (t * (ca - C)))
    have a2 := ab_add (sa - sq s S) (sq s (S - t * C))
    rw [sq_ab] at a1 a2
    clear e zB zt k4 k5 t3' τ1 τb cc
    generalize ab (sq s (S - t * C)) = y1 at *
    generalize ab (sa - sq s S) = y2 at *
    generalize ab (t * (ca - C)) = y3 at *
    generalize ab (S - t * C) = y4 at *
    generalize uu * t = y5 at *
    grind
  have X1 : sa / ca * ca = sq s t * ca + (sa - sq s t * ca) := by
    rw [div_self_mul _ (show ca ≠ 0 by grind)]; grind
  have D := div_room (Y := sq s t) car.1 X1 N1
  have aY : ab (sq s t) = t := by rw [sq_ab, ab_pos h0]
  have Xb : ab (sa / ca) ≤ 2 * t + 2 * et := by
    have x := ab_sub (sq s t) (sq s t - sa / ca)
    rw [show sq s t - (sq s t - sa / ca) = sa / ca by grind, aY] at x
    grind
  generalize sa / ca = X at *
  have k6 := Rat.mul_le_mul_of_nonneg_left Xb (show 0 ≤ 3 * u4 by grind)
  have k7 := Rat.mul_le_mul_of_nonneg_right (show 3 * u4 ≤ 3 / 100000 * uu by grind) (show 0 ≤ 2 * t + 2 * et by grind)
  have ue := Rat.mul_le_mul_of_nonneg_right hu.2 (Rat.le_of_lt he0)
  have e7 : 3 / 100000 * uu * (2 * t + 2 * et) = 6 / 100000 * (uu * t) + 6 / 100000 * (uu * et) := by grind
  rw [e7] at k7
  have E : ab (sq s t - q) ≤ 61 / 10 * (uu * t) + 15 / 10 * et := by
    have x := ab_tri (sq s t) X q
    rw [ab_comm X q] at x
    clear zB zt k4 k5 t3' τ1 τb cc N1 tC e7 X1 tc b2'
    generalize uu * et = y1 at *
    generalize uu * t = y2 at *
    grind
  have L := Rat.mul_le_mul_of_nonneg_right E (show 0 ≤ 1 + tw 200 by grind)
  have e49 : pw (-((49 : Nat) : Int)) = 16 * uu := by decide +kernel
  have e74 : pw (-1074) = 2 * et := by decide +kernel
  rw [e49, e74, aY]
  have g1 := Rat.mul_le_mul_of_nonneg_left w.2.2.1 ut
  have g2 := Rat.mul_le_mul_of_nonneg_left w.2.2.1 (Rat.le_of_lt he0)
  have f1 : (61 / 10 * (uu * t) + 15 / 10 * et) * (1 + tw 200) = 61 / 10 * (uu * t) + 15 / 10 * et + 61 / 10 * (uu * t * tw 200) + 15 / 10 * (et * tw 200) := by grind
  rw [f1] at L
  have f2 : 16 * uu * t = 16 * (uu * t) := by grind
  rw [f2]
  clear f1 f2 E D X1 N1 tC e7 k6 k7 zB zt k4 k5 t3' τ1 τb cc tc b2' e49 e74
  generalize uu * t * tw 200 = y1 at *
  generalize et * tw 200 = y2 at *
  generalize uu * t = y3 at *
  generalize ab (sq s t - q) * (1 + tw 200) = y4 at *
  grind
theorem sub_self_fin {f : Nat} (hn : isN f = false) (hl : f < 18446744073709551616) : feq (fsub f f) 0 = fin f := by
  cases hf : fin f
  · have h := rung_le_inf hn
    have h2 : rung f = 9218868437227405312 := by
      unfold Proofs.YtcfkhhnkboealaaDoor.fin at hf
      have := of_decide_eq_false hf
      omega
    have e := (num_wd hl)
    rw [h2] at e
    rw [e]
    cases sgn f <;> decide +kernel
  · have s := fsub_fin hf hf hl
    have v := (V.of hl hf).sub (V.of hl hf) (by rw [show qv f - qv f = 0 by grind, show ab (0 : Rat) = 0 by decide +kernel]; exact Rat.le_trans (by decide +kernel) BG_big)
    obtain ⟨c, hc, r⟩ := v
    rw [feq_zero (fin_notN hc.fin)]
    refine decide_eq_true ?_
    rw [s, Int.sub_self]
    rw [wd_rung (rndN_le _)]
    decide +kernel
theorem finite05_c {f : Nat} (hx : Rep f f) (hn : isN f = false) (w : World) : Calls Tryd.prog 47 #[.float .f64 f] w (RetB (fin f) w) := by
  have h := sub_self_fin hn hx.lt
  have hs := fun W => (hx.sub hx (w := W)).eq' Rep.c0
  rw [h] at hs
  go_enter Tryd.func47, Tryd.ntmps47
  go_wp2_with (first | (simp only [hs]) | fail)
  go_ret
  exact ⟨_, rfl, rfl⟩
end Go.Proofs.YtcfkhhnkboealaaDoor
