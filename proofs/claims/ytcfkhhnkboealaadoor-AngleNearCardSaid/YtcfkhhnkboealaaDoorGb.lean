/- The law's question of an angle: a contract. -/
import Derived.Test.YtcfkhhnkboealaaDoorGa
namespace Go.Proofs.YtcfkhhnkboealaaDoor
open Go.RowKit
set_option linter.unusedVariables false
set_option linter.unusedSimpArgs false
set_option maxRecDepth 100000
set_option maxHeartbeats 4000000
open Turns Sizes
theorem part_near {u e X s S x : Rat} (u0 : 0 ≤ u) (hs : ab s ≤ 3) (h : ab (s - S) ≤ e) (hX : ab (X - s * x) ≤ u * ab (s * x)) : ab (X - S * x) ≤ (3 * u + e) * ab x := by
  have a := ab_tri X (s * x) (S * x)
  rw [show s * x - S * x = (s - S) * x by grind, ab_mul (s - S)] at a
  rw [ab_mul s] at hX
  have k1 := Rat.mul_le_mul_of_nonneg_right hs (ab_nn x)
  have k2 := Rat.mul_le_mul_of_nonneg_left k1 u0
  have k3 := Rat.mul_le_mul_of_nonneg_right h (ab_nn x)
  have e1 : (3 * u + e) * ab x = u * (3 * ab x) + e * ab x := by grind
  rw [e1]
  generalize ab (s - S) * ab x = z1 at *
  generalize e * ab x = z2 at *
  generalize u * (ab s * ab x) = z3 at *
  generalize u * (3 * ab x) = z4 at *
  grind
theorem sum_near {u w X1 X2 Y1 Y2 K x y : Rat} (u0 : 0 ≤ u) (u1 : u ≤ 1 / 1000000) (w1 : w ≤ 1 / 1000000) (w0 : 0 ≤ w) (uw : 8 * u ≤ w) (hx : 0 ≤ x) (hy : 0 ≤ y) (h1 : ab (X1 - Y1) ≤ w * x) (h2 : ab (X2 - Y2) ≤ w * y) (b1 : ab Y1 ≤ 3 * x) (b2 : ab Y2 ≤ 3 * y) (hK : ab (K - (X1 + X2)) ≤ u * ab (X1 + X2)) : ab (K - (Y1 + Y2)) ≤ 2 * w * (x + y) := by
  have wx := Rat.mul_le_mul_of_nonneg_right w1 hx
  have wy := Rat.mul_le_mul_of_nonneg_right w1 hy
  have a1 : ab X1 ≤ 4 * x := by
    have := ab_add (X1 - Y1) Y1
    rw [show X1 - Y1 + Y1 = X1 by grind] at this
    grind
  have a2 : ab X2 ≤ 4 * y := by
    have := ab_add (X2 - Y2) Y2
    rw [show X2 - Y2 + Y2 = X2 by grind] at this
    grind
  have a3 := ab_add X1 X2
  have k := Rat.mul_le_mul_of_nonneg_left (show ab (X1 + X2) ≤ 4 * (x + y) by grind) u0
  have k2 := Rat.mul_le_mul_of_nonneg_right uw (show 0 ≤ x + y by grind)
  have t1 := ab_add (X1 - Y1) (X2 - Y2)
  have t2 := ab_add (K - (X1 + X2)) (X1 - Y1 + (X2 - Y2))
  rw [show K - (X1 + X2) + (X1 - Y1 + (X2 - Y2)) = K - (Y1 + Y2) by grind] at t2
  have e1 : 2 * w * (x + y) = 2 * (w * x) + 2 * (w * y) := by grind
  have e2 : u * (4 * (x + y)) = 4 * (u * x) + 4 * (u * y) := by grind
  have e3 : 8 * u * (x + y) = 8 * (u * x) + 8 * (u * y) := by grind
  have e4 : w * (x + y) = w * x + w * y := by grind
  have n1 := mul_nn w0 hx
  have n2 := mul_nn w0 hy
  rw [e1]
  rw [e2] at k
  rw [e3, e4] at k2
  clear e1 e2 e3 e4
  generalize u * ab (X1 + X2) = z1 at *
  generalize u * x = z2 at *
  generalize u * y = z3 at *
  generalize w * x = z4 at *
  generalize w * y = z5 at *
  grind
theorem ang_room {C S c s x y X1 X2 X3 X4 K D P B K2 Q : Rat} (hC : ab C ≤ 21 / 10) (hS : ab S ≤ 21 / 10) (hc : ab (c - C) ≤ tw 78) (hs : ab (s - S) ≤ tw 78)
    (h1 : ab (X1 - s * x) ≤ u4 * ab (s * x)) (h2 : ab (X2 - c * y) ≤ u4 * ab (c * y)) (hK : ab (K - (X1 - X2)) ≤ u4 * ab (X1 - X2))
    (h3 : ab (X3 - c * x) ≤ u4 * ab (c * x)) (h4 : ab (X4 - s * y) ≤ u4 * ab (s * y)) (hD : ab (D - (X3 + X4)) ≤ u4 * ab (X3 + X4))
    (hQ : 0 < Q) (hQ1 : Q ≤ 1) (hP : ab (P - 1 * Q) ≤ u4 * ab (1 * Q)) (hB : ab (B - D * P) ≤ u4 * ab (D * P)) (hK2 : ab (K2 - ab K) ≤ u4 * ab (ab K))
    (hL : 0 < ab x + ab y) (hR : 1 / 2 * (ab x + ab y) ≤ C * x + S * y) (hI : ab (S * x - C * y) + tw 65 * (ab x + ab y) ≤ Q * (C * x + S * y)) : 0 < D ∧ K2 ≤ B := by
  obtain ⟨u0, u1', u2⟩ := u4_fine
  have w : 3 * tw 390 + tw 78 ≤ tw 77 ∧ 8 * tw 390 ≤ tw 77 ∧ tw 77 ≤ 1 / 1000000 ∧ 2 * tw 77 = tw 76 ∧ tw 78 ≤ 1 / 10 ∧ 100 * tw 390 ≤ tw 76 ∧ 8 * tw 76 ≤ tw 65 ∧ tw 76 ≤ 1 / 1000000 ∧ tw 390 ≤ 1 / 1000000 := by decide +kernel
  have u1 : u4 ≤ 1 / 1000000 := Rat.le_trans u2 w.2.2.2.2.2.2.2.2
  have cb : ab c ≤ 3 := by
    have := ab_add (c - C) C
    rw [show c - C + C = c by grind] at this
    grind
  have sb : ab s ≤ 3 := by
    have := ab_add (s - S) S
    rw [show s - S + S = s by grind] at this
    grind
  have xn := ab_nn x
  have yn := ab_nn y
  have k77 : ∀ {z : Rat}, 0 ≤ z → (3 * u4 + tw 78) * z ≤ tw 77 * z := fun hz => Rat.mul_le_mul_of_nonneg_right (by grind) hz
  have p1 := Rat.le_trans (part_near u0 sb hs h1) (k77 xn)
  have p2 := Rat.le_trans (part_near u0 cb hc h2) (k77 yn)
  have p3 := Rat.le_trans (part_near u0 cb hc h3) (k77 xn)
  have p4 := Rat.le_trans (part_near u0 sb hs h4) (k77 yn)
  have bd : ∀ {A z : Rat}, ab A ≤ 21 / 10 → ab (A * z) ≤ 3 * ab z := by
    intro A z h
    rw [ab_mul]
    have := Rat.mul_le_mul_of_nonneg_right h (ab_nn z)
    have := ab_nn z
    grind
  have w0 := Rat.le_of_lt (tw_pos 77)
  have uw : 8 * u4 ≤ tw 77 := by grind
  have kk := sum_near (X2 := -X2) (Y2 := -(C * y)) u0 u1 w.2.2.1 w0 uw xn yn p1 (by rw [show -X2 - -(C * y) = -(X2 - C * y) by grind, ab_neg]; exact p2) (bd hS) (by rw [ab_neg]; exact bd hC) (by rw [show X1 + -X2 = X1 - X2 by grind]; exact hK)
  have dd := sum_near u0 u1 w.2.2.1 w0 uw xn yn p3 p4 (bd hC) (bd hS) hD
  rw [w.2.2.2.1] at kk dd
  rw [show S * x + -(C * y) = S * x - C * y by grind] at kk
  have Rb : C * x + S * y ≤ 3 * (ab x + ab y) := by
    have := (ab_of (C * x)).2
    have := (ab_of (S * y)).2
    have := bd (z := x) hC
    have := bd (z := y) hS
    grind
  clear p1 p2 p3 p4 h1 h2 h3 h4 hK hD hC hS hc hs cb sb bd k77
  generalize C * x + S * y = R at *
  generalize S * x - C * y = I at *
  generalize ab x + ab y = L at *
  have tL := Rat.mul_le_mul_of_nonneg_right w.2.2.2.2.2.2.2.1 (Rat.le_of_lt hL)
  have d' := ab_le.1 dd
  have D0 : 0 < D := by grind
  refine ⟨D0, ?_⟩
  -- the bound from below
  rw [Rat.one_mul, ab_pos (Rat.le_of_lt hQ)] at hP
  have P' := ab_le.1 hP
  have uQ := mul_nn u0 (Rat.le_of_lt hQ)
  have uQ1 := Rat.mul_le_mul_of_nonneg_right u1 (Rat.le_of_lt hQ)
  have P0 : 0 ≤ P := by grind
  have DP := mul_nn (Rat.le_of_lt D0) P0
  rw [ab_pos DP] at hB
  have B' := (ab_le.1 hB).1
  have DP1 := Rat.mul_le_mul_of_nonneg_left (show Q - u4 * Q ≤ P by grind) (Rat.le_of_lt D0)
  have DP2 := Rat.mul_le_mul_of_nonneg_left (show P ≤ 2 by grind) (Rat.le_of_lt D0)
  have Db : D ≤ 4 * L := by grind
  have DQ := Rat.mul_le_mul_of_nonneg_left hQ1 (Rat.le_of_lt D0)
  have uD := Rat.mul_le_mul_of_nonneg_left Db u0
  have uDP := Rat.mul_le_mul_of_nonneg_left DP2 u0
  have uDQ := Rat.mul_le_mul_of_nonneg_left DQ u0
  have QD : Q * R - tw 76 * L ≤ D * Q := by
    have a := Rat.mul_le_mul_of_nonneg_left (show R - tw 76 * L ≤ D by grind) (Rat.le_of_lt hQ)
    have tl := mul_nn (Rat.le_of_lt (tw_pos 76)) (Rat.le_of_lt hL)
    have b := Rat.mul_le_mul_of_nonneg_right hQ1 tl
    have e : Q * (R - tw 76 * L) = Q * R - Q * (tw 76 * L) := by grind
    rw [e] at a
    grind
  have uL := Rat.mul_le_mul_of_nonneg_right (show 100 * u4 ≤ tw 76 by grind) (Rat.le_of_lt hL)
  have e1 : D * (Q - u4 * Q) = D * Q - u4 * (D * Q) := by grind
  have e2 : u4 * (D * 2) = 2 * (u4 * D) := by grind
  have e3 : u4 * (D * 1) = u4 * D := by grind
  have e4 : u4 * (4 * L) = 4 * (u4 * L) := by grind
  have e5 : 100 * u4 * L = 100 * (u4 * L) := by grind
  rw [e1] at DP1
  rw [e2] at uDP
  rw [e3] at uDQ
  rw [e4] at uD
  rw [e5] at uL
  -- the cross from above
  have Kn := ab_nn K
  rw [ab_pos Kn] at hK2
  have K' := (ab_le.1 hK2).2
  have Kb : ab K ≤ ab I + tw 76 * L := by
    have := ab_add (K - I) I
    rw [show K - I + I = K by grind] at this
    grind
  have QR := Rat.mul_le_mul_of_nonneg_right hQ1 (show 0 ≤ R by grind)
  have tl0 := mul_nn (Rat.le_of_lt (tw_pos 65)) (Rat.le_of_lt hL)
  have Kb2 : ab K ≤ 4 * L := by grind
  have uK := Rat.mul_le_mul_of_nonneg_left Kb2 u0
  rw [e4] at uK
  have t65 := Rat.mul_le_mul_of_nonneg_right w.2.2.2.2.2.2.1 (Rat.le_of_lt hL)
  have e6 : 8 * tw 76 * L = 8 * (tw 76 * L) := by grind
  rw [e6] at t65
  clear e1 e2 e3 e4 e5 e6 hP hB hK2 dd kk P' uQ uQ1 DP DP2 DQ QR tL Db Kn
  generalize tw 76 * L = t76 at *
  generalize tw 65 * L = t65' at *
  generalize u4 * L = z1 at *
  generalize u4 * D = z2 at *
  generalize u4 * (D * Q) = z3 at *
  generalize u4 * (D * P) = z4 at *
  generalize u4 * ab K = z5 at *
  generalize D * Q = z6 at *
  generalize D * P = z7 at *
  generalize Q * R = z8 at *
  grind
/-- answers true where the place turned back lies beside the line. -/
def RetAng (b y x : Rat) (p : Nat) (w : World) (e : Ending) (w' : World) : Prop := ∃ ok, e = .returned (.bool ok) ∧ (0 < ab x + ab y → 1 / 2 * (ab x + ab y) ≤ (CS b).re * x + (CS b).im * y → ab ((CS b).im * x - (CS b).re * y) + tw 65 * (ab x + ab y) ≤ pw (-(p : Int)) * ((CS b).re * x + (CS b).im * y) → ok = true) ∧ Grown w w'
theorem angles05_c {f fy fx p : Nat} {b y x : Rat} {w : World} (hT : TB w) (hf : V f b) (hb : ab b ≤ 4) (hy : V fy y) (hx : V fx x) (hp : p ≤ 60) :
    Calls Tryd.prog 48 #[.float .f64 f, .float .f64 fy, .float .f64 fx, .int .i64 (p : Int)] w (RetAng b y x p w) := by
  have HT := Lib.hid hT
  have HF := Lib.hid hf
  have HB := Lib.hid hb
  have HY := Lib.hid hy
  have HX := Lib.hid hx
  have HG := Lib.hid (Grown.refl w)
  have h11 : (((1 : Int)) : Rat) = 1 := rfl
  have HCA := Lib.hid h11
  have hwp : IntKind.i64.wrap (-(p : Int)) = -(p : Int) := IntWalk.i64_in _ ⟨by omega, by omega⟩
  have HBB : RowKit.Hid (ab b ≤ 1048576) := Lib.hid (Rat.le_trans hb (by decide +kernel))
  clear hT hb hy hx h11
  obtain ⟨wa, hwa⟩ : ∃ wa, wa = w := ⟨_, rfl⟩
  subst hwa
  go_enter Tryd.func48, Tryd.ntmps48
  go_upto_region 2 with (first
    | (go_at_call 33; go_loud ((with_reducible refine (turn05_c HT.out HF.out HBB.out).mono ?_); rintro e1 wa ⟨m0, y0, t1, t2, t3, t4, gs, gc, sa, ca, rfl, h1, h3, h2, z1, z2, t5⟩; have HG := Lib.hid (gr_trans HG.out h2); have HT := Lib.hid (HT.out.grown h2); (try have HS := Lib.hid (HS.out.grown h2)); (try have HC := Lib.hid (HC.out.grown h2)); (try have HXR := Lib.hid (HXR.out.grown h2)); (try have HYR := Lib.hid (HYR.out.grown h2)); (try have HM1 := Lib.hid (HM1.out.grown h2)); (try have HM2 := Lib.hid (HM2.out.grown h2)); (try have HM3 := Lib.hid (HM3.out.grown h2)); (try have HM4 := Lib.hid (HM4.out.grown h2)); (try have HKK := Lib.hid (HKK.out.grown h2)); (try have HDD := Lib.hid (HDD.out.grown h2)); have HS := Lib.hid h1; have HC := Lib.hid h3; have Z1 := Lib.hid z1; have Z2 := Lib.hid z2; have HTN := Lib.hid (turn_true HB.out t1 t2 t5); clear h1 h2 h3 z1 z2 t1 t2 t3 t4 t5))
    | fail)
  go_upto_region 3 with (first
    | (go_at_call 39; go_loud (first
        | ((with_reducible refine (real05_c HT.out HX.out.lt HX.out.fin).mono ?_); rintro e1 wa ⟨gx, rfl, h1, h2, h3⟩; rw [HX.out.val] at h1; have HG := Lib.hid (gr_trans HG.out h2); have HT := Lib.hid (HT.out.grown h2); (try have HS := Lib.hid (HS.out.grown h2)); (try have HC := Lib.hid (HC.out.grown h2)); (try have HXR := Lib.hid (HXR.out.grown h2)); (try have HYR := Lib.hid (HYR.out.grown h2)); (try have HM1 := Lib.hid (HM1.out.grown h2)); (try have HM2 := Lib.hid (HM2.out.grown h2)); (try have HM3 := Lib.hid (HM3.out.grown h2)); (try have HM4 := Lib.hid (HM4.out.grown h2)); (try have HKK := Lib.hid (HKK.out.grown h2)); (try have HDD := Lib.hid (HDD.out.grown h2)); have HXR := Lib.hid h1; clear h1 h2 h3)
        | ((with_reducible refine (real05_c HT.out HY.out.lt HY.out.fin).mono ?_); rintro e1 wa ⟨gy, rfl, h1, h2, h3⟩; rw [HY.out.val] at h1; have HG := Lib.hid (gr_trans HG.out h2); have HT := Lib.hid (HT.out.grown h2); (try have HS := Lib.hid (HS.out.grown h2)); (try have HC := Lib.hid (HC.out.grown h2)); (try have HXR := Lib.hid (HXR.out.grown h2)); (try have HYR := Lib.hid (HYR.out.grown h2)); (try have HM1 := Lib.hid (HM1.out.grown h2)); (try have HM2 := Lib.hid (HM2.out.grown h2)); (try have HM3 := Lib.hid (HM3.out.grown h2)); (try have HM4 := Lib.hid (HM4.out.grown h2)); (try have HKK := Lib.hid (HKK.out.grown h2)); (try have HDD := Lib.hid (HDD.out.grown h2)); have HYR := Lib.hid h1; clear h1 h2 h3)))
    | (go_at_call 42; go_loud (first
        | ((with_reducible refine (mul05_c HT.out HC.out HYR.out Z2.out HY.out.sz (by decide)).mono ?_); rintro e1 wa ⟨X2, hX2, g2, rfl, h1, h2, h3⟩; have E2 := Lib.hid hX2; have HG := Lib.hid (gr_trans HG.out h2); have HT := Lib.hid (HT.out.grown h2); (try have HS := Lib.hid (HS.out.grown h2)); (try have HC := Lib.hid (HC.out.grown h2)); (try have HXR := Lib.hid (HXR.out.grown h2)); (try have HYR := Lib.hid (HYR.out.grown h2)); (try have HM1 := Lib.hid (HM1.out.grown h2)); (try have HM2 := Lib.hid (HM2.out.grown h2)); (try have HM3 := Lib.hid (HM3.out.grown h2)); (try have HM4 := Lib.hid (HM4.out.grown h2)); (try have HKK := Lib.hid (HKK.out.grown h2)); (try have HDD := Lib.hid (HDD.out.grown h2)); have HM2 := Lib.hid h1; clear hX2 h1 h2 h3)
        | ((with_reducible refine (mul05_c HT.out HS.out HXR.out Z1.out HX.out.sz (by decide)).mono ?_); rintro e1 wa ⟨X1, hX1, g1, rfl, h1, h2, h3⟩; have E1 := Lib.hid hX1; have HG := Lib.hid (gr_trans HG.out h2); have HT := Lib.hid (HT.out.grown h2); (try have HS := Lib.hid (HS.out.grown h2)); (try have HC := Lib.hid (HC.out.grown h2)); (try have HXR := Lib.hid (HXR.out.grown h2)); (try have HYR := Lib.hid (HYR.out.grown h2)); (try have HM1 := Lib.hid (HM1.out.grown h2)); (try have HM2 := Lib.hid (HM2.out.grown h2)); (try have HM3 := Lib.hid (HM3.out.grown h2)); (try have HM4 := Lib.hid (HM4.out.grown h2)); (try have HKK := Lib.hid (HKK.out.grown h2)); (try have HDD := Lib.hid (HDD.out.grown h2)); have HM1 := Lib.hid h1; clear hX1 h1 h2 h3)))
    | (go_at_call 38; go_loud ((with_reducible refine (sub05_c HT.out HM1.out HM2.out ((Z1.out.mul HX.out.sz).near E1.out u4_small) ((Z2.out.mul HY.out.sz).near E2.out u4_small) (by decide)).mono ?_); rintro e1 wa ⟨K, hK, gk, rfl, h1, h2, h3⟩; have EK := Lib.hid hK; have ZK := Lib.hid ((diff_sz HM1.out HM2.out (((Z1.out.mul HX.out.sz).near E1.out u4_small).mono (by decide)) (((Z2.out.mul HY.out.sz).near E2.out u4_small).mono (by decide))).1.near hK u4_small); have HGE := Lib.hid (Nat.le_trans HG.out.2.2 h3); have HG := Lib.hid (gr_trans HG.out h2); have HT := Lib.hid (HT.out.grown h2); (try have HS := Lib.hid (HS.out.grown h2)); (try have HC := Lib.hid (HC.out.grown h2)); (try have HXR := Lib.hid (HXR.out.grown h2)); (try have HYR := Lib.hid (HYR.out.grown h2)); (try have HM1 := Lib.hid (HM1.out.grown h2)); (try have HM2 := Lib.hid (HM2.out.grown h2)); (try have HM3 := Lib.hid (HM3.out.grown h2)); (try have HM4 := Lib.hid (HM4.out.grown h2)); (try have HKK := Lib.hid (HKK.out.grown h2)); (try have HDD := Lib.hid (HDD.out.grown h2)); have HKK := Lib.hid h1; clear hK h1 h2 h3))
    | fail)
  clear HXR HYR HM1 HM2
  go_upto_region 4 with (first
    | (go_at_call 39; go_loud (first
        | ((with_reducible refine (real05_c HT.out HX.out.lt HX.out.fin).mono ?_); rintro e1 wa ⟨gx, rfl, h1, h2, h3⟩; rw [HX.out.val] at h1; have HG := Lib.hid (gr_trans HG.out h2); have HT := Lib.hid (HT.out.grown h2); (try have HS := Lib.hid (HS.out.grown h2)); (try have HC := Lib.hid (HC.out.grown h2)); (try have HXR := Lib.hid (HXR.out.grown h2)); (try have HYR := Lib.hid (HYR.out.grown h2)); (try have HM1 := Lib.hid (HM1.out.grown h2)); (try have HM2 := Lib.hid (HM2.out.grown h2)); (try have HM3 := Lib.hid (HM3.out.grown h2)); (try have HM4 := Lib.hid (HM4.out.grown h2)); (try have HKK := Lib.hid (HKK.out.grown h2)); (try have HDD := Lib.hid (HDD.out.grown h2)); have HXR := Lib.hid h1; clear h1 h2 h3)
        | ((with_reducible refine (real05_c HT.out HY.out.lt HY.out.fin).mono ?_); rintro e1 wa ⟨gy, rfl, h1, h2, h3⟩; rw [HY.out.val] at h1; have HG := Lib.hid (gr_trans HG.out h2); have HT := Lib.hid (HT.out.grown h2); (try have HS := Lib.hid (HS.out.grown h2)); (try have HC := Lib.hid (HC.out.grown h2)); (try have HXR := Lib.hid (HXR.out.grown h2)); (try have HYR := Lib.hid (HYR.out.grown h2)); (try have HM1 := Lib.hid (HM1.out.grown h2)); (try have HM2 := Lib.hid (HM2.out.grown h2)); (try have HM3 := Lib.hid (HM3.out.grown h2)); (try have HM4 := Lib.hid (HM4.out.grown h2)); (try have HKK := Lib.hid (HKK.out.grown h2)); (try have HDD := Lib.hid (HDD.out.grown h2)); have HYR := Lib.hid h1; clear h1 h2 h3)))
    | (go_at_call 42; go_loud (first
        | ((with_reducible refine (mul05_c HT.out HS.out HYR.out Z1.out HY.out.sz (by decide)).mono ?_); rintro e1 wa ⟨X4, hX4, g4, rfl, h1, h2, h3⟩; have E4 := Lib.hid hX4; have HG := Lib.hid (gr_trans HG.out h2); have HT := Lib.hid (HT.out.grown h2); (try have HS := Lib.hid (HS.out.grown h2)); (try have HC := Lib.hid (HC.out.grown h2)); (try have HXR := Lib.hid (HXR.out.grown h2)); (try have HYR := Lib.hid (HYR.out.grown h2)); (try have HM1 := Lib.hid (HM1.out.grown h2)); (try have HM2 := Lib.hid (HM2.out.grown h2)); (try have HM3 := Lib.hid (HM3.out.grown h2)); (try have HM4 := Lib.hid (HM4.out.grown h2)); (try have HKK := Lib.hid (HKK.out.grown h2)); (try have HDD := Lib.hid (HDD.out.grown h2)); have HM4 := Lib.hid h1; clear hX4 h1 h2 h3)
        | ((with_reducible refine (mul05_c HT.out HC.out HXR.out Z2.out HX.out.sz (by decide)).mono ?_); rintro e1 wa ⟨X3, hX3, g3, rfl, h1, h2, h3⟩; have E3 := Lib.hid hX3; have HG := Lib.hid (gr_trans HG.out h2); have HT := Lib.hid (HT.out.grown h2); (try have HS := Lib.hid (HS.out.grown h2)); (try have HC := Lib.hid (HC.out.grown h2)); (try have HXR := Lib.hid (HXR.out.grown h2)); (try have HYR := Lib.hid (HYR.out.grown h2)); (try have HM1 := Lib.hid (HM1.out.grown h2)); (try have HM2 := Lib.hid (HM2.out.grown h2)); (try have HM3 := Lib.hid (HM3.out.grown h2)); (try have HM4 := Lib.hid (HM4.out.grown h2)); (try have HKK := Lib.hid (HKK.out.grown h2)); (try have HDD := Lib.hid (HDD.out.grown h2)); have HM3 := Lib.hid h1; clear hX3 h1 h2 h3)))
    | (go_at_call 76; go_loud ((with_reducible refine (add05_c HT.out HM3.out HM4.out ((Z2.out.mul HX.out.sz).near E3.out u4_small) ((Z1.out.mul HY.out.sz).near E4.out u4_small) (by decide)).mono ?_); rintro e1 wa ⟨D, hD, gd, rfl, h1, h2, h3⟩; have ED := Lib.hid hD; have ZD := Lib.hid ((diff_sz HM3.out HM4.out (((Z2.out.mul HX.out.sz).near E3.out u4_small).mono (by decide)) (((Z1.out.mul HY.out.sz).near E4.out u4_small).mono (by decide))).2.near hD u4_small); have HNE := Lib.hid (Nat.ne_of_lt (Nat.lt_of_lt_of_le HKK.out.lt h3)); have HG := Lib.hid (gr_trans HG.out h2); have HT := Lib.hid (HT.out.grown h2); (try have HS := Lib.hid (HS.out.grown h2)); (try have HC := Lib.hid (HC.out.grown h2)); (try have HXR := Lib.hid (HXR.out.grown h2)); (try have HYR := Lib.hid (HYR.out.grown h2)); (try have HM1 := Lib.hid (HM1.out.grown h2)); (try have HM2 := Lib.hid (HM2.out.grown h2)); (try have HM3 := Lib.hid (HM3.out.grown h2)); (try have HM4 := Lib.hid (HM4.out.grown h2)); (try have HKK := Lib.hid (HKK.out.grown h2)); (try have HDD := Lib.hid (HDD.out.grown h2)); have HDD := Lib.hid h1; clear hD h1 h2 h3))
    | fail)
  clear HXR HYR HM3 HM4
  go_upto_region 5 with (first
    | (go_at_call 21; go_loud ((with_reducible refine (fprec_c (HT.out.grown ((Grown.refl _).alloc _ _)) (flcNew _ _)).mono ?_); rintro e1 wa ⟨rfl, h1, h2⟩; have HZ := Lib.hid h1; have HGW := Lib.hid (h2.grown ((Grown.refl _).alloc _ _) (Nat.le_refl _)); have HTB := Lib.hid (HT.out.grown HGW.out); clear h1 h2))
    | (go_at_call 35; go_loud ((with_reducible refine (whole05_c 1 HTB.out (by decide)).mono ?_); rintro e1 wa ⟨g1, rfl, h1, h2, h3⟩; rw [HCA.out] at h1; have HN := Lib.hid h1; have HGW := Lib.hid (gr_trans HGW.out h2); have HTB := Lib.hid (HTB.out.grown h2); have HZ := Lib.hid (HZ.out.grown h2); clear h1 h2 h3))
    | (go_at_call 28; go_loud ((with_reducible refine (fmant_c HTB.out.at' HTB.out.lt HZ.out.z HN.out (Sz.one) (by decide) (by omega) (by omega)).mono ?_); rintro e1 wa ⟨P, hP, rfl, h1, h2⟩; have EP := Lib.hid hP; have HGW := Lib.hid (h2.grown HGW.out (Nat.le_refl _)); have HPF := Lib.hid h1; have HT := Lib.hid (HT.out.grown HGW.out); have HDD := Lib.hid (HDD.out.grown HGW.out); have HKK := Lib.hid (HKK.out.grown HGW.out); have HG := Lib.hid (gr_trans HG.out HGW.out); clear hP h1 h2))
    | (go_at_call 42; go_loud ((with_reducible refine (mul05_c HT.out HDD.out HPF.out ZD.out ((pow_sz (by omega)).near EP.out u4_small) (by omega)).mono ?_); rintro e1 wa ⟨B, hB, gb, rfl, h1, h2, h3⟩; have EB := Lib.hid hB; have HNB := Lib.hid (Nat.ne_of_lt (Nat.lt_of_lt_of_le HKK.out.lt h3)); have HG := Lib.hid (gr_trans HG.out h2); have HT := Lib.hid (HT.out.grown h2); (try have HS := Lib.hid (HS.out.grown h2)); (try have HC := Lib.hid (HC.out.grown h2)); (try have HXR := Lib.hid (HXR.out.grown h2)); (try have HYR := Lib.hid (HYR.out.grown h2)); (try have HM1 := Lib.hid (HM1.out.grown h2)); (try have HM2 := Lib.hid (HM2.out.grown h2)); (try have HM3 := Lib.hid (HM3.out.grown h2)); (try have HM4 := Lib.hid (HM4.out.grown h2)); (try have HKK := Lib.hid (HKK.out.grown h2)); (try have HDD := Lib.hid (HDD.out.grown h2)); have HBF := Lib.hid h1; clear hB h1 h2 h3))
    | fail)
  clear HGW HTB HZ HN HPF
  go_upto_region 6 with (first
    | (go_at_call 68; go_loud ((with_reducible refine (fabs_c HT.out HKK.out.z HKK.out ZK.out (by omega)).mono ?_); rintro e1 wa ⟨K2, hK2, rfl, h1, h2⟩; have EK2 := Lib.hid hK2; have HT := Lib.hid (HT.out.kept HKK.out.z h2); have HDD := Lib.hid (HDD.out.kept h2 (Ne.symm HNE.out) HKK.out.z.no); have HBF := Lib.hid (HBF.out.kept h2 (Ne.symm HNB.out) HKK.out.z.no); have HG := Lib.hid (h2.grown HG.out HGE.out); have HKK := Lib.hid h1; clear hK2 h1 h2))
    | fail)
  have hcs := (CS_len (y := b) (Rat.le_trans HB.out (by decide +kernel))).2
  have hcs' : ab (CS b).re + ab (CS b).im ≤ 21 / 10 := hcs
  have hQ1 : pw (-(p : Int)) ≤ 1 := by have := pw_mono (show -(p : Int) ≤ 0 by omega); rwa [pw_zero] at this
  have HR := Lib.hid (ang_room (by have := ab_nn (CS b).im; grind) (by have := ab_nn (CS b).re; grind) HTN.out.1 HTN.out.2 E1.out E2.out EK.out E3.out E4.out ED.out (pw_pos (-(p : Int))) hQ1 EP.out EB.out EK2.out)
  clear hcs hcs' hQ1
  go_wp2_with (first
    | (go_at_call 83; go_loud ((with_reducible refine (fsign_c HDD.out).mono ?_); rintro e1 wa ⟨c1, rfl, hc1, h2⟩; have HC1 := Lib.hid hc1; have HG := Lib.hid (gr_trans HG.out h2); have HT := Lib.hid (HT.out.grown h2); have HKK := Lib.hid (HKK.out.grown h2); have HBF := Lib.hid (HBF.out.grown h2); clear hc1 h2))
    | (go_at_call 23; go_loud ((with_reducible refine (fcmp_c HKK.out HBF.out (ZK.out.abv.near EK2.out u4_small) ((ZD.out.mul ((pow_sz (by omega)).near EP.out u4_small)).near EB.out u4_small) (by omega)).mono ?_); rintro e1 wa ⟨c2, rfl, h1, h2⟩; have KC := Lib.hid h1; have HG := Lib.hid (gr_trans HG.out h2); clear h1 h2))
    | fail)
  all_goals go_ret
  all_goals
    refine ⟨_, rfl, fun hL hR hI => ?_, HG.out⟩
    obtain ⟨d, k⟩ := HR.out hL hR hI
    have c1e := HC1.out d
    first
      | (exfalso; omega)
      | (have := (KC.out.1).2 k
         simp
         omega)
end Go.Proofs.YtcfkhhnkboealaaDoor
