/- The law of angles of places. -/
import Derived.Test.YtcfkhhnkboealaaDoorGi
namespace Go.Proofs.YtcfkhhnkboealaaDoor
open Go.RowKit
set_option linter.unusedVariables false
set_option linter.unusedSimpArgs false
set_option maxRecDepth 100000
set_option maxHeartbeats 4000000
open Turns Sizes
theorem notN_PH' : isN 4614256656552045848 = false := by decide +kernel
theorem tan_sz {s c q : Rat} (hs : Sz 1110 s) (h1 : 8 / 10 ≤ c) (h2 : c ≤ 2) (hq : ab (q - s / c) ≤ 3 * u4 * ab (s / c)) : Sz 1120 q := by
  obtain ⟨u0, u1, u2⟩ := u4_fine
  have k : Sz 2 (1 / c) := by
    refine Sz.between (a := 1 / 2) (b := 2) ?_ ?_ (by decide +kernel) (by decide +kernel) (by decide +kernel)
    · rw [le_div (by grind)]; grind
    · rw [div_le (by grind)]; grind
  have e : s / c = s * (1 / c) := by grind
  rw [e] at hq
  exact ((hs.mul k).near hq (by grind)).mono (by decide)
/-- what the law's question of an angle wants. -/
theorem ang_cond {x y b e : Rat} {p : Nat} (h : Ln x y b e) (hb : ab b ≤ 4) (he : e ≤ 1 / 1000) (hp : e + 2 * tw 65 ≤ pw (-(p : Int))) (hL : 0 < ab x + ab y) :
    0 < ab x + ab y ∧ 1 / 2 * (ab x + ab y) ≤ (CS b).re * x + (CS b).im * y ∧ ab ((CS b).im * x - (CS b).re * y) + tw 65 * (ab x + ab y) ≤ pw (-(p : Int)) * ((CS b).re * x + (CS b).im * y) := by
  have g := h.grow (Rat.le_trans hb (by decide +kernel)) (Rat.le_trans he (by decide +kernel))
  obtain ⟨h0, hI⟩ := h
  have w := tw_pos 65
  generalize (CS b).re * x + (CS b).im * y = R at *
  generalize (CS b).im * x - (CS b).re * y = I at *
  generalize ab x + ab y = L at *
  have a := Rat.mul_le_mul_of_nonneg_right hp (Rat.le_of_lt h0)
  have c := Rat.mul_le_mul_of_nonneg_left (show L ≤ 2 * R by grind) (Rat.le_of_lt w)
  have e1 : (e + 2 * tw 65) * R = e * R + 2 * (tw 65 * R) := by grind
  have e2 : tw 65 * (2 * R) = 2 * (tw 65 * R) := by grind
  rw [e1] at a
  rw [e2] at c
  refine ⟨hL, by grind, ?_⟩
  generalize tw 65 * R = z1 at *
  generalize tw 65 * L = z2 at *
  generalize e * R = z3 at *
  grind
theorem angles50_c {f fy fx : Nat} {b y x : Rat} {w : World} (hT : TB w) (hf : V f b) (hb : ab b ≤ 4) (hy : V fy y) (hx : V fx x) :
    Calls Tryd.prog 48 #[.float .f64 f, .float .f64 fy, .float .f64 fx, .int .i64 50] w (RetAng b y x 50 w) := angles05_c (p := 50) hT hf hb hy hx (by decide)
theorem angles49_c {f fy fx : Nat} {b y x : Rat} {w : World} (hT : TB w) (hf : V f b) (hb : ab b ≤ 4) (hy : V fy y) (hx : V fx x) :
    Calls Tryd.prog 48 #[.float .f64 f, .float .f64 fy, .float .f64 fx, .int .i64 49] w (RetAng b y x 49 w) := angles05_c (p := 49) hT hf hb hy hx (by decide)
theorem near49'_c {f gv go : Nat} {x v o : Rat} {w : World} (hT : TB w) (hf : V f x) (hv : FV w gv v) (hs : Sz 1120 v) (ho : FV w go o) (hos : Sz 1120 o) :
    Calls Tryd.prog 34 #[.float .f64 f, .pointer (some ⟨gv, 0, none⟩), .pointer (some ⟨go, 0, none⟩), .int .i64 49] w (RetNr5 x v o 49 w) := near05_c (p := 49) hT hf hv hs ho hos (by decide) (by decide)
theorem of_nan {f g : Nat} (h : isN f = true ∨ isN g = true) : ofF f g = nanB := by
  unfold ofF
  refine if_pos ?_
  rcases h with h | h
  · rw [h]; rfl
  · rw [h, Bool.or_true]
theorem zero_zero {y x : Nat} (hy : isN y = false) (hx : isN x = false) (h1 : feq y 0 = true) (h2 : feq x 0 = true) : rung (ofF y x) = 0 ∨ rung (ofF y x) = 4614256656552045848 := by
  have r1 : rung y = 0 := by rw [feq_zero hy] at h1; exact of_decide_eq_true h1
  have r2 : rung x = 0 := by rw [feq_zero hx] at h2; exact of_decide_eq_true h2
  have e : ofF y x = signed (ofAbs y x) y := by
    unfold ofF
    rw [hy, hx]
    exact if_neg (by decide)
  have ea : ofAbs y x = backP (sgn x) 0 := by
    unfold ofAbs placeP
    rw [fabs_of hy, fabs_of hx, r1, r2, show feq 0 0 = true by decide +kernel, if_pos rfl]
  have hn : isN (backP (sgn x) 0) = false := by cases sgn x <;> decide +kernel
  have hr : rung (backP (sgn x) 0) = 0 ∨ rung (backP (sgn x) 0) = 4614256656552045848 := by cases sgn x <;> decide +kernel
  rw [e, ea, sign_laid hn hy]
  have hl : rung (backP (sgn x) 0) ≤ 9218868437227405312 := by rcases hr with h | h <;> rw [h] <;> decide
  rw [wd_rung hl]
  exact hr
theorem halves : fdiv 13837628693406821656 4611686018427387904 = 13833125093779451160 ∧ fdiv 4614256656552045848 4611686018427387904 = 4609753056924675352 ∧ fneg 4609753056924675352 = 13833125093779451160 ∧ fneg 4614256656552045848 = 13837628693406821656 ∧ (4614256656552045848 : Nat) ^^^ 9223372036854775808 = 13837628693406821656 := by decide +kernel
theorem R2 : Rep 4611686018427387904 4611686018427387904 := Rep.self (by decide) (by decide +kernel)
theorem RPH : Rep 4614256656552045848 4614256656552045848 := Rep.self (by decide) (by decide +kernel)
theorem RH2 : Rep 4609753056924675352 4609753056924675352 := Rep.self (by decide) (by decide +kernel)
theorem RNH2 : Rep 13833125093779451160 13833125093779451160 := Rep.self (by decide) (by decide +kernel)
theorem angleNear_nany {y x f g : Nat} {w : World} (hT : TB w) (hy : Rep y f) (hx : Rep x g) (h : isN f = true) : Calls Tryd.prog 7 #[.float .f64 y, .float .f64 x] w (RetYes w) := by
  have HRX := Lib.hid hx
  have HRY := Lib.hid hy
  have HT := Lib.hid hT
  have HG := Lib.hid (Grown.refl w)
  have q1 := hy.none'
  have q2 := hx.none'
  rw [h] at q1
  have e1 : RowKit.Hid (ofF f g = nanB) := Lib.hid (of_nan (.inl h))
  have e2 : RowKit.Hid (ofF f 4607182418800017408 = nanB) := Lib.hid (of_nan (.inl h))
  have HNN : RowKit.Hid (isN nanB = true) := Lib.hid (by decide +kernel)
  clear hT
  obtain ⟨wa, hwa⟩ : ∃ wa, wa = w := ⟨_, rfl⟩
  subst hwa
  go_enter Tryd.func7, Tryd.ntmps7
  go_wp2_with (first
    | (go_at_call 29; go_loud ((with_reducible refine (alive_c _).mono ?_); rintro e1 wa ⟨rfl, h2⟩; have HG := Lib.hid (gr_trans HG.out h2); have HT := Lib.hid (HT.out.grown h2); clear h2))
    | (go_at_call 44; go_loud ((with_reducible refine (of_c HRX.out HRY.out _).mono ?_); rintro e1 wz ⟨r, n1, rfl, h1, rfl⟩; rw [e1.out] at h1; have p1 := h1.none'; rw [HNN.out] at p1; clear h1; have h2 := gr_drewN n1 (Grown.refl wa); have HG := Lib.hid (gr_trans HG.out h2); have HT := Lib.hid (HT.out.grown h2); generalize eW : wa.drewN n1 = wa at *; clear h2 eW))
    | (go_at_call 45; go_loud ((with_reducible refine (tan_c HRY.out _).mono ?_); rintro e1 wz ⟨r, n1, rfl, h1, rfl⟩; rw [e2.out] at h1; have p2 := h1.none'; rw [HNN.out] at p2; clear h1; have h2 := gr_drewN n1 (Grown.refl wa); have HG := Lib.hid (gr_trans HG.out h2); have HT := Lib.hid (HT.out.grown h2); generalize eW : wa.drewN n1 = wa at *; clear h2 eW))
    | (go_at_call 43; go_loud ((with_reducible refine (Pi_c _).mono ?_); rintro e1 wz ⟨r, s, n1, rfl, h1, h3, rfl⟩; obtain rfl := h1.eq_of notN_PH'; clear h1 h3; have h2 := gr_drewN n1 (Grown.refl wa); have HG := Lib.hid (gr_trans HG.out h2); have HT := Lib.hid (HT.out.grown h2); generalize eW : wa.drewN n1 = wa at *; clear h2 eW))
    | fail)
  go_ret
  exact ⟨rfl, by first | exact HG.out | exact gr_drewN _ HG.out⟩
theorem angleNear_nanx {y x f g : Nat} {w : World} (hT : TB w) (hy : Rep y f) (hx : Rep x g) (h : isN f = false ∧ isN g = true) : Calls Tryd.prog 7 #[.float .f64 y, .float .f64 x] w (RetYes w) := by
  have HRX := Lib.hid hx
  have HRY := Lib.hid hy
  have HT := Lib.hid hT
  have HG := Lib.hid (Grown.refl w)
  have q1 := hy.none'
  have q2 := hx.none'
  rw [h.1] at q1
  rw [h.2] at q2
  obtain rfl : y = f := hy.eq_of h.1
  have e1 : RowKit.Hid (ofF y g = nanB) := Lib.hid (of_nan (.inr h.2))
  have e2 : RowKit.Hid (isN (ofF y 4607182418800017408) = false) := Lib.hid (of_range hy.lt (by decide) h.1 (by decide +kernel)).1
  have HNN : RowKit.Hid (isN nanB = true) := Lib.hid (by decide +kernel)
  clear hT
  obtain ⟨wa, hwa⟩ : ∃ wa, wa = w := ⟨_, rfl⟩
  subst hwa
  go_enter Tryd.func7, Tryd.ntmps7
  go_wp2_with (first
    | (go_at_call 29; go_loud ((with_reducible refine (alive_c _).mono ?_); rintro e1 wa ⟨rfl, h2⟩; have HG := Lib.hid (gr_trans HG.out h2); have HT := Lib.hid (HT.out.grown h2); clear h2))
    | (go_at_call 44; go_loud ((with_reducible refine (of_c HRX.out HRY.out _).mono ?_); rintro e1 wz ⟨r, n1, rfl, h1, rfl⟩; rw [e1.out] at h1; have p1 := h1.none'; rw [HNN.out] at p1; clear h1; have h2 := gr_drewN n1 (Grown.refl wa); have HG := Lib.hid (gr_trans HG.out h2); have HT := Lib.hid (HT.out.grown h2); generalize eW : wa.drewN n1 = wa at *; clear h2 eW))
    | (go_at_call 45; go_loud ((with_reducible refine (tan_c HRY.out _).mono ?_); rintro e1 wz ⟨r, n1, rfl, h1, rfl⟩; have p2 := h1.none'; rw [e2.out] at p2; clear h1; have h2 := gr_drewN n1 (Grown.refl wa); have HG := Lib.hid (gr_trans HG.out h2); have HT := Lib.hid (HT.out.grown h2); generalize eW : wa.drewN n1 = wa at *; clear h2 eW))
    | (go_at_call 43; go_loud ((with_reducible refine (Pi_c _).mono ?_); rintro e1 wz ⟨r, s, n1, rfl, h1, h3, rfl⟩; obtain rfl := h1.eq_of notN_PH'; clear h1 h3; have h2 := gr_drewN n1 (Grown.refl wa); have HG := Lib.hid (gr_trans HG.out h2); have HT := Lib.hid (HT.out.grown h2); generalize eW : wa.drewN n1 = wa at *; clear h2 eW))
    | fail)
  go_ret
  exact ⟨rfl, by first | exact HG.out | exact gr_drewN _ HG.out⟩
theorem angleNear_zero {y x : Nat} {w : World} (hT : TB w) (hy : Rep y y) (hx : Rep x x) (ny : isN y = false) (nx : isN x = false) (zy : feq y 0 = true) (zx : feq x 0 = true) : Calls Tryd.prog 7 #[.float .f64 y, .float .f64 x] w (RetYes w) := by
  have nt := of_range hy.lt hx.lt ny nx
  have nu := of_range (x := 4607182418800017408) hy.lt (by decide) ny (by decide +kernel)
  obtain ⟨T, hT0⟩ : ∃ T, ofF y x = T := ⟨_, rfl⟩
  obtain ⟨U', hU0⟩ : ∃ U', ofF y 4607182418800017408 = U' := ⟨_, rfl⟩
  rw [hT0] at nt
  rw [hU0] at nu
  obtain ⟨tn, tr, ts, _, tl⟩ := nt
  obtain ⟨un, _, us, ur, ul⟩ := nu
  have ur' := ur (by decide +kernel)
  have rT : Rep T T := Rep.self tl (nrm_of_not tn)
  have rU : Rep U' U' := Rep.self ul (nrm_of_not un)
  obtain ⟨v1, v2, v3, v4, v5⟩ := halves
  have p1 := rT.lt' Rep.cNH
  rw [← v4, (in_bounds tn (by decide) tr).1, v4] at p1
  have p2 := rT.gt' RPH
  rw [(in_bounds tn (by decide) tr).2] at p2
  have p3 := rU.lt' RNH2
  rw [← v3, (in_bounds un (by decide) ur').1, v3] at p3
  have p4 := rU.gt' RH2
  rw [(in_bounds un (by decide) ur').2] at p4
  have p5 : ∀ W, fres .quo 13837628693406821656 4611686018427387904 W = 13833125093779451160 := fun W => by
    have h := (Rep.cNH.quo R2 (w := W))
    rw [v1] at h
    exact h.eq_of (by decide +kernel)
  have p6 : ∀ W, fres .quo 4614256656552045848 4611686018427387904 W = 4609753056924675352 := fun W => by
    have h := (RPH.quo R2 (w := W))
    rw [v2] at h
    exact h.eq_of (by decide +kernel)
  have q1 := hy.none'
  rw [ny] at q1
  have q2 := hx.none'
  rw [nx] at q2
  have q3 := hy.eq' Rep.c0
  have q4 := hx.eq' Rep.c0
  have q5 := hy.ne' Rep.c0
  have HRX := Lib.hid hx
  have HRY := Lib.hid hy
  have HRXN := Lib.hid nx
  have HRYN := Lib.hid ny
  have HRT := Lib.hid rT
  have HRU := Lib.hid rU
  have HTN := Lib.hid tn
  have HUN := Lib.hid un
  have HT0 := Lib.hid hT0
  have HU0 := Lib.hid hU0
  have HST := Lib.hid ts
  have HSU := Lib.hid us
  have HT := Lib.hid hT
  have HG := Lib.hid (Grown.refl w)
  rw [zy] at q3 q5
  rw [zx] at q4
  have zz := zero_zero ny nx zy zx
  rw [hT0] at zz
  have rr : Rep (rung T) (rung T) := (word_facts (show rung T < 9218868437227405312 by omega)).2.2.2.2.2
  have HRTU : RowKit.Hid (isN (rung T) = false) := Lib.hid (word_facts (show rung T < 9218868437227405312 by omega)).2.2.2.1
  have k1 := rr.eq' Rep.c0
  have k2 := rr.eq' RPH
  clear hT tn tr tl un ur ul v1 v2 v3 v4 hT0 hU0
  rcases zz with zz | zz
  all_goals
    (first
      | rw [show feq (rung T) 0 = true by rw [zz]; decide +kernel] at k1
      | rw [show feq (rung T) 0 = false by rw [zz]; decide +kernel] at k1)
    (first
      | rw [show feq (rung T) 4614256656552045848 = true by rw [zz]; decide +kernel] at k2
      | rw [show feq (rung T) 4614256656552045848 = false by rw [zz]; decide +kernel] at k2)
    clear zz
    obtain ⟨wa, hwa⟩ : ∃ wa, wa = w := ⟨_, rfl⟩
    subst hwa
    go_enter Tryd.func7, Tryd.ntmps7
    go_wp2_with (first
    | (go_at_call 29; go_loud ((with_reducible refine (alive_c _).mono ?_); rintro e1 wa ⟨rfl, h2⟩; have HG := Lib.hid (gr_trans HG.out h2); have HT := Lib.hid (HT.out.grown h2); clear h2))
    | (go_at_call 44; go_loud ((with_reducible refine (of_c HRX.out HRY.out _).mono ?_); rintro e1 wz ⟨r, n1, rfl, h1, rfl⟩; rw [HT0.out] at h1; obtain rfl := h1.eq_of HTN.out; clear h1; have h2 := gr_drewN n1 (Grown.refl wa); have HG := Lib.hid (gr_trans HG.out h2); have HT := Lib.hid (HT.out.grown h2); generalize eW : wa.drewN n1 = wa at *; clear h2 eW))
    | (go_at_call 45; go_loud ((with_reducible refine (tan_c HRY.out _).mono ?_); rintro e1 wz ⟨r, n1, rfl, h1, rfl⟩; rw [HU0.out] at h1; obtain rfl := h1.eq_of HUN.out; clear h1; have h2 := gr_drewN n1 (Grown.refl wa); have HG := Lib.hid (gr_trans HG.out h2); have HT := Lib.hid (HT.out.grown h2); generalize eW : wa.drewN n1 = wa at *; clear h2 eW))
    | (go_at_call 43; go_loud ((with_reducible refine (Pi_c _).mono ?_); rintro e1 wz ⟨r, s, n1, rfl, h1, h3, rfl⟩; obtain rfl := h1.eq_of notN_PH'; clear h1 h3; have h2 := gr_drewN n1 (Grown.refl wa); have HG := Lib.hid (gr_trans HG.out h2); have HT := Lib.hid (HT.out.grown h2); generalize eW : wa.drewN n1 = wa at *; clear h2 eW))
    | (go_at_call 46; go_loud (first
        | ((with_reducible refine (signbit_c HRT.out _).mono ?_); (try rw [HST.out]); (try rw [HSU.out]); rintro e1 wz ⟨n1, rfl, rfl⟩)
        | ((with_reducible refine (signbit_c HRU.out _).mono ?_); (try rw [HST.out]); (try rw [HSU.out]); rintro e1 wz ⟨n1, rfl, rfl⟩)
        | ((with_reducible refine (signbit_c HRY.out _).mono ?_); (try rw [HST.out]); (try rw [HSU.out]); rintro e1 wz ⟨n1, rfl, rfl⟩)))
    | (go_at_call 13; go_loud ((with_reducible refine (abs_c HRT.out _).mono ?_); rintro e1 wz ⟨q, n1, rfl, h1, rfl⟩; rw [fabs_of HTN.out] at h1; obtain rfl := h1.eq_of HRTU.out; clear h1))
    | fail)
    go_ret
    exact ⟨rfl, by first | exact HG.out | exact gr_drewN _ HG.out⟩
theorem angleNear_inf {y x : Nat} {w : World} (hT : TB w) (hy : Rep y y) (hx : Rep x x) (ny : isN y = false) (nx : isN x = false) (fy : fin y = false) (zy : feq y 0 = false) : Calls Tryd.prog 7 #[.float .f64 y, .float .f64 x] w (RetYes w) := by
  have nt := of_range hy.lt hx.lt ny nx
  have nu := of_range (x := 4607182418800017408) hy.lt (by decide) ny (by decide +kernel)
  obtain ⟨T, hT0⟩ : ∃ T, ofF y x = T := ⟨_, rfl⟩
  obtain ⟨U', hU0⟩ : ∃ U', ofF y 4607182418800017408 = U' := ⟨_, rfl⟩
  rw [hT0] at nt
  rw [hU0] at nu
  obtain ⟨tn, tr, ts, _, tl⟩ := nt
  obtain ⟨un, _, us, ur, ul⟩ := nu
  have ur' := ur (by decide +kernel)
  have rT : Rep T T := Rep.self tl (nrm_of_not tn)
  have rU : Rep U' U' := Rep.self ul (nrm_of_not un)
  obtain ⟨v1, v2, v3, v4, v5⟩ := halves
  have p1 := rT.lt' Rep.cNH
  rw [← v4, (in_bounds tn (by decide) tr).1, v4] at p1
  have p2 := rT.gt' RPH
  rw [(in_bounds tn (by decide) tr).2] at p2
  have p3 := rU.lt' RNH2
  rw [← v3, (in_bounds un (by decide) ur').1, v3] at p3
  have p4 := rU.gt' RH2
  rw [(in_bounds un (by decide) ur').2] at p4
  have p5 : ∀ W, fres .quo 13837628693406821656 4611686018427387904 W = 13833125093779451160 := fun W => by
    have h := (Rep.cNH.quo R2 (w := W))
    rw [v1] at h
    exact h.eq_of (by decide +kernel)
  have p6 : ∀ W, fres .quo 4614256656552045848 4611686018427387904 W = 4609753056924675352 := fun W => by
    have h := (RPH.quo R2 (w := W))
    rw [v2] at h
    exact h.eq_of (by decide +kernel)
  have q1 := hy.none'
  rw [ny] at q1
  have q2 := hx.none'
  rw [nx] at q2
  have q3 := hy.eq' Rep.c0
  have q4 := hx.eq' Rep.c0
  have q5 := hy.ne' Rep.c0
  have HRX := Lib.hid hx
  have HRY := Lib.hid hy
  have HRXN := Lib.hid nx
  have HRYN := Lib.hid ny
  have HRT := Lib.hid rT
  have HRU := Lib.hid rU
  have HTN := Lib.hid tn
  have HUN := Lib.hid un
  have HT0 := Lib.hid hT0
  have HU0 := Lib.hid hU0
  have HST := Lib.hid ts
  have HSU := Lib.hid us
  have HT := Lib.hid hT
  have HG := Lib.hid (Grown.refl w)
  rw [zy] at q3 q5
  have HFY := Lib.hid fy
  clear hT tn tr tl un ur ul v1 v2 v3 v4 hT0 hU0
  obtain ⟨wa, hwa⟩ : ∃ wa, wa = w := ⟨_, rfl⟩
  subst hwa
  go_enter Tryd.func7, Tryd.ntmps7
  go_wp2_with (first
    | (go_at_call 29; go_loud ((with_reducible refine (alive_c _).mono ?_); rintro e1 wa ⟨rfl, h2⟩; have HG := Lib.hid (gr_trans HG.out h2); have HT := Lib.hid (HT.out.grown h2); clear h2))
    | (go_at_call 44; go_loud ((with_reducible refine (of_c HRX.out HRY.out _).mono ?_); rintro e1 wz ⟨r, n1, rfl, h1, rfl⟩; rw [HT0.out] at h1; obtain rfl := h1.eq_of HTN.out; clear h1; have h2 := gr_drewN n1 (Grown.refl wa); have HG := Lib.hid (gr_trans HG.out h2); have HT := Lib.hid (HT.out.grown h2); generalize eW : wa.drewN n1 = wa at *; clear h2 eW))
    | (go_at_call 45; go_loud ((with_reducible refine (tan_c HRY.out _).mono ?_); rintro e1 wz ⟨r, n1, rfl, h1, rfl⟩; rw [HU0.out] at h1; obtain rfl := h1.eq_of HUN.out; clear h1; have h2 := gr_drewN n1 (Grown.refl wa); have HG := Lib.hid (gr_trans HG.out h2); have HT := Lib.hid (HT.out.grown h2); generalize eW : wa.drewN n1 = wa at *; clear h2 eW))
    | (go_at_call 43; go_loud ((with_reducible refine (Pi_c _).mono ?_); rintro e1 wz ⟨r, s, n1, rfl, h1, h3, rfl⟩; obtain rfl := h1.eq_of notN_PH'; clear h1 h3; have h2 := gr_drewN n1 (Grown.refl wa); have HG := Lib.hid (gr_trans HG.out h2); have HT := Lib.hid (HT.out.grown h2); generalize eW : wa.drewN n1 = wa at *; clear h2 eW))
    | (go_at_call 46; go_loud (first
        | ((with_reducible refine (signbit_c HRT.out _).mono ?_); (try rw [HST.out]); (try rw [HSU.out]); rintro e1 wz ⟨n1, rfl, rfl⟩)
        | ((with_reducible refine (signbit_c HRU.out _).mono ?_); (try rw [HST.out]); (try rw [HSU.out]); rintro e1 wz ⟨n1, rfl, rfl⟩)
        | ((with_reducible refine (signbit_c HRY.out _).mono ?_); (try rw [HST.out]); (try rw [HSU.out]); rintro e1 wz ⟨n1, rfl, rfl⟩)))
    | (go_at_call 47; go_loud (first
        | ((with_reducible refine (finite05_c HRY.out HRYN.out _).mono ?_); rw [HFY.out]; rintro e1 wz ⟨n1, rfl, rfl⟩)
        ))
    | fail)
  go_ret
  exact ⟨rfl, by first | exact HG.out | exact gr_drewN _ HG.out⟩
theorem angleNear_fb {y x : Nat} {Y X : Rat} {w : World} (hT : TB w) (hy : Rep y y) (hx : Rep x x) (vy : V y Y) (nx : isN x = false) (vx : V x X) (h0 : 0 < ab Y + ab X) (zy : feq y 0 = false) (sm : fle (rung y) 4601130706800738304 = false) : Calls Tryd.prog 7 #[.float .f64 y, .float .f64 x] w (RetYes w) := by
  have ny := fin_notN vy.fin
  have nt := of_range hy.lt hx.lt ny nx
  have nu := of_range (x := 4607182418800017408) hy.lt (by decide) ny (by decide +kernel)
  obtain ⟨T, hT0⟩ : ∃ T, ofF y x = T := ⟨_, rfl⟩
  obtain ⟨U', hU0⟩ : ∃ U', ofF y 4607182418800017408 = U' := ⟨_, rfl⟩
  rw [hT0] at nt
  rw [hU0] at nu
  obtain ⟨tn, tr, ts, _, tl⟩ := nt
  obtain ⟨un, _, us, ur, ul⟩ := nu
  have ur' := ur (by decide +kernel)
  have rT : Rep T T := Rep.self tl (nrm_of_not tn)
  have rU : Rep U' U' := Rep.self ul (nrm_of_not un)
  obtain ⟨v1, v2, v3, v4, v5⟩ := halves
  have p1 := rT.lt' Rep.cNH
  rw [← v4, (in_bounds tn (by decide) tr).1, v4] at p1
  have p2 := rT.gt' RPH
  rw [(in_bounds tn (by decide) tr).2] at p2
  have p3 := rU.lt' RNH2
  rw [← v3, (in_bounds un (by decide) ur').1, v3] at p3
  have p4 := rU.gt' RH2
  rw [(in_bounds un (by decide) ur').2] at p4
  have p5 : ∀ W, fres .quo 13837628693406821656 4611686018427387904 W = 13833125093779451160 := fun W => by
    have h := (Rep.cNH.quo R2 (w := W))
    rw [v1] at h
    exact h.eq_of (by decide +kernel)
  have p6 : ∀ W, fres .quo 4614256656552045848 4611686018427387904 W = 4609753056924675352 := fun W => by
    have h := (RPH.quo R2 (w := W))
    rw [v2] at h
    exact h.eq_of (by decide +kernel)
  have q1 := hy.none'
  rw [ny] at q1
  have q2 := hx.none'
  rw [nx] at q2
  have q3 := hy.eq' Rep.c0
  have q4 := hx.eq' Rep.c0
  have q5 := hy.ne' Rep.c0
  have HRX := Lib.hid hx
  have HRY := Lib.hid hy
  have HRXN := Lib.hid nx
  have HRYN := Lib.hid ny
  have HRT := Lib.hid rT
  have HRU := Lib.hid rU
  have HTN := Lib.hid tn
  have HUN := Lib.hid un
  have HT0 := Lib.hid hT0
  have HU0 := Lib.hid hU0
  have HST := Lib.hid ts
  have HSU := Lib.hid us
  have HT := Lib.hid hT
  have HG := Lib.hid (Grown.refl w)
  rw [zy] at q3 q5
  have hry : Rep (rung y) (rung y) := (word_facts (fin_rung vy.fin)).2.2.2.2.2
  have HRUN : RowKit.Hid (isN (rung y) = false) := Lib.hid (word_facts (fin_rung vy.fin)).2.2.2.1
  have k1 := hry.le' (Rep.self (f := 4601130706800738304) (by decide) (by decide +kernel))
  rw [sm] at k1
  have HFY := Lib.hid vy.fin
  have HVY := Lib.hid vy
  have HV1 : RowKit.Hid (V 4607182418800017408 1) := Lib.hid V.unit1
  have yn := ab_nn Y
  have h1Y : 0 < ab (1 : Rat) + ab Y := by rw [show ab (1 : Rat) = 1 by decide +kernel]; grind
  obtain ⟨b, u1, _, u3, _, _, u6⟩ := of_ok vy V.unit1 (by rw [show ab Y + ab (1 : Rat) = ab 1 + ab Y by grind]; exact h1Y)
  rw [hU0] at u1
  have HVU := Lib.hid u1
  have HUB := Lib.hid u6
  have HUC := Lib.hid (ang_cond (p := 50) (u3 (by decide +kernel)).1 u6 (by decide +kernel) (by decide +kernel) h1Y)
  have HFX := Lib.hid vx.fin
  have HVX := Lib.hid vx
  obtain ⟨c, t1, t2, _, _, _, t6⟩ := of_ok vy vx h0
  rw [hT0] at t1
  have HVT := Lib.hid t1
  have HTB := Lib.hid t6
  have HTC := Lib.hid (ang_cond (p := 49) t2 t6 (by decide +kernel) (by decide +kernel) (by rw [show ab X + ab Y = ab Y + ab X by grind]; exact h0))
  clear t1 t2 t6 h0 vx
  clear hT tn tr tl un ur ul v1 v2 v3 v4 hT0 hU0 hry sm yn h1Y u1 u3 u6 vy
  obtain ⟨wa, hwa⟩ : ∃ wa, wa = w := ⟨_, rfl⟩
  subst hwa
  go_enter Tryd.func7, Tryd.ntmps7
  go_wp2_with (first
    | (go_at_call 29; go_loud ((with_reducible refine (alive_c _).mono ?_); rintro e1 wa ⟨rfl, h2⟩; have HG := Lib.hid (gr_trans HG.out h2); have HT := Lib.hid (HT.out.grown h2); clear h2))
    | (go_at_call 44; go_loud ((with_reducible refine (of_c HRX.out HRY.out _).mono ?_); rintro e1 wz ⟨r, n1, rfl, h1, rfl⟩; rw [HT0.out] at h1; obtain rfl := h1.eq_of HTN.out; clear h1; have h2 := gr_drewN n1 (Grown.refl wa); have HG := Lib.hid (gr_trans HG.out h2); have HT := Lib.hid (HT.out.grown h2); generalize eW : wa.drewN n1 = wa at *; clear h2 eW))
    | (go_at_call 45; go_loud ((with_reducible refine (tan_c HRY.out _).mono ?_); rintro e1 wz ⟨r, n1, rfl, h1, rfl⟩; rw [HU0.out] at h1; obtain rfl := h1.eq_of HUN.out; clear h1; have h2 := gr_drewN n1 (Grown.refl wa); have HG := Lib.hid (gr_trans HG.out h2); have HT := Lib.hid (HT.out.grown h2); generalize eW : wa.drewN n1 = wa at *; clear h2 eW))
    | (go_at_call 43; go_loud ((with_reducible refine (Pi_c _).mono ?_); rintro e1 wz ⟨r, s, n1, rfl, h1, h3, rfl⟩; obtain rfl := h1.eq_of notN_PH'; clear h1 h3; have h2 := gr_drewN n1 (Grown.refl wa); have HG := Lib.hid (gr_trans HG.out h2); have HT := Lib.hid (HT.out.grown h2); generalize eW : wa.drewN n1 = wa at *; clear h2 eW))
    | (go_at_call 46; go_loud (first
        | ((with_reducible refine (signbit_c HRT.out _).mono ?_); (try rw [HST.out]); (try rw [HSU.out]); rintro e1 wz ⟨n1, rfl, rfl⟩)
        | ((with_reducible refine (signbit_c HRU.out _).mono ?_); (try rw [HST.out]); (try rw [HSU.out]); rintro e1 wz ⟨n1, rfl, rfl⟩)
        | ((with_reducible refine (signbit_c HRY.out _).mono ?_); (try rw [HST.out]); (try rw [HSU.out]); rintro e1 wz ⟨n1, rfl, rfl⟩)))
    | (go_at_call 47; go_loud (first
        | ((with_reducible refine (finite05_c HRY.out HRYN.out _).mono ?_); rw [HFY.out]; rintro e1 wz ⟨n1, rfl, rfl⟩)
        | ((with_reducible refine (finite05_c HRX.out HRXN.out _).mono ?_); rw [HFX.out]; rintro e1 wz ⟨n1, rfl, rfl⟩)))
    | (go_at_call_of 48 (Value.int IntKind.i64 50); go_loud ((with_reducible refine (angles50_c (by first | exact HT.out | exact HT.out.grown (gr_drewN _ (Grown.refl _))) HVU.out HUB.out HVY.out HV1.out).mono ?_); rintro e1 wa ⟨ok, rfl, h1, h2⟩; obtain rfl := h1 HUC.out.1 HUC.out.2.1 HUC.out.2.2; have HG := Lib.hid (gr_trans (by first | exact HG.out | exact gr_drewN _ HG.out) h2); have HT := Lib.hid (TB.grown (by first | exact HT.out | exact HT.out.grown (gr_drewN _ (Grown.refl _))) h2); clear h1 h2))
    | (go_at_call_of 48 (Value.int IntKind.i64 49); go_loud ((with_reducible refine (angles49_c (by first | exact HT.out | exact HT.out.grown (gr_drewN _ (Grown.refl _))) HVT.out HTB.out HVY.out HVX.out).mono ?_); rintro e1 wa ⟨ok, rfl, h1, h2⟩; obtain rfl := h1 HTC.out.1 HTC.out.2.1 HTC.out.2.2; have HG := Lib.hid (gr_trans (by first | exact HG.out | exact gr_drewN _ HG.out) h2); have HT := Lib.hid (TB.grown (by first | exact HT.out | exact HT.out.grown (gr_drewN _ (Grown.refl _))) h2); clear h1 h2))
    | (go_at_call 13; go_loud ((with_reducible refine (abs_c HRY.out _).mono ?_); rintro e1 wz ⟨q, n1, rfl, h1, rfl⟩; rw [fabs_of HRYN.out] at h1; obtain rfl := h1.eq_of HRUN.out; clear h1))
    | fail)
  go_ret
  exact ⟨rfl, by first | exact HG.out | exact gr_drewN _ HG.out⟩
theorem angleNear_fs {y x : Nat} {Y X : Rat} {w : World} (hT : TB w) (hy : Rep y y) (hx : Rep x x) (vy : V y Y) (nx : isN x = false) (vx : V x X) (h0 : 0 < ab Y + ab X) (zy : feq y 0 = false) (sm : fle (rung y) 4601130706800738304 = true) : Calls Tryd.prog 7 #[.float .f64 y, .float .f64 x] w (RetYes w) := by
  have ny := fin_notN vy.fin
  have nt := of_range hy.lt hx.lt ny nx
  have nu := of_range (x := 4607182418800017408) hy.lt (by decide) ny (by decide +kernel)
  obtain ⟨T, hT0⟩ : ∃ T, ofF y x = T := ⟨_, rfl⟩
  obtain ⟨U', hU0⟩ : ∃ U', ofF y 4607182418800017408 = U' := ⟨_, rfl⟩
  rw [hT0] at nt
  rw [hU0] at nu
  obtain ⟨tn, tr, ts, _, tl⟩ := nt
  obtain ⟨un, _, us, ur, ul⟩ := nu
  have ur' := ur (by decide +kernel)
  have rT : Rep T T := Rep.self tl (nrm_of_not tn)
  have rU : Rep U' U' := Rep.self ul (nrm_of_not un)
  obtain ⟨v1, v2, v3, v4, v5⟩ := halves
  have p1 := rT.lt' Rep.cNH
  rw [← v4, (in_bounds tn (by decide) tr).1, v4] at p1
  have p2 := rT.gt' RPH
  rw [(in_bounds tn (by decide) tr).2] at p2
  have p3 := rU.lt' RNH2
  rw [← v3, (in_bounds un (by decide) ur').1, v3] at p3
  have p4 := rU.gt' RH2
  rw [(in_bounds un (by decide) ur').2] at p4
  have p5 : ∀ W, fres .quo 13837628693406821656 4611686018427387904 W = 13833125093779451160 := fun W => by
    have h := (Rep.cNH.quo R2 (w := W))
    rw [v1] at h
    exact h.eq_of (by decide +kernel)
  have p6 : ∀ W, fres .quo 4614256656552045848 4611686018427387904 W = 4609753056924675352 := fun W => by
    have h := (RPH.quo R2 (w := W))
    rw [v2] at h
    exact h.eq_of (by decide +kernel)
  have q1 := hy.none'
  rw [ny] at q1
  have q2 := hx.none'
  rw [nx] at q2
  have q3 := hy.eq' Rep.c0
  have q4 := hx.eq' Rep.c0
  have q5 := hy.ne' Rep.c0
  have HRX := Lib.hid hx
  have HRY := Lib.hid hy
  have HRXN := Lib.hid nx
  have HRYN := Lib.hid ny
  have HRT := Lib.hid rT
  have HRU := Lib.hid rU
  have HTN := Lib.hid tn
  have HUN := Lib.hid un
  have HT0 := Lib.hid hT0
  have HU0 := Lib.hid hU0
  have HST := Lib.hid ts
  have HSU := Lib.hid us
  have HT := Lib.hid hT
  have HG := Lib.hid (Grown.refl w)
  rw [zy] at q3 q5
  have hry : Rep (rung y) (rung y) := (word_facts (fin_rung vy.fin)).2.2.2.2.2
  have HRUN : RowKit.Hid (isN (rung y) = false) := Lib.hid (word_facts (fin_rung vy.fin)).2.2.2.1
  have k1 := hry.le' (Rep.self (f := 4601130706800738304) (by decide) (by decide +kernel))
  rw [sm] at k1
  have HFY := Lib.hid vy.fin
  have HVY := Lib.hid vy
  have HV1 : RowKit.Hid (V 4607182418800017408 1) := Lib.hid V.unit1
  have yn := ab_nn Y
  have h1Y : 0 < ab (1 : Rat) + ab Y := by rw [show ab (1 : Rat) = 1 by decide +kernel]; grind
  obtain ⟨b, u1, _, u3, _, _, u6⟩ := of_ok vy V.unit1 (by rw [show ab Y + ab (1 : Rat) = ab 1 + ab Y by grind]; exact h1Y)
  rw [hU0] at u1
  have HVU := Lib.hid u1
  have HUB := Lib.hid u6
  have HUC := Lib.hid (ang_cond (p := 50) (u3 (by decide +kernel)).1 u6 (by decide +kernel) (by decide +kernel) h1Y)
  have HFX := Lib.hid vx.fin
  have HVX := Lib.hid vx
  obtain ⟨c, t1, t2, _, _, _, t6⟩ := of_ok vy vx h0
  rw [hT0] at t1
  have HVT := Lib.hid t1
  have HTB := Lib.hid t6
  have HTC := Lib.hid (ang_cond (p := 49) t2 t6 (by decide +kernel) (by decide +kernel) (by rw [show ab X + ab Y = ab Y + ab X by grind]; exact h0))
  clear t1 t2 t6 h0 vx
  have vf := vfrac (w := 4601130706800738304) (N := 53) (D := 128) (by decide) (by decide) (by decide +kernel)
  have e53 : ((53 : Nat) : Rat) / ((128 : Nat) : Rat) = 53 / 128 := by decide +kernel
  rw [e53] at vf
  have yb : ab Y ≤ 53 / 128 := by
    rw [fle_val vy.absv vf] at sm
    exact of_decide_eq_true sm
  have y0 : Y ≠ 0 := by
    intro e
    have s := vy.size
    rw [e, show ab (0 : Rat) = 0 by decide +kernel] at s
    have x := div_self_mul (mval (rung y) : Rat) UQ_ne
    rw [← s, Rat.zero_mul] at x
    have h2 : ((0 : Nat) : Rat) = (mval (rung y) : Rat) := x
    have h3 : 0 = mval (rung y) := by exact_mod_cast h2
    have h4 : rung y = 0 := by
      rcases Nat.eq_zero_or_pos (rung y) with k | k
      · exact k
      · have := mval_pos k; omega
    rw [feq_zero ny, h4] at zy
    simp at zy
  obtain ⟨v, tv1, tv2⟩ := tan_val vy yb y0
  rw [hU0] at tv1
  obtain rfl : b = sq (sgn y) (ab v) := u1.uniq tv1
  have HTA := Lib.hid (And.intro yn (And.intro yb tv2))
  have HUA : RowKit.Hid (ab (sq (sgn y) (ab v)) ≤ 1048576) := Lib.hid (Rat.le_trans u6 (by decide +kernel))
  have HYQ : RowKit.Hid (Y = sq (sgn y) (ab Y)) := Lib.hid (by have f := vy.form; rw [← vy.size] at f; exact f)
  clear vf e53 yb y0 tv1 tv2
  clear hT tn tr tl un ur ul v1 v2 v3 v4 hT0 hU0 hry sm yn h1Y u1 u3 u6 vy
  obtain ⟨wa, hwa⟩ : ∃ wa, wa = w := ⟨_, rfl⟩
  subst hwa
  go_enter Tryd.func7, Tryd.ntmps7
  go_wp2_with (first
    | (go_at_call 29; go_loud ((with_reducible refine (alive_c _).mono ?_); rintro e1 wa ⟨rfl, h2⟩; have HG := Lib.hid (gr_trans HG.out h2); have HT := Lib.hid (HT.out.grown h2); (try have HSA := Lib.hid (HSA.out.grown h2)); (try have HCC := Lib.hid (HCC.out.grown h2)); (try have HQ9 := Lib.hid (HQ9.out.grown h2)); (try have HYR := Lib.hid (HYR.out.grown h2)); clear h2))
    | (go_at_call 44; go_loud ((with_reducible refine (of_c HRX.out HRY.out _).mono ?_); rintro e1 wz ⟨r, n1, rfl, h1, rfl⟩; rw [HT0.out] at h1; obtain rfl := h1.eq_of HTN.out; clear h1; have h2 := gr_drewN n1 (Grown.refl wa); have HG := Lib.hid (gr_trans HG.out h2); have HT := Lib.hid (HT.out.grown h2); (try have HSA := Lib.hid (HSA.out.grown h2)); (try have HCC := Lib.hid (HCC.out.grown h2)); (try have HQ9 := Lib.hid (HQ9.out.grown h2)); (try have HYR := Lib.hid (HYR.out.grown h2)); generalize eW : wa.drewN n1 = wa at *; clear h2 eW))
    | (go_at_call 45; go_loud ((with_reducible refine (tan_c HRY.out _).mono ?_); rintro e1 wz ⟨r, n1, rfl, h1, rfl⟩; rw [HU0.out] at h1; obtain rfl := h1.eq_of HUN.out; clear h1; have h2 := gr_drewN n1 (Grown.refl wa); have HG := Lib.hid (gr_trans HG.out h2); have HT := Lib.hid (HT.out.grown h2); (try have HSA := Lib.hid (HSA.out.grown h2)); (try have HCC := Lib.hid (HCC.out.grown h2)); (try have HQ9 := Lib.hid (HQ9.out.grown h2)); (try have HYR := Lib.hid (HYR.out.grown h2)); generalize eW : wa.drewN n1 = wa at *; clear h2 eW))
    | (go_at_call 43; go_loud ((with_reducible refine (Pi_c _).mono ?_); rintro e1 wz ⟨r, s, n1, rfl, h1, h3, rfl⟩; obtain rfl := h1.eq_of notN_PH'; clear h1 h3; have h2 := gr_drewN n1 (Grown.refl wa); have HG := Lib.hid (gr_trans HG.out h2); have HT := Lib.hid (HT.out.grown h2); (try have HSA := Lib.hid (HSA.out.grown h2)); (try have HCC := Lib.hid (HCC.out.grown h2)); (try have HQ9 := Lib.hid (HQ9.out.grown h2)); (try have HYR := Lib.hid (HYR.out.grown h2)); generalize eW : wa.drewN n1 = wa at *; clear h2 eW))
    | (go_at_call 46; go_loud (first
        | ((with_reducible refine (signbit_c HRT.out _).mono ?_); (try rw [HST.out]); (try rw [HSU.out]); rintro e1 wz ⟨n1, rfl, rfl⟩)
        | ((with_reducible refine (signbit_c HRU.out _).mono ?_); (try rw [HST.out]); (try rw [HSU.out]); rintro e1 wz ⟨n1, rfl, rfl⟩)
        | ((with_reducible refine (signbit_c HRY.out _).mono ?_); (try rw [HST.out]); (try rw [HSU.out]); rintro e1 wz ⟨n1, rfl, rfl⟩)))
    | (go_at_call 47; go_loud (first
        | ((with_reducible refine (finite05_c HRY.out HRYN.out _).mono ?_); rw [HFY.out]; rintro e1 wz ⟨n1, rfl, rfl⟩)
        | ((with_reducible refine (finite05_c HRX.out HRXN.out _).mono ?_); rw [HFX.out]; rintro e1 wz ⟨n1, rfl, rfl⟩)))
    | (go_at_call_of 48 (Value.int IntKind.i64 50); go_loud ((with_reducible refine (angles50_c (by first | exact HT.out | exact HT.out.grown (gr_drewN _ (Grown.refl _))) HVU.out HUB.out HVY.out HV1.out).mono ?_); rintro e1 wa ⟨ok, rfl, h1, h2⟩; obtain rfl := h1 HUC.out.1 HUC.out.2.1 HUC.out.2.2; have HG := Lib.hid (gr_trans (by first | exact HG.out | exact gr_drewN _ HG.out) h2); have HT := Lib.hid (TB.grown (by first | exact HT.out | exact HT.out.grown (gr_drewN _ (Grown.refl _))) h2); (try have HSA := Lib.hid (FV.grown (by first | exact HSA.out | exact HSA.out.grown (gr_drewN _ (Grown.refl _))) h2)); (try have HCC := Lib.hid (FV.grown (by first | exact HCC.out | exact HCC.out.grown (gr_drewN _ (Grown.refl _))) h2)); (try have HQ9 := Lib.hid (FV.grown (by first | exact HQ9.out | exact HQ9.out.grown (gr_drewN _ (Grown.refl _))) h2)); (try have HYR := Lib.hid (FV.grown (by first | exact HYR.out | exact HYR.out.grown (gr_drewN _ (Grown.refl _))) h2)); clear h1 h2))
    | (go_at_call_of 48 (Value.int IntKind.i64 49); go_loud ((with_reducible refine (angles49_c (by first | exact HT.out | exact HT.out.grown (gr_drewN _ (Grown.refl _))) HVT.out HTB.out HVY.out HVX.out).mono ?_); rintro e1 wa ⟨ok, rfl, h1, h2⟩; obtain rfl := h1 HTC.out.1 HTC.out.2.1 HTC.out.2.2; have HG := Lib.hid (gr_trans (by first | exact HG.out | exact gr_drewN _ HG.out) h2); have HT := Lib.hid (TB.grown (by first | exact HT.out | exact HT.out.grown (gr_drewN _ (Grown.refl _))) h2); (try have HSA := Lib.hid (FV.grown (by first | exact HSA.out | exact HSA.out.grown (gr_drewN _ (Grown.refl _))) h2)); (try have HCC := Lib.hid (FV.grown (by first | exact HCC.out | exact HCC.out.grown (gr_drewN _ (Grown.refl _))) h2)); (try have HQ9 := Lib.hid (FV.grown (by first | exact HQ9.out | exact HQ9.out.grown (gr_drewN _ (Grown.refl _))) h2)); (try have HYR := Lib.hid (FV.grown (by first | exact HYR.out | exact HYR.out.grown (gr_drewN _ (Grown.refl _))) h2)); clear h1 h2))
    | (go_at_call 13; go_loud ((with_reducible refine (abs_c HRY.out _).mono ?_); rintro e1 wz ⟨q, n1, rfl, h1, rfl⟩; rw [fabs_of HRYN.out] at h1; obtain rfl := h1.eq_of HRUN.out; clear h1))
    | (go_at_call 33; go_loud ((with_reducible refine (turn05_c (by first | exact HT.out | exact HT.out.grown (gr_drewN _ (Grown.refl _))) HVU.out HUA.out).mono ?_); rintro e1 wa ⟨m0, y0, t1, t2, t3, t4, gs, gc, sa, ca, rfl, h1, h3, h2, z1, z2, t5⟩; have HG := Lib.hid (gr_trans (by first | exact HG.out | exact gr_drewN _ HG.out) h2); have HT := Lib.hid (TB.grown (by first | exact HT.out | exact HT.out.grown (gr_drewN _ (Grown.refl _))) h2); (try have HSA := Lib.hid (FV.grown (by first | exact HSA.out | exact HSA.out.grown (gr_drewN _ (Grown.refl _))) h2)); (try have HCC := Lib.hid (FV.grown (by first | exact HCC.out | exact HCC.out.grown (gr_drewN _ (Grown.refl _))) h2)); (try have HQ9 := Lib.hid (FV.grown (by first | exact HQ9.out | exact HQ9.out.grown (gr_drewN _ (Grown.refl _))) h2)); (try have HYR := Lib.hid (FV.grown (by first | exact HYR.out | exact HYR.out.grown (gr_drewN _ (Grown.refl _))) h2)); have HSA := Lib.hid h1; have HCC := Lib.hid h3; have Z1 := Lib.hid z1; have Z2 := Lib.hid z2; have HTL := Lib.hid (tan_law HTA.out.1 HTA.out.2.1 HTA.out.2.2 t1 t2 t3 t5); clear h1 h2 h3 z1 z2 t1 t2 t3 t4 t5))
    | (go_at_call 36; go_loud ((with_reducible refine (quo05_c (by first | exact HT.out | exact HT.out.grown (gr_drewN _ (Grown.refl _))) (by first | exact HSA.out | exact HSA.out.grown (gr_drewN _ (Grown.refl _))) (by first | exact HCC.out | exact HCC.out.grown (gr_drewN _ (Grown.refl _))) Z1.out Z2.out (by decide) (by have := HTL.out.1.1; grind)).mono ?_); rintro e1 wa ⟨q, hq, gq, rfl, h1, h2, h3⟩; have HQE := Lib.hid hq; have HZQ := Lib.hid (tan_sz Z1.out HTL.out.1.1 HTL.out.1.2 hq); have HG := Lib.hid (gr_trans (by first | exact HG.out | exact gr_drewN _ HG.out) h2); have HT := Lib.hid (TB.grown (by first | exact HT.out | exact HT.out.grown (gr_drewN _ (Grown.refl _))) h2); (try have HSA := Lib.hid (FV.grown (by first | exact HSA.out | exact HSA.out.grown (gr_drewN _ (Grown.refl _))) h2)); (try have HCC := Lib.hid (FV.grown (by first | exact HCC.out | exact HCC.out.grown (gr_drewN _ (Grown.refl _))) h2)); (try have HQ9 := Lib.hid (FV.grown (by first | exact HQ9.out | exact HQ9.out.grown (gr_drewN _ (Grown.refl _))) h2)); (try have HYR := Lib.hid (FV.grown (by first | exact HYR.out | exact HYR.out.grown (gr_drewN _ (Grown.refl _))) h2)); have HQ9 := Lib.hid h1; clear hq h1 h2 h3))
    | (go_at_call 39; go_loud ((with_reducible refine (real05_c (by first | exact HT.out | exact HT.out.grown (gr_drewN _ (Grown.refl _))) HVY.out.lt HVY.out.fin).mono ?_); rintro e1 wa ⟨gy, rfl, h1, h2, h3⟩; rw [HVY.out.val] at h1; have HG := Lib.hid (gr_trans (by first | exact HG.out | exact gr_drewN _ HG.out) h2); have HT := Lib.hid (TB.grown (by first | exact HT.out | exact HT.out.grown (gr_drewN _ (Grown.refl _))) h2); (try have HSA := Lib.hid (FV.grown (by first | exact HSA.out | exact HSA.out.grown (gr_drewN _ (Grown.refl _))) h2)); (try have HCC := Lib.hid (FV.grown (by first | exact HCC.out | exact HCC.out.grown (gr_drewN _ (Grown.refl _))) h2)); (try have HQ9 := Lib.hid (FV.grown (by first | exact HQ9.out | exact HQ9.out.grown (gr_drewN _ (Grown.refl _))) h2)); (try have HYR := Lib.hid (FV.grown (by first | exact HYR.out | exact HYR.out.grown (gr_drewN _ (Grown.refl _))) h2)); have HYR := Lib.hid h1; clear h1 h2 h3))
    | (go_at_call 34; go_loud ((with_reducible refine (near49'_c (by first | exact HT.out | exact HT.out.grown (gr_drewN _ (Grown.refl _))) HVY.out (by first | exact HQ9.out | exact HQ9.out.grown (gr_drewN _ (Grown.refl _))) HZQ.out (by first | exact HYR.out | exact HYR.out.grown (gr_drewN _ (Grown.refl _))) (HVY.out.sz.mono (by decide))).mono ?_); rintro e1 wa ⟨ok, rfl, h1, h2⟩; obtain rfl := h1 (by have := HTL.out.2 _ HQE.out; rw [← HYQ.out] at this; exact this); have HG := Lib.hid (gr_trans (by first | exact HG.out | exact gr_drewN _ HG.out) h2); have HT := Lib.hid (TB.grown (by first | exact HT.out | exact HT.out.grown (gr_drewN _ (Grown.refl _))) h2); (try have HSA := Lib.hid (FV.grown (by first | exact HSA.out | exact HSA.out.grown (gr_drewN _ (Grown.refl _))) h2)); (try have HCC := Lib.hid (FV.grown (by first | exact HCC.out | exact HCC.out.grown (gr_drewN _ (Grown.refl _))) h2)); (try have HQ9 := Lib.hid (FV.grown (by first | exact HQ9.out | exact HQ9.out.grown (gr_drewN _ (Grown.refl _))) h2)); (try have HYR := Lib.hid (FV.grown (by first | exact HYR.out | exact HYR.out.grown (gr_drewN _ (Grown.refl _))) h2)); clear h1 h2))
    | fail)
  go_ret
  exact ⟨rfl, by first | exact HG.out | exact gr_drewN _ HG.out⟩
theorem angleNear_fz {y x : Nat} {Y X : Rat} {w : World} (hT : TB w) (hy : Rep y y) (hx : Rep x x) (vy : V y Y) (nx : isN x = false) (vx : V x X) (h0 : 0 < ab Y + ab X) (zy : feq y 0 = true) (zx : feq x 0 = false) (sm : fle (rung y) 4601130706800738304 = true) : Calls Tryd.prog 7 #[.float .f64 y, .float .f64 x] w (RetYes w) := by
  have ny := fin_notN vy.fin
  have nt := of_range hy.lt hx.lt ny nx
  have nu := of_range (x := 4607182418800017408) hy.lt (by decide) ny (by decide +kernel)
  obtain ⟨T, hT0⟩ : ∃ T, ofF y x = T := ⟨_, rfl⟩
  obtain ⟨U', hU0⟩ : ∃ U', ofF y 4607182418800017408 = U' := ⟨_, rfl⟩
  rw [hT0] at nt
  rw [hU0] at nu
  obtain ⟨tn, tr, ts, _, tl⟩ := nt
  obtain ⟨un, _, us, ur, ul⟩ := nu
  have ur' := ur (by decide +kernel)
  have rT : Rep T T := Rep.self tl (nrm_of_not tn)
  have rU : Rep U' U' := Rep.self ul (nrm_of_not un)
  obtain ⟨v1, v2, v3, v4, v5⟩ := halves
  have p1 := rT.lt' Rep.cNH
  rw [← v4, (in_bounds tn (by decide) tr).1, v4] at p1
  have p2 := rT.gt' RPH
  rw [(in_bounds tn (by decide) tr).2] at p2
  have p3 := rU.lt' RNH2
  rw [← v3, (in_bounds un (by decide) ur').1, v3] at p3
  have p4 := rU.gt' RH2
  rw [(in_bounds un (by decide) ur').2] at p4
  have p5 : ∀ W, fres .quo 13837628693406821656 4611686018427387904 W = 13833125093779451160 := fun W => by
    have h := (Rep.cNH.quo R2 (w := W))
    rw [v1] at h
    exact h.eq_of (by decide +kernel)
  have p6 : ∀ W, fres .quo 4614256656552045848 4611686018427387904 W = 4609753056924675352 := fun W => by
    have h := (RPH.quo R2 (w := W))
    rw [v2] at h
    exact h.eq_of (by decide +kernel)
  have q1 := hy.none'
  rw [ny] at q1
  have q2 := hx.none'
  rw [nx] at q2
  have q3 := hy.eq' Rep.c0
  have q4 := hx.eq' Rep.c0
  have q5 := hy.ne' Rep.c0
  have HRX := Lib.hid hx
  have HRY := Lib.hid hy
  have HRXN := Lib.hid nx
  have HRYN := Lib.hid ny
  have HRT := Lib.hid rT
  have HRU := Lib.hid rU
  have HTN := Lib.hid tn
  have HUN := Lib.hid un
  have HT0 := Lib.hid hT0
  have HU0 := Lib.hid hU0
  have HST := Lib.hid ts
  have HSU := Lib.hid us
  have HT := Lib.hid hT
  have HG := Lib.hid (Grown.refl w)
  rw [zy] at q3 q5
  rw [zx] at q4
  have hry : Rep (rung y) (rung y) := (word_facts (fin_rung vy.fin)).2.2.2.2.2
  have HRUN : RowKit.Hid (isN (rung y) = false) := Lib.hid (word_facts (fin_rung vy.fin)).2.2.2.1
  have k1 := hry.le' (Rep.self (f := 4601130706800738304) (by decide) (by decide +kernel))
  rw [sm] at k1
  have HFY := Lib.hid vy.fin
  have HVY := Lib.hid vy
  have HV1 : RowKit.Hid (V 4607182418800017408 1) := Lib.hid V.unit1
  have yn := ab_nn Y
  have h1Y : 0 < ab (1 : Rat) + ab Y := by rw [show ab (1 : Rat) = 1 by decide +kernel]; grind
  obtain ⟨b, u1, _, u3, _, _, u6⟩ := of_ok vy V.unit1 (by rw [show ab Y + ab (1 : Rat) = ab 1 + ab Y by grind]; exact h1Y)
  rw [hU0] at u1
  have HVU := Lib.hid u1
  have HUB := Lib.hid u6
  have HUC := Lib.hid (ang_cond (p := 50) (u3 (by decide +kernel)).1 u6 (by decide +kernel) (by decide +kernel) h1Y)
  have HFX := Lib.hid vx.fin
  have HVX := Lib.hid vx
  obtain ⟨c, t1, t2, _, _, _, t6⟩ := of_ok vy vx h0
  rw [hT0] at t1
  have HVT := Lib.hid t1
  have HTB := Lib.hid t6
  have HTC := Lib.hid (ang_cond (p := 49) t2 t6 (by decide +kernel) (by decide +kernel) (by rw [show ab X + ab Y = ab Y + ab X by grind]; exact h0))
  clear t1 t2 t6 h0 vx
  clear hT tn tr tl un ur ul v1 v2 v3 v4 hT0 hU0 hry sm yn h1Y u1 u3 u6 vy
  obtain ⟨wa, hwa⟩ : ∃ wa, wa = w := ⟨_, rfl⟩
  subst hwa
  go_enter Tryd.func7, Tryd.ntmps7
  go_wp2_with (first
    | (go_at_call 29; go_loud ((with_reducible refine (alive_c _).mono ?_); rintro e1 wa ⟨rfl, h2⟩; have HG := Lib.hid (gr_trans HG.out h2); have HT := Lib.hid (HT.out.grown h2); clear h2))
    | (go_at_call 44; go_loud ((with_reducible refine (of_c HRX.out HRY.out _).mono ?_); rintro e1 wz ⟨r, n1, rfl, h1, rfl⟩; rw [HT0.out] at h1; obtain rfl := h1.eq_of HTN.out; clear h1; have h2 := gr_drewN n1 (Grown.refl wa); have HG := Lib.hid (gr_trans HG.out h2); have HT := Lib.hid (HT.out.grown h2); generalize eW : wa.drewN n1 = wa at *; clear h2 eW))
    | (go_at_call 45; go_loud ((with_reducible refine (tan_c HRY.out _).mono ?_); rintro e1 wz ⟨r, n1, rfl, h1, rfl⟩; rw [HU0.out] at h1; obtain rfl := h1.eq_of HUN.out; clear h1; have h2 := gr_drewN n1 (Grown.refl wa); have HG := Lib.hid (gr_trans HG.out h2); have HT := Lib.hid (HT.out.grown h2); generalize eW : wa.drewN n1 = wa at *; clear h2 eW))
    | (go_at_call 43; go_loud ((with_reducible refine (Pi_c _).mono ?_); rintro e1 wz ⟨r, s, n1, rfl, h1, h3, rfl⟩; obtain rfl := h1.eq_of notN_PH'; clear h1 h3; have h2 := gr_drewN n1 (Grown.refl wa); have HG := Lib.hid (gr_trans HG.out h2); have HT := Lib.hid (HT.out.grown h2); generalize eW : wa.drewN n1 = wa at *; clear h2 eW))
    | (go_at_call 46; go_loud (first
        | ((with_reducible refine (signbit_c HRT.out _).mono ?_); (try rw [HST.out]); (try rw [HSU.out]); rintro e1 wz ⟨n1, rfl, rfl⟩)
        | ((with_reducible refine (signbit_c HRU.out _).mono ?_); (try rw [HST.out]); (try rw [HSU.out]); rintro e1 wz ⟨n1, rfl, rfl⟩)
        | ((with_reducible refine (signbit_c HRY.out _).mono ?_); (try rw [HST.out]); (try rw [HSU.out]); rintro e1 wz ⟨n1, rfl, rfl⟩)))
    | (go_at_call 47; go_loud (first
        | ((with_reducible refine (finite05_c HRY.out HRYN.out _).mono ?_); rw [HFY.out]; rintro e1 wz ⟨n1, rfl, rfl⟩)
        | ((with_reducible refine (finite05_c HRX.out HRXN.out _).mono ?_); rw [HFX.out]; rintro e1 wz ⟨n1, rfl, rfl⟩)))
    | (go_at_call_of 48 (Value.int IntKind.i64 50); go_loud ((with_reducible refine (angles50_c (by first | exact HT.out | exact HT.out.grown (gr_drewN _ (Grown.refl _))) HVU.out HUB.out HVY.out HV1.out).mono ?_); rintro e1 wa ⟨ok, rfl, h1, h2⟩; obtain rfl := h1 HUC.out.1 HUC.out.2.1 HUC.out.2.2; have HG := Lib.hid (gr_trans (by first | exact HG.out | exact gr_drewN _ HG.out) h2); have HT := Lib.hid (TB.grown (by first | exact HT.out | exact HT.out.grown (gr_drewN _ (Grown.refl _))) h2); clear h1 h2))
    | (go_at_call_of 48 (Value.int IntKind.i64 49); go_loud ((with_reducible refine (angles49_c (by first | exact HT.out | exact HT.out.grown (gr_drewN _ (Grown.refl _))) HVT.out HTB.out HVY.out HVX.out).mono ?_); rintro e1 wa ⟨ok, rfl, h1, h2⟩; obtain rfl := h1 HTC.out.1 HTC.out.2.1 HTC.out.2.2; have HG := Lib.hid (gr_trans (by first | exact HG.out | exact gr_drewN _ HG.out) h2); have HT := Lib.hid (TB.grown (by first | exact HT.out | exact HT.out.grown (gr_drewN _ (Grown.refl _))) h2); clear h1 h2))
    | (go_at_call 13; go_loud ((with_reducible refine (abs_c HRY.out _).mono ?_); rintro e1 wz ⟨q, n1, rfl, h1, rfl⟩; rw [fabs_of HRYN.out] at h1; obtain rfl := h1.eq_of HRUN.out; clear h1))
    | fail)
  go_ret
  exact ⟨rfl, by first | exact HG.out | exact gr_drewN _ HG.out⟩
theorem angleNear_ib {y x : Nat} {Y : Rat} {w : World} (hT : TB w) (hy : Rep y y) (hx : Rep x x) (vy : V y Y) (nx : isN x = false) (fx : fin x = false) (zy : feq y 0 = false) (sm : fle (rung y) 4601130706800738304 = false) : Calls Tryd.prog 7 #[.float .f64 y, .float .f64 x] w (RetYes w) := by
  have ny := fin_notN vy.fin
  have nt := of_range hy.lt hx.lt ny nx
  have nu := of_range (x := 4607182418800017408) hy.lt (by decide) ny (by decide +kernel)
  obtain ⟨T, hT0⟩ : ∃ T, ofF y x = T := ⟨_, rfl⟩
  obtain ⟨U', hU0⟩ : ∃ U', ofF y 4607182418800017408 = U' := ⟨_, rfl⟩
  rw [hT0] at nt
  rw [hU0] at nu
  obtain ⟨tn, tr, ts, _, tl⟩ := nt
  obtain ⟨un, _, us, ur, ul⟩ := nu
  have ur' := ur (by decide +kernel)
  have rT : Rep T T := Rep.self tl (nrm_of_not tn)
  have rU : Rep U' U' := Rep.self ul (nrm_of_not un)
  obtain ⟨v1, v2, v3, v4, v5⟩ := halves
  have p1 := rT.lt' Rep.cNH
  rw [← v4, (in_bounds tn (by decide) tr).1, v4] at p1
  have p2 := rT.gt' RPH
  rw [(in_bounds tn (by decide) tr).2] at p2
  have p3 := rU.lt' RNH2
  rw [← v3, (in_bounds un (by decide) ur').1, v3] at p3
  have p4 := rU.gt' RH2
  rw [(in_bounds un (by decide) ur').2] at p4
  have p5 : ∀ W, fres .quo 13837628693406821656 4611686018427387904 W = 13833125093779451160 := fun W => by
    have h := (Rep.cNH.quo R2 (w := W))
    rw [v1] at h
    exact h.eq_of (by decide +kernel)
  have p6 : ∀ W, fres .quo 4614256656552045848 4611686018427387904 W = 4609753056924675352 := fun W => by
    have h := (RPH.quo R2 (w := W))
    rw [v2] at h
    exact h.eq_of (by decide +kernel)
  have q1 := hy.none'
  rw [ny] at q1
  have q2 := hx.none'
  rw [nx] at q2
  have q3 := hy.eq' Rep.c0
  have q4 := hx.eq' Rep.c0
  have q5 := hy.ne' Rep.c0
  have HRX := Lib.hid hx
  have HRY := Lib.hid hy
  have HRXN := Lib.hid nx
  have HRYN := Lib.hid ny
  have HRT := Lib.hid rT
  have HRU := Lib.hid rU
  have HTN := Lib.hid tn
  have HUN := Lib.hid un
  have HT0 := Lib.hid hT0
  have HU0 := Lib.hid hU0
  have HST := Lib.hid ts
  have HSU := Lib.hid us
  have HT := Lib.hid hT
  have HG := Lib.hid (Grown.refl w)
  rw [zy] at q3 q5
  have hry : Rep (rung y) (rung y) := (word_facts (fin_rung vy.fin)).2.2.2.2.2
  have HRUN : RowKit.Hid (isN (rung y) = false) := Lib.hid (word_facts (fin_rung vy.fin)).2.2.2.1
  have k1 := hry.le' (Rep.self (f := 4601130706800738304) (by decide) (by decide +kernel))
  rw [sm] at k1
  have HFY := Lib.hid vy.fin
  have HVY := Lib.hid vy
  have HV1 : RowKit.Hid (V 4607182418800017408 1) := Lib.hid V.unit1
  have yn := ab_nn Y
  have h1Y : 0 < ab (1 : Rat) + ab Y := by rw [show ab (1 : Rat) = 1 by decide +kernel]; grind
  obtain ⟨b, u1, _, u3, _, _, u6⟩ := of_ok vy V.unit1 (by rw [show ab Y + ab (1 : Rat) = ab 1 + ab Y by grind]; exact h1Y)
  rw [hU0] at u1
  have HVU := Lib.hid u1
  have HUB := Lib.hid u6
  have HUC := Lib.hid (ang_cond (p := 50) (u3 (by decide +kernel)).1 u6 (by decide +kernel) (by decide +kernel) h1Y)
  have HFX := Lib.hid fx
  clear hT tn tr tl un ur ul v1 v2 v3 v4 hT0 hU0 hry sm yn h1Y u1 u3 u6 vy
  obtain ⟨wa, hwa⟩ : ∃ wa, wa = w := ⟨_, rfl⟩
  subst hwa
  go_enter Tryd.func7, Tryd.ntmps7
  go_wp2_with (first
    | (go_at_call 29; go_loud ((with_reducible refine (alive_c _).mono ?_); rintro e1 wa ⟨rfl, h2⟩; have HG := Lib.hid (gr_trans HG.out h2); have HT := Lib.hid (HT.out.grown h2); clear h2))
    | (go_at_call 44; go_loud ((with_reducible refine (of_c HRX.out HRY.out _).mono ?_); rintro e1 wz ⟨r, n1, rfl, h1, rfl⟩; rw [HT0.out] at h1; obtain rfl := h1.eq_of HTN.out; clear h1; have h2 := gr_drewN n1 (Grown.refl wa); have HG := Lib.hid (gr_trans HG.out h2); have HT := Lib.hid (HT.out.grown h2); generalize eW : wa.drewN n1 = wa at *; clear h2 eW))
    | (go_at_call 45; go_loud ((with_reducible refine (tan_c HRY.out _).mono ?_); rintro e1 wz ⟨r, n1, rfl, h1, rfl⟩; rw [HU0.out] at h1; obtain rfl := h1.eq_of HUN.out; clear h1; have h2 := gr_drewN n1 (Grown.refl wa); have HG := Lib.hid (gr_trans HG.out h2); have HT := Lib.hid (HT.out.grown h2); generalize eW : wa.drewN n1 = wa at *; clear h2 eW))
    | (go_at_call 43; go_loud ((with_reducible refine (Pi_c _).mono ?_); rintro e1 wz ⟨r, s, n1, rfl, h1, h3, rfl⟩; obtain rfl := h1.eq_of notN_PH'; clear h1 h3; have h2 := gr_drewN n1 (Grown.refl wa); have HG := Lib.hid (gr_trans HG.out h2); have HT := Lib.hid (HT.out.grown h2); generalize eW : wa.drewN n1 = wa at *; clear h2 eW))
    | (go_at_call 46; go_loud (first
        | ((with_reducible refine (signbit_c HRT.out _).mono ?_); (try rw [HST.out]); (try rw [HSU.out]); rintro e1 wz ⟨n1, rfl, rfl⟩)
        | ((with_reducible refine (signbit_c HRU.out _).mono ?_); (try rw [HST.out]); (try rw [HSU.out]); rintro e1 wz ⟨n1, rfl, rfl⟩)
        | ((with_reducible refine (signbit_c HRY.out _).mono ?_); (try rw [HST.out]); (try rw [HSU.out]); rintro e1 wz ⟨n1, rfl, rfl⟩)))
    | (go_at_call 47; go_loud (first
        | ((with_reducible refine (finite05_c HRY.out HRYN.out _).mono ?_); rw [HFY.out]; rintro e1 wz ⟨n1, rfl, rfl⟩)
        | ((with_reducible refine (finite05_c HRX.out HRXN.out _).mono ?_); rw [HFX.out]; rintro e1 wz ⟨n1, rfl, rfl⟩)))
    | (go_at_call_of 48 (Value.int IntKind.i64 50); go_loud ((with_reducible refine (angles50_c (by first | exact HT.out | exact HT.out.grown (gr_drewN _ (Grown.refl _))) HVU.out HUB.out HVY.out HV1.out).mono ?_); rintro e1 wa ⟨ok, rfl, h1, h2⟩; obtain rfl := h1 HUC.out.1 HUC.out.2.1 HUC.out.2.2; have HG := Lib.hid (gr_trans (by first | exact HG.out | exact gr_drewN _ HG.out) h2); have HT := Lib.hid (TB.grown (by first | exact HT.out | exact HT.out.grown (gr_drewN _ (Grown.refl _))) h2); clear h1 h2))
    | (go_at_call 13; go_loud ((with_reducible refine (abs_c HRY.out _).mono ?_); rintro e1 wz ⟨q, n1, rfl, h1, rfl⟩; rw [fabs_of HRYN.out] at h1; obtain rfl := h1.eq_of HRUN.out; clear h1))
    | fail)
  go_ret
  exact ⟨rfl, by first | exact HG.out | exact gr_drewN _ HG.out⟩
theorem angleNear_is {y x : Nat} {Y : Rat} {w : World} (hT : TB w) (hy : Rep y y) (hx : Rep x x) (vy : V y Y) (nx : isN x = false) (fx : fin x = false) (zy : feq y 0 = false) (sm : fle (rung y) 4601130706800738304 = true) : Calls Tryd.prog 7 #[.float .f64 y, .float .f64 x] w (RetYes w) := by
  have ny := fin_notN vy.fin
  have nt := of_range hy.lt hx.lt ny nx
  have nu := of_range (x := 4607182418800017408) hy.lt (by decide) ny (by decide +kernel)
  obtain ⟨T, hT0⟩ : ∃ T, ofF y x = T := ⟨_, rfl⟩
  obtain ⟨U', hU0⟩ : ∃ U', ofF y 4607182418800017408 = U' := ⟨_, rfl⟩
  rw [hT0] at nt
  rw [hU0] at nu
  obtain ⟨tn, tr, ts, _, tl⟩ := nt
  obtain ⟨un, _, us, ur, ul⟩ := nu
  have ur' := ur (by decide +kernel)
  have rT : Rep T T := Rep.self tl (nrm_of_not tn)
  have rU : Rep U' U' := Rep.self ul (nrm_of_not un)
  obtain ⟨v1, v2, v3, v4, v5⟩ := halves
  have p1 := rT.lt' Rep.cNH
  rw [← v4, (in_bounds tn (by decide) tr).1, v4] at p1
  have p2 := rT.gt' RPH
  rw [(in_bounds tn (by decide) tr).2] at p2
  have p3 := rU.lt' RNH2
  rw [← v3, (in_bounds un (by decide) ur').1, v3] at p3
  have p4 := rU.gt' RH2
  rw [(in_bounds un (by decide) ur').2] at p4
  have p5 : ∀ W, fres .quo 13837628693406821656 4611686018427387904 W = 13833125093779451160 := fun W => by
    have h := (Rep.cNH.quo R2 (w := W))
    rw [v1] at h
    exact h.eq_of (by decide +kernel)
  have p6 : ∀ W, fres .quo 4614256656552045848 4611686018427387904 W = 4609753056924675352 := fun W => by
    have h := (RPH.quo R2 (w := W))
    rw [v2] at h
    exact h.eq_of (by decide +kernel)
  have q1 := hy.none'
  rw [ny] at q1
  have q2 := hx.none'
  rw [nx] at q2
  have q3 := hy.eq' Rep.c0
  have q4 := hx.eq' Rep.c0
  have q5 := hy.ne' Rep.c0
  have HRX := Lib.hid hx
  have HRY := Lib.hid hy
  have HRXN := Lib.hid nx
  have HRYN := Lib.hid ny
  have HRT := Lib.hid rT
  have HRU := Lib.hid rU
  have HTN := Lib.hid tn
  have HUN := Lib.hid un
  have HT0 := Lib.hid hT0
  have HU0 := Lib.hid hU0
  have HST := Lib.hid ts
  have HSU := Lib.hid us
  have HT := Lib.hid hT
  have HG := Lib.hid (Grown.refl w)
  rw [zy] at q3 q5
  have hry : Rep (rung y) (rung y) := (word_facts (fin_rung vy.fin)).2.2.2.2.2
  have HRUN : RowKit.Hid (isN (rung y) = false) := Lib.hid (word_facts (fin_rung vy.fin)).2.2.2.1
  have k1 := hry.le' (Rep.self (f := 4601130706800738304) (by decide) (by decide +kernel))
  rw [sm] at k1
  have HFY := Lib.hid vy.fin
  have HVY := Lib.hid vy
  have HV1 : RowKit.Hid (V 4607182418800017408 1) := Lib.hid V.unit1
  have yn := ab_nn Y
  have h1Y : 0 < ab (1 : Rat) + ab Y := by rw [show ab (1 : Rat) = 1 by decide +kernel]; grind
  obtain ⟨b, u1, _, u3, _, _, u6⟩ := of_ok vy V.unit1 (by rw [show ab Y + ab (1 : Rat) = ab 1 + ab Y by grind]; exact h1Y)
  rw [hU0] at u1
  have HVU := Lib.hid u1
  have HUB := Lib.hid u6
  have HUC := Lib.hid (ang_cond (p := 50) (u3 (by decide +kernel)).1 u6 (by decide +kernel) (by decide +kernel) h1Y)
  have HFX := Lib.hid fx
  have vf := vfrac (w := 4601130706800738304) (N := 53) (D := 128) (by decide) (by decide) (by decide +kernel)
  have e53 : ((53 : Nat) : Rat) / ((128 : Nat) : Rat) = 53 / 128 := by decide +kernel
  rw [e53] at vf
  have yb : ab Y ≤ 53 / 128 := by
    rw [fle_val vy.absv vf] at sm
    exact of_decide_eq_true sm
  have y0 : Y ≠ 0 := by
    intro e
    have s := vy.size
    rw [e, show ab (0 : Rat) = 0 by decide +kernel] at s
    have x := div_self_mul (mval (rung y) : Rat) UQ_ne
    rw [← s, Rat.zero_mul] at x
    have h2 : ((0 : Nat) : Rat) = (mval (rung y) : Rat) := x
    have h3 : 0 = mval (rung y) := by exact_mod_cast h2
    have h4 : rung y = 0 := by
      rcases Nat.eq_zero_or_pos (rung y) with k | k
      · exact k
      · have := mval_pos k; omega
    rw [feq_zero ny, h4] at zy
    simp at zy
  obtain ⟨v, tv1, tv2⟩ := tan_val vy yb y0
  rw [hU0] at tv1
  obtain rfl : b = sq (sgn y) (ab v) := u1.uniq tv1
  have HTA := Lib.hid (And.intro yn (And.intro yb tv2))
  have HUA : RowKit.Hid (ab (sq (sgn y) (ab v)) ≤ 1048576) := Lib.hid (Rat.le_trans u6 (by decide +kernel))
  have HYQ : RowKit.Hid (Y = sq (sgn y) (ab Y)) := Lib.hid (by have f := vy.form; rw [← vy.size] at f; exact f)
  clear vf e53 yb y0 tv1 tv2
  clear hT tn tr tl un ur ul v1 v2 v3 v4 hT0 hU0 hry sm yn h1Y u1 u3 u6 vy
  obtain ⟨wa, hwa⟩ : ∃ wa, wa = w := ⟨_, rfl⟩
  subst hwa
  go_enter Tryd.func7, Tryd.ntmps7
  go_wp2_with (first
    | (go_at_call 29; go_loud ((with_reducible refine (alive_c _).mono ?_); rintro e1 wa ⟨rfl, h2⟩; have HG := Lib.hid (gr_trans HG.out h2); have HT := Lib.hid (HT.out.grown h2); (try have HSA := Lib.hid (HSA.out.grown h2)); (try have HCC := Lib.hid (HCC.out.grown h2)); (try have HQ9 := Lib.hid (HQ9.out.grown h2)); (try have HYR := Lib.hid (HYR.out.grown h2)); clear h2))
    | (go_at_call 44; go_loud ((with_reducible refine (of_c HRX.out HRY.out _).mono ?_); rintro e1 wz ⟨r, n1, rfl, h1, rfl⟩; rw [HT0.out] at h1; obtain rfl := h1.eq_of HTN.out; clear h1; have h2 := gr_drewN n1 (Grown.refl wa); have HG := Lib.hid (gr_trans HG.out h2); have HT := Lib.hid (HT.out.grown h2); (try have HSA := Lib.hid (HSA.out.grown h2)); (try have HCC := Lib.hid (HCC.out.grown h2)); (try have HQ9 := Lib.hid (HQ9.out.grown h2)); (try have HYR := Lib.hid (HYR.out.grown h2)); generalize eW : wa.drewN n1 = wa at *; clear h2 eW))
    | (go_at_call 45; go_loud ((with_reducible refine (tan_c HRY.out _).mono ?_); rintro e1 wz ⟨r, n1, rfl, h1, rfl⟩; rw [HU0.out] at h1; obtain rfl := h1.eq_of HUN.out; clear h1; have h2 := gr_drewN n1 (Grown.refl wa); have HG := Lib.hid (gr_trans HG.out h2); have HT := Lib.hid (HT.out.grown h2); (try have HSA := Lib.hid (HSA.out.grown h2)); (try have HCC := Lib.hid (HCC.out.grown h2)); (try have HQ9 := Lib.hid (HQ9.out.grown h2)); (try have HYR := Lib.hid (HYR.out.grown h2)); generalize eW : wa.drewN n1 = wa at *; clear h2 eW))
    | (go_at_call 43; go_loud ((with_reducible refine (Pi_c _).mono ?_); rintro e1 wz ⟨r, s, n1, rfl, h1, h3, rfl⟩; obtain rfl := h1.eq_of notN_PH'; clear h1 h3; have h2 := gr_drewN n1 (Grown.refl wa); have HG := Lib.hid (gr_trans HG.out h2); have HT := Lib.hid (HT.out.grown h2); (try have HSA := Lib.hid (HSA.out.grown h2)); (try have HCC := Lib.hid (HCC.out.grown h2)); (try have HQ9 := Lib.hid (HQ9.out.grown h2)); (try have HYR := Lib.hid (HYR.out.grown h2)); generalize eW : wa.drewN n1 = wa at *; clear h2 eW))
    | (go_at_call 46; go_loud (first
        | ((with_reducible refine (signbit_c HRT.out _).mono ?_); (try rw [HST.out]); (try rw [HSU.out]); rintro e1 wz ⟨n1, rfl, rfl⟩)
        | ((with_reducible refine (signbit_c HRU.out _).mono ?_); (try rw [HST.out]); (try rw [HSU.out]); rintro e1 wz ⟨n1, rfl, rfl⟩)
        | ((with_reducible refine (signbit_c HRY.out _).mono ?_); (try rw [HST.out]); (try rw [HSU.out]); rintro e1 wz ⟨n1, rfl, rfl⟩)))
    | (go_at_call 47; go_loud (first
        | ((with_reducible refine (finite05_c HRY.out HRYN.out _).mono ?_); rw [HFY.out]; rintro e1 wz ⟨n1, rfl, rfl⟩)
        | ((with_reducible refine (finite05_c HRX.out HRXN.out _).mono ?_); rw [HFX.out]; rintro e1 wz ⟨n1, rfl, rfl⟩)))
    | (go_at_call_of 48 (Value.int IntKind.i64 50); go_loud ((with_reducible refine (angles50_c (by first | exact HT.out | exact HT.out.grown (gr_drewN _ (Grown.refl _))) HVU.out HUB.out HVY.out HV1.out).mono ?_); rintro e1 wa ⟨ok, rfl, h1, h2⟩; obtain rfl := h1 HUC.out.1 HUC.out.2.1 HUC.out.2.2; have HG := Lib.hid (gr_trans (by first | exact HG.out | exact gr_drewN _ HG.out) h2); have HT := Lib.hid (TB.grown (by first | exact HT.out | exact HT.out.grown (gr_drewN _ (Grown.refl _))) h2); (try have HSA := Lib.hid (FV.grown (by first | exact HSA.out | exact HSA.out.grown (gr_drewN _ (Grown.refl _))) h2)); (try have HCC := Lib.hid (FV.grown (by first | exact HCC.out | exact HCC.out.grown (gr_drewN _ (Grown.refl _))) h2)); (try have HQ9 := Lib.hid (FV.grown (by first | exact HQ9.out | exact HQ9.out.grown (gr_drewN _ (Grown.refl _))) h2)); (try have HYR := Lib.hid (FV.grown (by first | exact HYR.out | exact HYR.out.grown (gr_drewN _ (Grown.refl _))) h2)); clear h1 h2))
    | (go_at_call 13; go_loud ((with_reducible refine (abs_c HRY.out _).mono ?_); rintro e1 wz ⟨q, n1, rfl, h1, rfl⟩; rw [fabs_of HRYN.out] at h1; obtain rfl := h1.eq_of HRUN.out; clear h1))
    | (go_at_call 33; go_loud ((with_reducible refine (turn05_c (by first | exact HT.out | exact HT.out.grown (gr_drewN _ (Grown.refl _))) HVU.out HUA.out).mono ?_); rintro e1 wa ⟨m0, y0, t1, t2, t3, t4, gs, gc, sa, ca, rfl, h1, h3, h2, z1, z2, t5⟩; have HG := Lib.hid (gr_trans (by first | exact HG.out | exact gr_drewN _ HG.out) h2); have HT := Lib.hid (TB.grown (by first | exact HT.out | exact HT.out.grown (gr_drewN _ (Grown.refl _))) h2); (try have HSA := Lib.hid (FV.grown (by first | exact HSA.out | exact HSA.out.grown (gr_drewN _ (Grown.refl _))) h2)); (try have HCC := Lib.hid (FV.grown (by first | exact HCC.out | exact HCC.out.grown (gr_drewN _ (Grown.refl _))) h2)); (try have HQ9 := Lib.hid (FV.grown (by first | exact HQ9.out | exact HQ9.out.grown (gr_drewN _ (Grown.refl _))) h2)); (try have HYR := Lib.hid (FV.grown (by first | exact HYR.out | exact HYR.out.grown (gr_drewN _ (Grown.refl _))) h2)); have HSA := Lib.hid h1; have HCC := Lib.hid h3; have Z1 := Lib.hid z1; have Z2 := Lib.hid z2; have HTL := Lib.hid (tan_law HTA.out.1 HTA.out.2.1 HTA.out.2.2 t1 t2 t3 t5); clear h1 h2 h3 z1 z2 t1 t2 t3 t4 t5))
    | (go_at_call 36; go_loud ((with_reducible refine (quo05_c (by first | exact HT.out | exact HT.out.grown (gr_drewN _ (Grown.refl _))) (by first | exact HSA.out | exact HSA.out.grown (gr_drewN _ (Grown.refl _))) (by first | exact HCC.out | exact HCC.out.grown (gr_drewN _ (Grown.refl _))) Z1.out Z2.out (by decide) (by have := HTL.out.1.1; grind)).mono ?_); rintro e1 wa ⟨q, hq, gq, rfl, h1, h2, h3⟩; have HQE := Lib.hid hq; have HZQ := Lib.hid (tan_sz Z1.out HTL.out.1.1 HTL.out.1.2 hq); have HG := Lib.hid (gr_trans (by first | exact HG.out | exact gr_drewN _ HG.out) h2); have HT := Lib.hid (TB.grown (by first | exact HT.out | exact HT.out.grown (gr_drewN _ (Grown.refl _))) h2); (try have HSA := Lib.hid (FV.grown (by first | exact HSA.out | exact HSA.out.grown (gr_drewN _ (Grown.refl _))) h2)); (try have HCC := Lib.hid (FV.grown (by first | exact HCC.out | exact HCC.out.grown (gr_drewN _ (Grown.refl _))) h2)); (try have HQ9 := Lib.hid (FV.grown (by first | exact HQ9.out | exact HQ9.out.grown (gr_drewN _ (Grown.refl _))) h2)); (try have HYR := Lib.hid (FV.grown (by first | exact HYR.out | exact HYR.out.grown (gr_drewN _ (Grown.refl _))) h2)); have HQ9 := Lib.hid h1; clear hq h1 h2 h3))
    | (go_at_call 39; go_loud ((with_reducible refine (real05_c (by first | exact HT.out | exact HT.out.grown (gr_drewN _ (Grown.refl _))) HVY.out.lt HVY.out.fin).mono ?_); rintro e1 wa ⟨gy, rfl, h1, h2, h3⟩; rw [HVY.out.val] at h1; have HG := Lib.hid (gr_trans (by first | exact HG.out | exact gr_drewN _ HG.out) h2); have HT := Lib.hid (TB.grown (by first | exact HT.out | exact HT.out.grown (gr_drewN _ (Grown.refl _))) h2); (try have HSA := Lib.hid (FV.grown (by first | exact HSA.out | exact HSA.out.grown (gr_drewN _ (Grown.refl _))) h2)); (try have HCC := Lib.hid (FV.grown (by first | exact HCC.out | exact HCC.out.grown (gr_drewN _ (Grown.refl _))) h2)); (try have HQ9 := Lib.hid (FV.grown (by first | exact HQ9.out | exact HQ9.out.grown (gr_drewN _ (Grown.refl _))) h2)); (try have HYR := Lib.hid (FV.grown (by first | exact HYR.out | exact HYR.out.grown (gr_drewN _ (Grown.refl _))) h2)); have HYR := Lib.hid h1; clear h1 h2 h3))
    | (go_at_call 34; go_loud ((with_reducible refine (near49'_c (by first | exact HT.out | exact HT.out.grown (gr_drewN _ (Grown.refl _))) HVY.out (by first | exact HQ9.out | exact HQ9.out.grown (gr_drewN _ (Grown.refl _))) HZQ.out (by first | exact HYR.out | exact HYR.out.grown (gr_drewN _ (Grown.refl _))) (HVY.out.sz.mono (by decide))).mono ?_); rintro e1 wa ⟨ok, rfl, h1, h2⟩; obtain rfl := h1 (by have := HTL.out.2 _ HQE.out; rw [← HYQ.out] at this; exact this); have HG := Lib.hid (gr_trans (by first | exact HG.out | exact gr_drewN _ HG.out) h2); have HT := Lib.hid (TB.grown (by first | exact HT.out | exact HT.out.grown (gr_drewN _ (Grown.refl _))) h2); (try have HSA := Lib.hid (FV.grown (by first | exact HSA.out | exact HSA.out.grown (gr_drewN _ (Grown.refl _))) h2)); (try have HCC := Lib.hid (FV.grown (by first | exact HCC.out | exact HCC.out.grown (gr_drewN _ (Grown.refl _))) h2)); (try have HQ9 := Lib.hid (FV.grown (by first | exact HQ9.out | exact HQ9.out.grown (gr_drewN _ (Grown.refl _))) h2)); (try have HYR := Lib.hid (FV.grown (by first | exact HYR.out | exact HYR.out.grown (gr_drewN _ (Grown.refl _))) h2)); clear h1 h2))
    | fail)
  go_ret
  exact ⟨rfl, by first | exact HG.out | exact gr_drewN _ HG.out⟩
theorem angleNear_iz {y x : Nat} {Y : Rat} {w : World} (hT : TB w) (hy : Rep y y) (hx : Rep x x) (vy : V y Y) (nx : isN x = false) (fx : fin x = false) (zy : feq y 0 = true) (zx : feq x 0 = false) (sm : fle (rung y) 4601130706800738304 = true) : Calls Tryd.prog 7 #[.float .f64 y, .float .f64 x] w (RetYes w) := by
  have ny := fin_notN vy.fin
  have nt := of_range hy.lt hx.lt ny nx
  have nu := of_range (x := 4607182418800017408) hy.lt (by decide) ny (by decide +kernel)
  obtain ⟨T, hT0⟩ : ∃ T, ofF y x = T := ⟨_, rfl⟩
  obtain ⟨U', hU0⟩ : ∃ U', ofF y 4607182418800017408 = U' := ⟨_, rfl⟩
  rw [hT0] at nt
  rw [hU0] at nu
  obtain ⟨tn, tr, ts, _, tl⟩ := nt
  obtain ⟨un, _, us, ur, ul⟩ := nu
  have ur' := ur (by decide +kernel)
  have rT : Rep T T := Rep.self tl (nrm_of_not tn)
  have rU : Rep U' U' := Rep.self ul (nrm_of_not un)
  obtain ⟨v1, v2, v3, v4, v5⟩ := halves
  have p1 := rT.lt' Rep.cNH
  rw [← v4, (in_bounds tn (by decide) tr).1, v4] at p1
  have p2 := rT.gt' RPH
  rw [(in_bounds tn (by decide) tr).2] at p2
  have p3 := rU.lt' RNH2
  rw [← v3, (in_bounds un (by decide) ur').1, v3] at p3
  have p4 := rU.gt' RH2
  rw [(in_bounds un (by decide) ur').2] at p4
  have p5 : ∀ W, fres .quo 13837628693406821656 4611686018427387904 W = 13833125093779451160 := fun W => by
    have h := (Rep.cNH.quo R2 (w := W))
    rw [v1] at h
    exact h.eq_of (by decide +kernel)
  have p6 : ∀ W, fres .quo 4614256656552045848 4611686018427387904 W = 4609753056924675352 := fun W => by
    have h := (RPH.quo R2 (w := W))
    rw [v2] at h
    exact h.eq_of (by decide +kernel)
  have q1 := hy.none'
  rw [ny] at q1
  have q2 := hx.none'
  rw [nx] at q2
  have q3 := hy.eq' Rep.c0
  have q4 := hx.eq' Rep.c0
  have q5 := hy.ne' Rep.c0
  have HRX := Lib.hid hx
  have HRY := Lib.hid hy
  have HRXN := Lib.hid nx
  have HRYN := Lib.hid ny
  have HRT := Lib.hid rT
  have HRU := Lib.hid rU
  have HTN := Lib.hid tn
  have HUN := Lib.hid un
  have HT0 := Lib.hid hT0
  have HU0 := Lib.hid hU0
  have HST := Lib.hid ts
  have HSU := Lib.hid us
  have HT := Lib.hid hT
  have HG := Lib.hid (Grown.refl w)
  rw [zy] at q3 q5
  rw [zx] at q4
  have hry : Rep (rung y) (rung y) := (word_facts (fin_rung vy.fin)).2.2.2.2.2
  have HRUN : RowKit.Hid (isN (rung y) = false) := Lib.hid (word_facts (fin_rung vy.fin)).2.2.2.1
  have k1 := hry.le' (Rep.self (f := 4601130706800738304) (by decide) (by decide +kernel))
  rw [sm] at k1
  have HFY := Lib.hid vy.fin
  have HVY := Lib.hid vy
  have HV1 : RowKit.Hid (V 4607182418800017408 1) := Lib.hid V.unit1
  have yn := ab_nn Y
  have h1Y : 0 < ab (1 : Rat) + ab Y := by rw [show ab (1 : Rat) = 1 by decide +kernel]; grind
  obtain ⟨b, u1, _, u3, _, _, u6⟩ := of_ok vy V.unit1 (by rw [show ab Y + ab (1 : Rat) = ab 1 + ab Y by grind]; exact h1Y)
  rw [hU0] at u1
  have HVU := Lib.hid u1
  have HUB := Lib.hid u6
  have HUC := Lib.hid (ang_cond (p := 50) (u3 (by decide +kernel)).1 u6 (by decide +kernel) (by decide +kernel) h1Y)
  have HFX := Lib.hid fx
  clear hT tn tr tl un ur ul v1 v2 v3 v4 hT0 hU0 hry sm yn h1Y u1 u3 u6 vy
  obtain ⟨wa, hwa⟩ : ∃ wa, wa = w := ⟨_, rfl⟩
  subst hwa
  go_enter Tryd.func7, Tryd.ntmps7
  go_wp2_with (first
    | (go_at_call 29; go_loud ((with_reducible refine (alive_c _).mono ?_); rintro e1 wa ⟨rfl, h2⟩; have HG := Lib.hid (gr_trans HG.out h2); have HT := Lib.hid (HT.out.grown h2); clear h2))
    | (go_at_call 44; go_loud ((with_reducible refine (of_c HRX.out HRY.out _).mono ?_); rintro e1 wz ⟨r, n1, rfl, h1, rfl⟩; rw [HT0.out] at h1; obtain rfl := h1.eq_of HTN.out; clear h1; have h2 := gr_drewN n1 (Grown.refl wa); have HG := Lib.hid (gr_trans HG.out h2); have HT := Lib.hid (HT.out.grown h2); generalize eW : wa.drewN n1 = wa at *; clear h2 eW))
    | (go_at_call 45; go_loud ((with_reducible refine (tan_c HRY.out _).mono ?_); rintro e1 wz ⟨r, n1, rfl, h1, rfl⟩; rw [HU0.out] at h1; obtain rfl := h1.eq_of HUN.out; clear h1; have h2 := gr_drewN n1 (Grown.refl wa); have HG := Lib.hid (gr_trans HG.out h2); have HT := Lib.hid (HT.out.grown h2); generalize eW : wa.drewN n1 = wa at *; clear h2 eW))
    | (go_at_call 43; go_loud ((with_reducible refine (Pi_c _).mono ?_); rintro e1 wz ⟨r, s, n1, rfl, h1, h3, rfl⟩; obtain rfl := h1.eq_of notN_PH'; clear h1 h3; have h2 := gr_drewN n1 (Grown.refl wa); have HG := Lib.hid (gr_trans HG.out h2); have HT := Lib.hid (HT.out.grown h2); generalize eW : wa.drewN n1 = wa at *; clear h2 eW))
    | (go_at_call 46; go_loud (first
        | ((with_reducible refine (signbit_c HRT.out _).mono ?_); (try rw [HST.out]); (try rw [HSU.out]); rintro e1 wz ⟨n1, rfl, rfl⟩)
        | ((with_reducible refine (signbit_c HRU.out _).mono ?_); (try rw [HST.out]); (try rw [HSU.out]); rintro e1 wz ⟨n1, rfl, rfl⟩)
        | ((with_reducible refine (signbit_c HRY.out _).mono ?_); (try rw [HST.out]); (try rw [HSU.out]); rintro e1 wz ⟨n1, rfl, rfl⟩)))
    | (go_at_call 47; go_loud (first
        | ((with_reducible refine (finite05_c HRY.out HRYN.out _).mono ?_); rw [HFY.out]; rintro e1 wz ⟨n1, rfl, rfl⟩)
        | ((with_reducible refine (finite05_c HRX.out HRXN.out _).mono ?_); rw [HFX.out]; rintro e1 wz ⟨n1, rfl, rfl⟩)))
    | (go_at_call_of 48 (Value.int IntKind.i64 50); go_loud ((with_reducible refine (angles50_c (by first | exact HT.out | exact HT.out.grown (gr_drewN _ (Grown.refl _))) HVU.out HUB.out HVY.out HV1.out).mono ?_); rintro e1 wa ⟨ok, rfl, h1, h2⟩; obtain rfl := h1 HUC.out.1 HUC.out.2.1 HUC.out.2.2; have HG := Lib.hid (gr_trans (by first | exact HG.out | exact gr_drewN _ HG.out) h2); have HT := Lib.hid (TB.grown (by first | exact HT.out | exact HT.out.grown (gr_drewN _ (Grown.refl _))) h2); clear h1 h2))
    | (go_at_call 13; go_loud ((with_reducible refine (abs_c HRY.out _).mono ?_); rintro e1 wz ⟨q, n1, rfl, h1, rfl⟩; rw [fabs_of HRYN.out] at h1; obtain rfl := h1.eq_of HRUN.out; clear h1))
    | fail)
  go_ret
  exact ⟨rfl, by first | exact HG.out | exact gr_drewN _ HG.out⟩
theorem pos_ab {z : Nat} {Z : Rat} (hz : V z Z) (h : rung z ≠ 0) : 0 < ab Z := by
  rw [hz.size]
  have m := mval_pos (show 0 < rung z by omega)
  have c := cast_le.2 (show 1 ≤ mval (rung z) by omega)
  have e1 : ((1 : Nat) : Rat) = 1 := rfl
  rw [e1] at c
  have U0 := UQ_pos
  have x := div_self_mul (mval (rung z) : Rat) UQ_ne
  have l0 : 0 ≤ (mval (rung z) : Rat) / (U : Rat) := by rw [le_div U0]; grind
  rcases (show (mval (rung z) : Rat) / (U : Rat) = 0 ∨ 0 < (mval (rung z) : Rat) / (U : Rat) by grind) with q | q
  · rw [q, Rat.zero_mul] at x; grind
  · exact q
theorem angleNear_c {y x : Nat} {w : World} (hT : TB w) (ly : y < 18446744073709551616) (lx : x < 18446744073709551616) : Calls Tryd.prog 7 #[.float .f64 y, .float .f64 x] w (RetYes w) := by
  have hy : Rep y (nrm y) := ⟨ly, rfl⟩
  have hx : Rep x (nrm x) := ⟨lx, rfl⟩
  cases n1 : isN (nrm y)
  · cases n2 : isN (nrm x)
    · have e1 := hy.eq_of n1
      have e2 := hx.eq_of n2
      rw [← e1] at hy n1
      rw [← e2] at hx n2
      cases fy : fin y
      · refine angleNear_inf hT hy hx n1 n2 fy ?_
        rw [feq_zero n1]
        refine decide_eq_false ?_
        intro h
        have := of_decide_eq_false (show decide (rung y < 9218868437227405312) = false from fy)
        omega
      · have vy := V.of ly fy
        cases zy : feq y 0
        · have r0 : rung y ≠ 0 := by rw [feq_zero n1] at zy; exact of_decide_eq_false zy
          have p := pos_ab vy r0
          cases sm : fle (rung y) 4601130706800738304
          · cases fx : fin x
            · exact angleNear_ib hT hy hx vy n2 fx zy sm
            · exact angleNear_fb hT hy hx vy n2 (V.of lx fx) (by have := ab_nn (qv x); grind) zy sm
          · cases fx : fin x
            · exact angleNear_is hT hy hx vy n2 fx zy sm
            · exact angleNear_fs hT hy hx vy n2 (V.of lx fx) (by have := ab_nn (qv x); grind) zy sm
        · cases zx : feq x 0
          · have r0 : rung y = 0 := by rw [feq_zero n1] at zy; exact of_decide_eq_true zy
            have r1 : rung x ≠ 0 := by rw [feq_zero n2] at zx; exact of_decide_eq_false zx
            have sm : fle (rung y) 4601130706800738304 = true := by rw [r0]; decide +kernel
            cases fx : fin x
            · exact angleNear_iz hT hy hx vy n2 fx zy zx sm
            · have vx := V.of lx fx
              have p := pos_ab vx r1
              exact angleNear_fz hT hy hx vy n2 vx (by have := ab_nn (qv y); grind) zy zx sm
          · exact angleNear_zero hT hy hx n1 n2 zy zx
    · exact angleNear_nanx hT hy hx ⟨n1, n2⟩
  · exact angleNear_nany hT hy hx n1
end Go.Proofs.YtcfkhhnkboealaaDoor
