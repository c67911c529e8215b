/- RootTrue holds: for every input the law returns true and every argument reads as before. No condition. -/
import Derived.Test.YtcfkhhnkboealaaRows
import Derived.Test.YtcfkhhnkboealaaRts
import Derived.Test.YtcfkhhnkboealaaAwp
import Derived.WalkKit
import Derived.Lib.SmallJoins
import Derived.ProofKit
import Derived.OpenShut
import Derived.ShutString
namespace Go.Proofs.Ytcfkhhnkboealaa.rootTrue
open Go.ChangeShapes Go.WideShapes Go.ChangeAt Go.RowKit
open Go.ChangeMaps (open_string shut_string)
set_option linter.unusedVariables false      -- a walk need not use every 'w<i>' (that an integer argument fits its kind)

theorem cells59 : Try.prog.cellsOf 59 = 2 := by kernel_rfl
theorem own : ownKnob Try.prog.godebug = none := by kernel_rfl

/-! ### STEP 1: THE WALK: the Go text returns true. 'Grown w w'': the world has at most new blocks (Derived/RowKit3.lean). Part the cases AHEAD of 'go_enter' where a test parts the walk; take each callee by a contract of your own. -/
set_option maxHeartbeats 4000000 in
set_option maxRecDepth 100000 in
theorem walk (a0 b0 : Int) (w0 : (Lit.int .u64 a0).wf = true) (u0 : (Lit.int .u64 b0).wf = true) (w : World) :
    Calls Try.prog 6 #[.agg #[.int .u64 a0, .int .u64 b0]] w fun e w' => e = .returned (.bool true) ∧ Grown w w' := by
  obtain ⟨_, i0⟩ := bounds_u64 w0
  obtain ⟨_, i1⟩ := bounds_u64 u0
  obtain ⟨x, rfl⟩ := Int.eq_ofNat_of_zero_le (bounds_u64 w0).1
  obtain ⟨y, rfl⟩ := Int.eq_ofNat_of_zero_le (bounds_u64 u0).1
  have hx : Rep x (nrm x) := ⟨by omega, rfl⟩
  have hy : Rep y (nrm y) := ⟨by omega, rfl⟩
  clear w0 u0 i0 i1
  generalize nrm x = f at hx
  generalize nrm y = g at hy
  have hlf := hx.flt
  have hlg := hy.flt
  cases hff : fin f
  · have HF := Lib.hid hff
    clear hff hlf hlg
    go_enter Try.func6, Try.ntmps6
    go_wp2_with (first | (go_at_call 34; (with_reducible refine (awake_c _).mono ?_); rintro e w' ⟨n, rfl, rfl⟩) | (go_at_call 35; (with_reducible refine (number6_c x y _).mono ?_); rintro e w' ⟨rfl, g1⟩; have G1 := Lib.hid g1; clear g1) | (go_at_call 36; (with_reducible refine (fin6_c hx _).mono ?_); rw [HF.out]; rintro e w' ⟨n, rfl, rfl⟩))
    go_ret
    exact ⟨rfl, gr_drewN _ (gr_trans (gr_drewN _ ((Grown.refl w).alloc _ _)) G1.out)⟩
  · cases hfg : fin g
    · have HF := Lib.hid hff
      have HG := Lib.hid hfg
      clear hff hfg hlf hlg
      go_enter Try.func6, Try.ntmps6
      go_wp2_with (first | (go_at_call 34; (with_reducible refine (awake_c _).mono ?_); rintro e w' ⟨n, rfl, rfl⟩) | (go_at_call 35; (with_reducible refine (number6_c x y _).mono ?_); rintro e w' ⟨rfl, g1⟩; have G1 := Lib.hid g1; clear g1) | (go_at_call 36; (with_reducible refine (fin6_c hx _).mono ?_); rw [HF.out]; rintro e w' ⟨n, rfl, rfl⟩) | (go_at_call 36; (with_reducible refine (fin6_c hy _).mono ?_); rw [HG.out]; rintro e w' ⟨n, rfl, rfl⟩))
      go_ret
      exact ⟨rfl, gr_drewN _ (gr_trans (gr_drewN _ ((Grown.refl w).alloc _ _)) G1.out)⟩
    · have hfx : V f (qv f) := V.of hlf hff
      have hgy : V g (qv g) := V.of hlg hfg
      have HF := Lib.hid hff
      have HG := Lib.hid hfg
      have HFR : RowKit.Hid (∀ W, Calls Try.prog 37 #[.float .f64 f] W (RetNV (qv f) 100 W)) := Lib.hid (fun W => fracV_c W hlf hff)
      have HGR : RowKit.Hid (∀ W, Calls Try.prog 37 #[.float .f64 g] W (RetNV (qv g) 100 W)) := Lib.hid (fun W => fracV_c W hlg hfg)
      have HCR : RowKit.Hid (∀ W, Calls Try.prog 37 #[.float .f64 4391009636686233600] W (RetNV (qv 4391009636686233600) 100 W)) := Lib.hid (fun W => fracV_c W (by decide) (by decide +kernel))
      have hLO := len_fine hfx hgy
      obtain ⟨u, v, hu, hv, hroot⟩ := root_fine hfx hgy
      have hut := hu.val
      have hvt := hv.val
      subst hut hvt
      have hxe := hx.eq_of (fin_notN hff)
      have hye := hy.eq_of (fin_notN hfg)
      subst hxe hye
      have HLC : RowKit.Hid (∀ W, Calls Try.prog 39 #[.complex .f64 x y] W (RetF (lenF x y) W)) := Lib.hid (fun W => length_c hx hy W)
      have HRC : RowKit.Hid (∀ W, Calls Try.prog 44 #[.complex .f64 x y] W (RetC (rootX x y) (rootY x y) W)) := Lib.hid (fun W => root_c hx hy W)
      obtain ⟨l, el⟩ : ∃ l, lenF x y = l := ⟨_, rfl⟩
      obtain ⟨u, eu⟩ : ∃ u, rootX x y = u := ⟨_, rfl⟩
      obtain ⟨v, ev⟩ : ∃ v, rootY x y = v := ⟨_, rfl⟩
      rw [el] at hLO HLC
      rw [eu, ev] at HRC
      rw [eu] at hu hroot
      rw [ev] at hv hroot
      have HUF := Lib.hid hu.fin
      have HVF := Lib.hid hv.fin
      have hur : Rep u u := Rep.self hu.lt (nrm_of_not (fin_notN hu.fin))
      have hvr : Rep v v := Rep.self hv.lt (nrm_of_not (fin_notN hv.fin))
      have HUN' := Lib.hid (fin_notN hu.fin)
      have HVN := Lib.hid (fin_notN hv.fin)
      have HUR : RowKit.Hid (∀ W, Calls Try.prog 37 #[.float .f64 u] W (RetNV (qv u) 100 W)) := Lib.hid (fun W => fracV_c W hu.lt hu.fin)
      have HVR : RowKit.Hid (∀ W, Calls Try.prog 37 #[.float .f64 v] W (RetNV (qv v) 100 W)) := Lib.hid (fun W => fracV_c W hv.lt hv.fin)
      have HRT := Lib.hid hroot
      have HL := Lib.hid hLO
      have hlr : Rep l l := Rep.self (by have := hLO.le; omega) (nrm_of_not (num_pos hLO.le))
      have HLN := Lib.hid (num_pos hLO.le)
      clear el eu ev hu hv hroot hfx hgy hff hfg hlf hlg
      go_enter Try.func6, Try.ntmps6
      go_upto_region 10 with (first
        | (go_at_call 34; (with_reducible refine (awake_c _).mono ?_); rintro e w' ⟨n, rfl, rfl⟩)
        | (go_at_call 35; (with_reducible refine (number6_c x y _).mono ?_); rintro e w1 ⟨rfl, g1⟩; have G1 : RowKit.Hid (Grown w w1) := Lib.hid (gr_trans (gr_drewN _ ((Grown.refl w).alloc _ _)) g1); clear g1)
        | (go_at_call_of 36 (Value.float FloatKind.f64 x); (with_reducible refine (fin6_c hx _).mono ?_); rw [HF.out]; rintro e w' ⟨n, rfl, rfl⟩)
        | (go_at_call_of 36 (Value.float FloatKind.f64 y); (with_reducible refine (fin6_c hy _).mono ?_); rw [HG.out]; rintro e w' ⟨n, rfl, rfl⟩)
        | (go_at_call_of 37 (Value.float FloatKind.f64 x); go_loud ((with_reducible refine (HFR.out _).mono ?_); rintro e w2 ⟨gx, rfl, h1, h2, h3⟩; have RX := Lib.hid h1; have GX := Lib.hid (gr_trans (gr_drewN _ G1.out) h2); clear h1 h2 h3))
        | (go_at_call_of 37 (Value.float FloatKind.f64 y); go_loud ((with_reducible refine (HGR.out _).mono ?_); rintro e w3 ⟨gy, rfl, h1, h2, h3⟩; have RY := Lib.hid h1; have GY := Lib.hid (gr_trans GX.out h2); have RX := Lib.hid (RX.out.grown h2); clear h1 h2 h3))
        | (go_at_call 38; go_loud ((with_reducible refine (normV_c RX.out RY.out (by decide) (by decide)).mono ?_); rintro e w4 ⟨gn, rfl, h1, h2, h3⟩; have RN := Lib.hid h1; have GN := Lib.hid (gr_trans GY.out h2); have RX := Lib.hid (RX.out.grown h2); have RY := Lib.hid (RY.out.grown h2); clear h1 h2 h3))
        | fail)
      obtain ⟨N, hN⟩ : ∃ N, qv x * qv x + qv y * qv y = N := ⟨_, rfl⟩
      rw [hN] at RN HRT HL
      clear hLO
      have GN := Lib.hid (gr_trans GN.out (Grown.refl _))
      have mid : ∀ W5 : World, Grown w4 W5 → True := fun _ _ => trivial
      by_cases hl : l < 9218868437227405312
      case' pos =>
        have hlf : fin l = true := (fin_pos hl).1
        have HLF := Lib.hid hlf
        have HLT := Lib.hid hl
        have HLO := Lib.hid (show qv (l - 4) * qv (l - 4) ≤ N by have := HL.out.lo; rwa [if_neg (by omega)] at this)
        have HHI := Lib.hid (HL.out.hi hl)
        have HUN := Lib.hid (fun W => underV_c (l := l) W hl)
        have HAB := Lib.hid (fun W => aboveV_c (l := l) W hl)
        have HZ := Lib.hid HL.out.z
        clear hl hlf
        go_upto_region 15 with (first
          | (go_at_call 39; (with_reducible refine (HLC.out _).mono ?_); rintro e w' ⟨r5, n5, rfl, hr5, rfl⟩; obtain rfl : l = r5 := (hr5.eq_of HLN.out).symm)
          | (go_at_call_of 36 (Value.float FloatKind.f64 l); (with_reducible refine (fin6_c hlr _).mono ?_); rw [HLF.out]; rintro e w' ⟨n, rfl, rfl⟩)
          | fail)
        have kz := hlr.eq' Rep.c0
        rcases Nat.eq_zero_or_pos l with hz | hz
        case' inl =>
          rw [show feq l 0 = true by rw [hz]; decide +kernel] at kz
          have HZN := Lib.hid (HZ.out.1 hz)
          clear hz
          go_upto_region 17 with (first
            | (go_at_call 41; go_loud ((with_reducible refine (HUN.out _).mono ?_); rintro e w5 ⟨g5, rfl, h1, h2, h3⟩; have R5 := Lib.hid h1; have G5 := Lib.hid (gr_trans (gr_drewN _ (Grown.refl w4)) h2); clear h1 h2 h3))
            | (go_at_call 42; go_loud ((with_reducible refine (HAB.out _).mono ?_); rintro e w8 ⟨g8, rfl, h1, h2, h3⟩; have R8 := Lib.hid h1; have G8 := Lib.hid (gr_trans G7.out h2); clear h1 h2 h3))
            | (go_at_call_of 40 (Value.pointer (some (Addr.mk g5 0 none))); go_loud ((with_reducible refine (squareV_c R5.out (by decide)).mono ?_); rintro e w6 ⟨g6, rfl, h1, h2, h3⟩; have R6 := Lib.hid h1; have G6 := Lib.hid (gr_trans G5.out h2); clear h1 h2 h3))
            | (go_at_call_of 40 (Value.pointer (some (Addr.mk g8 0 none))); go_loud ((with_reducible refine (squareV_c R8.out (by decide)).mono ?_); rintro e w9 ⟨g9, rfl, h1, h2, h3⟩; have R9 := Lib.hid h1; have G9 := Lib.hid (gr_trans G8.out h2); clear h1 h2 h3))
            | (go_at_call_of 25 (Value.pointer (some (Addr.mk g6 0 none))); go_loud ((with_reducible refine (cmpV_c R6.out (RN.out.grown G6.out) (by decide) (by decide)).mono ?_); rintro e w7 ⟨c7, rfl, h1, h2⟩; have k7 := cmpS_le h1 HLO.out; have G7 := Lib.hid (gr_trans G6.out h2); clear h1 h2))
            | (go_at_call_of 25 (Value.pointer (some (Addr.mk g9 0 none))); go_loud ((with_reducible refine (cmpV_c R9.out (RN.out.grown G9.out) (by decide) (by decide)).mono ?_); rintro e w10 ⟨c10, rfl, h1, h2⟩; have k10 := cmpS_ge h1 HHI.out; have G10 := Lib.hid (gr_trans G9.out h2); clear h1 h2))
            | (go_at_call 43; go_loud ((with_reducible refine (signV_c (RN.out.grown G10.out)).mono ?_); rintro e w11 ⟨c11, rfl, h1, h2⟩; have k11 := cmpS_none h1 HZN.out; have GE := Lib.hid (gr_trans G10.out h2); clear h1 h2))
            | fail)
        case' inr =>
          rw [show feq l 0 = false by rw [feq_zero HLN.out, rung_pos (Nat.le_of_lt HLT.out)]; exact decide_eq_false (by omega)] at kz
          have HZN : RowKit.Hid (N ≠ 0) := Lib.hid (fun e => absurd (HZ.out.2 e) (by omega))
          clear hz
          go_upto_region 17 with (first
            | (go_at_call 41; go_loud ((with_reducible refine (HUN.out _).mono ?_); rintro e w5 ⟨g5, rfl, h1, h2, h3⟩; have R5 := Lib.hid h1; have G5 := Lib.hid (gr_trans (gr_drewN _ (Grown.refl w4)) h2); clear h1 h2 h3))
            | (go_at_call 42; go_loud ((with_reducible refine (HAB.out _).mono ?_); rintro e w8 ⟨g8, rfl, h1, h2, h3⟩; have R8 := Lib.hid h1; have G8 := Lib.hid (gr_trans G7.out h2); clear h1 h2 h3))
            | (go_at_call_of 40 (Value.pointer (some (Addr.mk g5 0 none))); go_loud ((with_reducible refine (squareV_c R5.out (by decide)).mono ?_); rintro e w6 ⟨g6, rfl, h1, h2, h3⟩; have R6 := Lib.hid h1; have G6 := Lib.hid (gr_trans G5.out h2); clear h1 h2 h3))
            | (go_at_call_of 40 (Value.pointer (some (Addr.mk g8 0 none))); go_loud ((with_reducible refine (squareV_c R8.out (by decide)).mono ?_); rintro e w9 ⟨g9, rfl, h1, h2, h3⟩; have R9 := Lib.hid h1; have G9 := Lib.hid (gr_trans G8.out h2); clear h1 h2 h3))
            | (go_at_call_of 25 (Value.pointer (some (Addr.mk g6 0 none))); go_loud ((with_reducible refine (cmpV_c R6.out (RN.out.grown G6.out) (by decide) (by decide)).mono ?_); rintro e w7 ⟨c7, rfl, h1, h2⟩; have k7 := cmpS_le h1 HLO.out; have G7 := Lib.hid (gr_trans G6.out h2); clear h1 h2))
            | (go_at_call_of 25 (Value.pointer (some (Addr.mk g9 0 none))); go_loud ((with_reducible refine (cmpV_c R9.out (RN.out.grown G9.out) (by decide) (by decide)).mono ?_); rintro e w10 ⟨c10, rfl, h1, h2⟩; have k10 := cmpS_ge h1 HHI.out; have G10 := Lib.hid (gr_trans G9.out h2); clear h1 h2))
            | (go_at_call 43; go_loud ((with_reducible refine (signV_c (RN.out.grown G10.out)).mono ?_); rintro e w11 ⟨c11, rfl, h1, h2⟩; have k11 := cmpS_some h1 HZN.out; have k12 : (c11 == (0 : Int)) = false := (by simpa using k11); have GE := Lib.hid (gr_trans G10.out h2); clear h1 h2))
            | fail)
      case' neg =>
        obtain rfl : l = 9218868437227405312 := by have := HL.out.le; omega
        have HLF : RowKit.Hid (fin 9218868437227405312 = false) := Lib.hid (by decide +kernel)
        have HLO := Lib.hid (show qv (9218868437227405311 - 4) * qv (9218868437227405311 - 4) ≤ N by have := HL.out.lo; rwa [if_pos rfl] at this)
        have HUN := Lib.hid (fun W => underV_c (l := 9218868437227405311) W (by decide))
        clear hl
        go_upto_region 17 with (first
          | (go_at_call 39; (with_reducible refine (HLC.out _).mono ?_); rintro e w' ⟨r5, n5, rfl, hr5, rfl⟩; obtain rfl := hr5.eq_of HLN.out)
          | (go_at_call 36; (with_reducible refine (fin6_c hlr _).mono ?_); rw [HLF.out]; rintro e w' ⟨n, rfl, rfl⟩)
          | (go_at_call 41; go_loud ((with_reducible refine (HUN.out _).mono ?_); rintro e w5 ⟨g5, rfl, h1, h2, h3⟩; have R5 := Lib.hid h1; have G5 := Lib.hid (gr_trans (gr_drewN _ (Grown.refl w4)) h2); clear h1 h2 h3))
          | (go_at_call 40; go_loud ((with_reducible refine (squareV_c R5.out (by decide)).mono ?_); rintro e w6 ⟨g6, rfl, h1, h2, h3⟩; have R6 := Lib.hid h1; have G6 := Lib.hid (gr_trans G5.out h2); clear h1 h2 h3))
          | (go_at_call 25; go_loud ((with_reducible refine (cmpV_c R6.out (RN.out.grown G6.out) (by decide) (by decide)).mono ?_); rintro e w7 ⟨c7, rfl, h1, h2⟩; have k7 := cmpS_le h1 HLO.out; have GE := Lib.hid (gr_trans G6.out h2); clear h1 h2))
          | fail)
      all_goals
        have RX1 := Lib.hid (RX.out.grown GE.out)
        have RY1 := Lib.hid (RY.out.grown GE.out)
        have RN1 := Lib.hid (RN.out.grown GE.out)
        have GW := Lib.hid (gr_trans GN.out GE.out)
        clear RX RY RN GE GN
        go_upto_region 22 with (first
          | (go_at_call 44; (with_reducible refine (HRC.out _).mono ?_); rintro e w' ⟨r1, r2, n5, rfl, hr1, hr2, rfl⟩; obtain rfl : u = r1 := (hr1.eq_of HUN'.out).symm; obtain rfl : v = r2 := (hr2.eq_of HVN.out).symm)
          | (go_at_call_of 36 (Value.float FloatKind.f64 u); (with_reducible refine (fin6_c hur _).mono ?_); rw [HUF.out]; rintro e w' ⟨n, rfl, rfl⟩)
          | (go_at_call_of 36 (Value.float FloatKind.f64 v); (with_reducible refine (fin6_c hvr _).mono ?_); rw [HVF.out]; rintro e w' ⟨n, rfl, rfl⟩)
          | (go_at_call_of 37 (Value.float FloatKind.f64 u); go_loud ((with_reducible refine (HUR.out _).mono ?_); rintro e w20 ⟨gu, rfl, h1, h2, h3⟩; have RU := Lib.hid h1; have GU := Lib.hid h2; clear h1 h2 h3))
          | (go_at_call_of 37 (Value.float FloatKind.f64 v); go_loud ((with_reducible refine (HVR.out _).mono ?_); rintro e w21 ⟨gv, rfl, h1, h2, h3⟩; have RV := Lib.hid h1; have RU := Lib.hid (RU.out.grown h2); have GV := Lib.hid (gr_trans (gr_drewN _ (Grown.refl _)) (gr_trans GU.out h2)); clear h1 h2 h3))
          | fail)
        have RX2 := Lib.hid (RX1.out.grown GV.out)
        have RY2 := Lib.hid (RY1.out.grown GV.out)
        have RN2 := Lib.hid (RN1.out.grown GV.out)
        have GW2 := Lib.hid (gr_trans GW.out GV.out)
        clear RX1 RY1 RN1 GU GV
        have HZ0 := Lib.hid (ratNew (Grown.refl w21) 40)
        have GA0 : RowKit.Hid (Grown w21 (w21.alloc (.cells #[.bool false, .slice none 0 0, .slice none 0 0] 40))) := Lib.hid ((Grown.refl w21).alloc _ _)
        go_upto_region 23 with (first
          | (go_at_call_of 40 (Value.pointer (some (Addr.mk gu 0 none))); go_loud ((with_reducible refine (squareV_c (RU.out.grown GA0.out) (by decide)).mono ?_); rintro e w22 ⟨gu2, rfl, h1, h2, h3⟩; have RU2 := Lib.hid h1; have GU2 := Lib.hid (gr_trans GA0.out h2); have HZ0 := Lib.hid (HZ0.out.grown h2); clear h1 h2 h3))
          | (go_at_call_of 40 (Value.pointer (some (Addr.mk gv 0 none))); go_loud ((with_reducible refine (squareV_c (RV.out.grown GU2.out) (by decide)).mono ?_); rintro e w23 ⟨gv2, rfl, h1, h2, h3⟩; have RV2 := Lib.hid h1; have RU2 := Lib.hid (RU2.out.grown h2); have GV2 := Lib.hid (gr_trans GU2.out h2); have HZ0 := Lib.hid (HZ0.out.grown h2); clear h1 h2 h3))
          | (go_at_call 45; go_loud ((with_reducible refine (subV_c HZ0.out RU2.out RV2.out (by decide) (by decide)).mono ?_); rintro e w24 ⟨rfl, h1, w24a, h2, h3⟩; have RD := Lib.hid h1; have GD := Lib.hid (h3.grown (gr_trans GV2.out h2) (Nat.le_refl _)); clear h1 h2 h3))
          | fail)
        have RX3 := Lib.hid (RX2.out.grown GD.out)
        have RY3 := Lib.hid (RY2.out.grown GD.out)
        have RN3 := Lib.hid (RN2.out.grown GD.out)
        have RU3 := Lib.hid (RU.out.grown GD.out)
        have RV3 := Lib.hid (RV.out.grown GD.out)
        go_upto_region 24 with (first
          | (go_at_call 45; go_loud ((with_reducible refine (subV_c RD.out.z RD.out RX3.out (by decide) (by decide)).mono ?_); rintro e w25 ⟨rfl, h1, w25a, h2, h3⟩; have RD2 := Lib.hid h1; have GD2 := Lib.hid (h3.grown (gr_trans GD.out h2) (Nat.le_refl _)); clear h1 h2 h3))
          | fail)
        have RY4 := Lib.hid (RY2.out.grown GD2.out)
        have RN4 := Lib.hid (RN2.out.grown GD2.out)
        have RU4 := Lib.hid (RU.out.grown GD2.out)
        have RV4 := Lib.hid (RV.out.grown GD2.out)
        have GW4 := Lib.hid (gr_trans GW2.out GD2.out)
        clear RX2 RY2 RN2 RU RV RX3 RY3 RN3 RU3 RV3 GD HZ0 GA0 RU2 RV2 GU2 GV2 RD
        have HZ1 := Lib.hid (ratNew (Grown.refl w25) 40)
        have GA1 : RowKit.Hid (Grown w25 (w25.alloc (.cells #[.bool false, .slice none 0 0, .slice none 0 0] 40))) := Lib.hid ((Grown.refl w25).alloc _ _)
        have HNU := Lib.hid (Nat.ne_of_lt RU4.out.lt)
        have HNV := Lib.hid (Nat.ne_of_lt RV4.out.lt)
        go_upto_region 25 with (first
          | (go_at_call 32; go_loud ((with_reducible refine (mulV_c HZ1.out (RU4.out.grown GA1.out) (RV4.out.grown GA1.out) HNU.out HNV.out (by decide) (by decide)).mono ?_); rintro e w26 ⟨rfl, h1, w26a, h2, h3⟩; have RE := Lib.hid h1; have GE2 := Lib.hid (h3.grown (gr_trans GA1.out h2) (Nat.le_refl _)); clear h1 h2 h3))
          | fail)
        go_upto_region 26 with (first
          | (go_at_call 21; go_loud ((with_reducible refine (addV_c RE.out.z RE.out RE.out (by decide) (by decide)).mono ?_); rintro e w27 ⟨rfl, h1, w27a, h2, h3⟩; have RE2 := Lib.hid h1; have GE3 := Lib.hid (h3.grown (gr_trans GE2.out h2) (Nat.le_refl _)); clear h1 h2 h3))
          | fail)
        go_upto_region 27 with (first
          | (go_at_call 45; go_loud ((with_reducible refine (subV_c RE2.out.z RE2.out (RY4.out.grown GE3.out) (by decide) (by decide)).mono ?_); rintro e w28 ⟨rfl, h1, w28a, h2, h3⟩; have RE3 := Lib.hid h1; have GE4 := Lib.hid (h3.grown (gr_trans GE3.out h2) (Nat.le_refl _)); clear h1 h2 h3))
          | fail)
        have RD3 := Lib.hid (RD2.out.grown GE4.out)
        have RN5 := Lib.hid (RN4.out.grown GE4.out)
        have GW5 := Lib.hid (gr_trans GW4.out GE4.out)
        clear RU4 RV4 RY4 RN4 HZ1 GA1 HNU HNV RE RE2 GE2 GE3 RD2
        have HZ2 := Lib.hid (ratNew (Grown.refl w28) 40)
        have GA2 : RowKit.Hid (Grown w28 (w28.alloc (.cells #[.bool false, .slice none 0 0, .slice none 0 0] 40))) := Lib.hid ((Grown.refl w28).alloc _ _)
        have HNN := Lib.hid (Nat.ne_of_lt RN5.out.lt)
        go_upto_region 28 with (first
          | (go_at_call 37; go_loud ((with_reducible refine (HCR.out _).mono ?_); rintro e w29 ⟨gc, rfl, h1, h2, h3⟩; have RC := Lib.hid h1; have GC := Lib.hid (gr_trans GA2.out h2); have HZ2 := Lib.hid (HZ2.out.grown h2); clear h1 h2 h3))
          | (go_at_call 40; go_loud ((with_reducible refine (squareV_c RC.out (by decide)).mono ?_); rintro e w30 ⟨gc2, rfl, h1, h2, h3⟩; have HNC : RowKit.Hid (gc2 ≠ w28.heap.size) := Lib.hid (Nat.ne_of_gt (Nat.lt_of_lt_of_le HZ2.out.lt h3)); have RC2 := Lib.hid h1; have GC2 := Lib.hid (gr_trans GC.out h2); have HZ2 := Lib.hid (HZ2.out.grown h2); clear h1 h2 h3))
          | (go_at_call 32; go_loud ((with_reducible refine (mulV_c HZ2.out (RN5.out.grown GC2.out) RC2.out HNN.out HNC.out (by decide) (by decide)).mono ?_); rintro e w31 ⟨rfl, h1, w31a, h2, h3⟩; have RM := Lib.hid h1; have GM := Lib.hid (h3.grown (gr_trans GC2.out h2) (Nat.le_refl _)); clear h1 h2 h3))
          | fail)
        have RD4 := Lib.hid (RD3.out.grown GM.out)
        have RE4 := Lib.hid (RE3.out.grown GM.out)
        have GW6 := Lib.hid (gr_trans GW5.out GM.out)
        clear RD3 RE3 RN5 HZ2 GA2 HNN GC RC GC2
        go_wp2_with (first
          | (go_at_call 38; go_loud ((with_reducible refine (normV_c RD4.out RE4.out (by decide) (by decide)).mono ?_); rintro e w32 ⟨gd, rfl, h1, h2, h3⟩; have RR := Lib.hid h1; have GR := Lib.hid h2; clear h1 h2 h3))
          | (go_at_call 25; go_loud ((with_reducible refine (cmpV_c RR.out (RM.out.grown GR.out) (by decide) (by decide)).mono ?_); rintro e w33 ⟨c33, rfl, h1, h2⟩; have k33 := cmpS_le h1 HRT.out; have GF := Lib.hid (gr_trans GR.out h2); clear h1 h2))
          | fail)
        go_ret
        exact ⟨by first | rfl | (simp; omega) | simp [k33], gr_trans GW6.out GF.out⟩

/-! ### THE ROW's STEP: WRITTEN OUT: LEAVE IT -/
set_option maxRecDepth 100000 in
theorem lifted (os : Os) (started : os.Started) (H : Type) (enc : TypeId × Value → H) :
    ReturnsInHanded {} Try.checked os 6 .any (Rows.rootTrueSpec.pre6 enc Try.prog Try.f6 Rows.rootTrueRow.domain false) (Rows.rootTrueSpec.post enc Try.prog Try.f6 false true false false) := by
  refine returnsInHanded_of_change (C := Try.checked) own started (by kernel_rfl) Try.func6
    (ChangeSpec.witness6 (enc := enc) (C := Try.checked) false ⟨#[], #[.agg #[.int .u64 0, .int .u64 0]], []⟩ 8 (by kernel_rfl) (by kernel_rfl) (by kernel_rfl) (by kernel_rfl)) ?_
  intro W base args ds gs before hval0 hW hcnd _
  have hval : ∀ (j : Nat) t v, Try.f6.params[j]? = some t → args[j]? = some v → Value.okWide Try.prog W .any base t v := hval0
  have hW' := hW
  obtain ⟨p, q, hA0, hV, rfl, hfz, hnd⟩ := hW
  have hA : DataW.TrodAll enc Try.prog W 0 (fun _ => true) true Try.f6.params.toList args.toList ds p := hA0
  rw [Try.params6] at hA hval
  obtain ⟨v0, vs0, d0, ds0, p0, q0, hargs, rfl, rfl, h0, r0⟩ := trodAll_cons hA
  obtain ⟨rfl, rfl, rfl⟩ := trodAll_nil r0
  obtain rfl : args = #[v0] := by cases args; simp_all
  obtain ⟨rfl, rfl⟩ := trodVars_none hV
  obtain ⟨_, _, y0a, y0b, _, rfl, rfl, rfl, hy0a, hy0b⟩ := Joins.open_agg2 Try.underlying59 (by kernel_rfl) cells59 (hval 0 59 v0 rfl rfl) h0
  obtain ⟨a0, e0a, rfl, w0⟩ := DataW.trod_int Try.underlying23 hy0a
  obtain ⟨b0, e0b, rfl, u0⟩ := DataW.trod_int Try.underlying23 hy0b
  simp at e0a e0b
  subst e0a e0b
  clear hA0 hval0
  simp only [List.append_nil] at hW'
  refine (walk a0 b0 w0 u0 W).mono fun e W' ⟨he, hg⟩ => ?_
  subst he
  exact ⟨_, rfl, post_of_same (pa := []) (pv := []) hW' (fun _ _ _ => (trodAll_cons_mk (shut_bool Try.underlying4 _) trodAll_mk0)) (fun sp _ => (trodAll_cons_mk (Joins.shut_agg2 (y0 := (.lit (.int .u64 a0), [])) (y1 := (.lit (.int .u64 b0), [])) Try.underlying59 (by kernel_rfl) cells59 ⟨1, by simp [DataW.trod, Try.underlying23, w0]⟩ ⟨1, by simp [DataW.trod, Try.underlying23, u0]⟩) trodAll_mk0)) (fun _ _ => rfl) rfl
    (hg.frame _) hg.2.1 (ok_one (by kernel_rfl) rfl (okWide_bool_mk Try.underlying4 _))⟩

theorem over : Rows.rootTrueRow.holds Try.pinned (OpenSpec.ofChange Rows.rootTrueSpec) :=
  OpenClaim.holds_of_wide 6 Try.f6 rfl rfl rfl rfl rfl rfl rfl ⟨rfl, rfl, rfl, rfl, rfl⟩ rfl rfl rfl rfl rfl (by kernel_rfl) Try.func6 (by kernel_rfl)
    (of_decide_eq_true (by kernel_rfl)) (by unfold Func.isWrapper; first | (rw [if_pos (by decide +kernel)]; kernel_rfl) | (rw [if_neg (by decide +kernel)]; exact ⟨rfl, rfl⟩))
    (fun os started H enc _ => lifted os started H enc)

/-- THE STATEMENT -/
theorem proved : Rows.RootTrueSaid :=
  over
#print axioms proved
end Go.Proofs.Ytcfkhhnkboealaa.rootTrue
