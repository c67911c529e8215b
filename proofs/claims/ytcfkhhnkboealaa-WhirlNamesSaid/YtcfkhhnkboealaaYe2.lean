/- Whirls: one step of two whirls. -/
import Derived.Test.YtcfkhhnkboealaaYe0
namespace Go.Proofs.Ytcfkhhnkboealaa
open Go.RowKit
set_option linter.unusedVariables false
set_option linter.unusedSimpArgs false
set_option maxRecDepth 100000
set_option maxHeartbeats 4000000
def st2Ok (x1 y1 t1 x2 y2 t2 s hf sx a11 b11 a21 b21 a12 b12 a22 b22 a13 b13 a23 b23 a14 b14 a24 b24 p11 q11 p21 q21 p12 q12 p22 q22 p13 q13 p23 q23 e11 f11 e21 f21 e12 f12 e22 f22 e13 f13 e23 f23 X1 Y1 X2 Y2 : Nat) : Bool := fdiv s 4611686018427387904 == hf && !isN hf && fdiv s 4618441417868443648 == sx && !isN sx && wvOk x1 y1 x2 y2 t2 && wvX x1 y1 x2 y2 t2 == a11 && wvY x1 y1 x2 y2 t2 == b11 && wvOk x2 y2 x1 y1 t1 && wvX x2 y2 x1 y1 t1 == a21 && wvY x2 y2 x1 y1 t1 == b21 && wvOk p11 q11 p21 q21 t2 && wvX p11 q11 p21 q21 t2 == a12 && wvY p11 q11 p21 q21 t2 == b12 && wvOk p21 q21 p11 q11 t1 && wvX p21 q21 p11 q11 t1 == a22 && wvY p21 q21 p11 q11 t1 == b22 && wvOk p12 q12 p22 q22 t2 && wvX p12 q12 p22 q22 t2 == a13 && wvY p12 q12 p22 q22 t2 == b13 && wvOk p22 q22 p12 q12 t1 && wvX p22 q22 p12 q12 t1 == a23 && wvY p22 q22 p12 q12 t1 == b23 && wvOk p13 q13 p23 q23 t2 && wvX p13 q13 p23 q23 t2 == a14 && wvY p13 q13 p23 q23 t2 == b14 && wvOk p23 q23 p13 q13 t1 && wvX p23 q23 p13 q13 t1 == a24 && wvY p23 q23 p13 q13 t1 == b24 && mvE x1 a11 hf p11 && mvE y1 b11 hf q11 && mvE x2 a21 hf p21 && mvE y2 b21 hf q21 && mvE x1 a12 hf p12 && mvE y1 b12 hf q12 && mvE x2 a22 hf p22 && mvE y2 b22 hf q22 && mvE x1 a13 s p13 && mvE y1 b13 s q13 && mvE x2 a23 s p23 && mvE y2 b23 s q23 && mvE a11 a12 4611686018427387904 e11 && mvE b11 b12 4611686018427387904 f11 && mvE e11 a13 4611686018427387904 e12 && mvE f11 b13 4611686018427387904 f12 && fadd e12 a14 == e13 && !isN e13 && fadd f12 b14 == f13 && !isN f13 && mvE x1 e13 sx X1 && mvE y1 f13 sx Y1 && within X1 4787326403894837248 && within Y1 4787326403894837248 && mvE a21 a22 4611686018427387904 e21 && mvE b21 b22 4611686018427387904 f21 && mvE e21 a23 4611686018427387904 e22 && mvE f21 b23 4611686018427387904 f22 && fadd e22 a24 == e23 && !isN e23 && fadd f22 b24 == f23 && !isN f23 && mvE x2 e23 sx X2 && mvE y2 f23 sx Y2 && within X2 4787326403894837248 && within Y2 4787326403894837248
theorem step2_c {g cap x1 y1 t1 x2 y2 t2 s hf sx a11 b11 a21 b21 a12 b12 a22 b22 a13 b13 a23 b23 a14 b14 a24 b24 p11 q11 p21 q21 p12 q12 p22 q22 p13 q13 p23 q23 e11 f11 e21 f21 e12 f12 e22 f22 e13 f13 e23 f23 X1 Y1 X2 Y2 : Nat} {w : World} (h : W2 w g cap x1 y1 t1 x2 y2 t2) (rx1 : Rep x1 x1) (ry1 : Rep y1 y1) (rt1 : Rep t1 t1) (rx2 : Rep x2 x2) (ry2 : Rep y2 y2) (rt2 : Rep t2 t2) (ok1 : whOk x1 y1 t1 = true) (ok2 : whOk x2 y2 t2 = true) (rs : Rep s s) (hs : stpOk s = true) (H : st2Ok x1 y1 t1 x2 y2 t2 s hf sx a11 b11 a21 b21 a12 b12 a22 b22 a13 b13 a23 b23 a14 b14 a24 b24 p11 q11 p21 q21 p12 q12 p22 q22 p13 q13 p23 q23 e11 f11 e21 f21 e12 f12 e22 f22 e13 f13 e23 f23 X1 Y1 X2 Y2 = true) :
    Calls Try.prog 66 #[.slice (some ⟨g, 0, none⟩) 2 cap, .float .f64 s] w (fun e w' => ∃ g' c', e = .returned (.tuple #[.slice (some ⟨g', 0, none⟩) 2 c', .int .i64 0]) ∧ W2 w' g' c' X1 Y1 t1 X2 Y2 t2 ∧ w.heap.size ≤ g' ∧ GrW w w') := by
  simp only [st2Ok, Bool.and_eq_true, beq_iff_eq, Bool.not_eq_true'] at H
  obtain ⟨⟨⟨⟨⟨⟨⟨⟨⟨⟨⟨⟨⟨⟨⟨⟨⟨⟨⟨⟨⟨⟨⟨⟨⟨⟨⟨⟨⟨⟨⟨⟨⟨⟨⟨⟨⟨⟨⟨⟨⟨⟨⟨⟨⟨⟨⟨⟨⟨⟨⟨⟨⟨⟨⟨⟨⟨⟨⟨⟨⟨⟨⟨eh, nh⟩, es⟩, ns⟩, w1_1⟩, wx1_1⟩, wy1_1⟩, w2_1⟩, wx2_1⟩, wy2_1⟩, w1_2⟩, wx1_2⟩, wy1_2⟩, w2_2⟩, wx2_2⟩, wy2_2⟩, w1_3⟩, wx1_3⟩, wy1_3⟩, w2_3⟩, wx2_3⟩, wy2_3⟩, w1_4⟩, wx1_4⟩, wy1_4⟩, w2_4⟩, wx2_4⟩, wy2_4⟩, mx1_1⟩, my1_1⟩, mx2_1⟩, my2_1⟩, mx1_2⟩, my1_2⟩, mx2_2⟩, my2_2⟩, mx1_3⟩, my1_3⟩, mx2_3⟩, my2_3⟩, s1x1⟩, s1y1⟩, s2x1⟩, s2y1⟩, s3x1⟩, s3nx1⟩, s3y1⟩, s3ny1⟩, ox1⟩, oy1⟩, ix1⟩, iy1⟩, s1x2⟩, s1y2⟩, s2x2⟩, s2y2⟩, s3x2⟩, s3nx2⟩, s3y2⟩, s3ny2⟩, ox2⟩, oy2⟩, ix2⟩, iy2⟩ := H
  have w00 : World := default
  have c2 : Rep 4611686018427387904 4611686018427387904 := Rep.two
  have c6 : Rep 4618441417868443648 4618441417868443648 := Rep.self (by decide) (by decide +kernel)
  have k40 := Rep.c40
  have rhf : Rep hf hf := by have := self_of (rs.quo c2 (w := w00)) (by rw [eh]; exact nh); rwa [eh] at this
  have rsx : Rep sx sx := by have := self_of (rs.quo c6 (w := w00)) (by rw [es]; exact ns); rwa [es] at this
  have rw1_1 := wv_rep rx1 ry1 rx2 ry2 rt2 w1_1
  rw [wx1_1, wy1_1] at rw1_1
  obtain ⟨ra11, rb11⟩ := rw1_1
  have rw2_1 := wv_rep rx2 ry2 rx1 ry1 rt1 w2_1
  rw [wx2_1, wy2_1] at rw2_1
  obtain ⟨ra21, rb21⟩ := rw2_1
  obtain ⟨mx1_1, nx1_1, qx1_1, rp11⟩ := mvE_of rx1 ra11 rhf mx1_1
  obtain ⟨my1_1, ny1_1, qy1_1, rq11⟩ := mvE_of ry1 rb11 rhf my1_1
  obtain ⟨mx2_1, nx2_1, qx2_1, rp21⟩ := mvE_of rx2 ra21 rhf mx2_1
  obtain ⟨my2_1, ny2_1, qy2_1, rq21⟩ := mvE_of ry2 rb21 rhf my2_1
  have rw1_2 := wv_rep rp11 rq11 rp21 rq21 rt2 w1_2
  rw [wx1_2, wy1_2] at rw1_2
  obtain ⟨ra12, rb12⟩ := rw1_2
  have rw2_2 := wv_rep rp21 rq21 rp11 rq11 rt1 w2_2
  rw [wx2_2, wy2_2] at rw2_2
  obtain ⟨ra22, rb22⟩ := rw2_2
  obtain ⟨mx1_2, nx1_2, qx1_2, rp12⟩ := mvE_of rx1 ra12 rhf mx1_2
  obtain ⟨my1_2, ny1_2, qy1_2, rq12⟩ := mvE_of ry1 rb12 rhf my1_2
  obtain ⟨mx2_2, nx2_2, qx2_2, rp22⟩ := mvE_of rx2 ra22 rhf mx2_2
  obtain ⟨my2_2, ny2_2, qy2_2, rq22⟩ := mvE_of ry2 rb22 rhf my2_2
  have rw1_3 := wv_rep rp12 rq12 rp22 rq22 rt2 w1_3
  rw [wx1_3, wy1_3] at rw1_3
  obtain ⟨ra13, rb13⟩ := rw1_3
  have rw2_3 := wv_rep rp22 rq22 rp12 rq12 rt1 w2_3
  rw [wx2_3, wy2_3] at rw2_3
  obtain ⟨ra23, rb23⟩ := rw2_3
  obtain ⟨mx1_3, nx1_3, qx1_3, rp13⟩ := mvE_of rx1 ra13 rs mx1_3
  obtain ⟨my1_3, ny1_3, qy1_3, rq13⟩ := mvE_of ry1 rb13 rs my1_3
  obtain ⟨mx2_3, nx2_3, qx2_3, rp23⟩ := mvE_of rx2 ra23 rs mx2_3
  obtain ⟨my2_3, ny2_3, qy2_3, rq23⟩ := mvE_of ry2 rb23 rs my2_3
  have rw1_4 := wv_rep rp13 rq13 rp23 rq23 rt2 w1_4
  rw [wx1_4, wy1_4] at rw1_4
  obtain ⟨ra14, rb14⟩ := rw1_4
  have rw2_4 := wv_rep rp23 rq23 rp13 rq13 rt1 w2_4
  rw [wx2_4, wy2_4] at rw2_4
  obtain ⟨ra24, rb24⟩ := rw2_4
  obtain ⟨g1x1, g2x1, g3x1, re11⟩ := mvE_of ra11 ra12 c2 s1x1
  obtain ⟨g4x1, g5x1, g6x1, re12⟩ := mvE_of re11 ra13 c2 s2x1
  have g7x1 : isN (fadd e12 a14) = false := by rw [s3x1]; exact s3nx1
  have re13 : Rep e13 e13 := by have := self_of (re12.add ra14 (w := w00)) g7x1; rwa [s3x1] at this
  obtain ⟨g8x1, g9x1, gax1, rX1⟩ := mvE_of rx1 re13 rsx ox1
  obtain ⟨g1y1, g2y1, g3y1, rf11⟩ := mvE_of rb11 rb12 c2 s1y1
  obtain ⟨g4y1, g5y1, g6y1, rf12⟩ := mvE_of rf11 rb13 c2 s2y1
  have g7y1 : isN (fadd f12 b14) = false := by rw [s3y1]; exact s3ny1
  have rf13 : Rep f13 f13 := by have := self_of (rf12.add rb14 (w := w00)) g7y1; rwa [s3y1] at this
  obtain ⟨g8y1, g9y1, gay1, rY1⟩ := mvE_of ry1 rf13 rsx oy1
  obtain ⟨g1x2, g2x2, g3x2, re21⟩ := mvE_of ra21 ra22 c2 s1x2
  obtain ⟨g4x2, g5x2, g6x2, re22⟩ := mvE_of re21 ra23 c2 s2x2
  have g7x2 : isN (fadd e22 a24) = false := by rw [s3x2]; exact s3nx2
  have re23 : Rep e23 e23 := by have := self_of (re22.add ra24 (w := w00)) g7x2; rwa [s3x2] at this
  obtain ⟨g8x2, g9x2, gax2, rX2⟩ := mvE_of rx2 re23 rsx ox2
  obtain ⟨g1y2, g2y2, g3y2, rf21⟩ := mvE_of rb21 rb22 c2 s1y2
  obtain ⟨g4y2, g5y2, g6y2, rf22⟩ := mvE_of rf21 rb23 c2 s2y2
  have g7y2 : isN (fadd f22 b24) = false := by rw [s3y2]; exact s3ny2
  have rf23 : Rep f23 f23 := by have := self_of (rf22.add rb24 (w := w00)) g7y2; rwa [s3y2] at this
  obtain ⟨g8y2, g9y2, gay2, rY2⟩ := mvE_of ry2 rf23 rsx oy2
  have HCK := Lib.hid (stepped_c (check2_c h rx1 ry1 rt1 rx2 ry2 rt2 ok1 ok2) rs hs)
  have HH := Lib.hid h
  have qh : ∀ W, fres .quo s 4611686018427387904 W = hf := fun W => ((rs.quo c2).eq_of (by rw [eh]; exact nh)).trans eh
  have qs : ∀ W, fres .quo s 4618441417868443648 W = sx := fun W => ((rs.quo c6).eq_of (by rw [es]; exact ns)).trans es
  have dh := fdr_quo (x := s) (y := 4611686018427387904) (by rw [eh]; exact nh)
  have ds := fdr_quo (x := s) (y := 4618441417868443648) (by rw [es]; exact ns)
  clear h hs ok1 ok2
  go_enter Try.func66, Try.ntmps66
  go_upto_region 4 with (first
    | (go_at_call 122; (with_reducible refine HCK.out.mono ?_); rintro e w0 ⟨rfl, g0⟩; have G0 := Lib.hid (GrW.of g0); clear g0)
    | fail)
  go_wp2_with (fail)
  obtain ⟨A0, eA⟩ : ∃ A0, A0 = w0.alloc (.cells #[.slice none 0 0, .slice none 0 0, .slice none 0 0, .slice none 0 0] 134) := ⟨_, rfl⟩
  have S0 := Lib.hid (St.new G0.out eA)
  generalize ekb : w0.heap.size = kb at *
  rw [← eA]
  clear eA ekb
  refine wp_loop_rounds 6 ?_
  have LW0 := Lib.hid (HH.out.up S0.out.grw)
  rw [rounds_succ]
  go_wp2_with (first
    | (go_at_call 121; go_loud ((with_reducible refine (ways2_c g cap x1 y1 t1 x2 y2 t2 _ LW0.out.lc LW0.out.top LW0.out.lt LW0.out.c0 LW0.out.c1 LW0.out.c2 LW0.out.c3 rx1 ry1 rt1 rx2 ry2 rt2 w1_1 w2_1).mono ?_); rintro e B0 ⟨m0, rfl, z0, z1, z2, z3, z4⟩; rw [wx1_1, wy1_1] at z0; rw [wx2_1, wy2_1] at z1; have GB0 := Lib.hid (GrW.of z4); have SB0 := Lib.hid (S0.out.up (GrW.of z4)); have M0_0 := Lib.hid (Way2.mk z3 z0 z1 (fun i => frozen_new z4 z2)); have ne0 : m0 ≠ kb := by { have := S0.out.lt; omega }; have lom0 := z2; have lwm0 : w.heap.size ≤ m0 := Nat.le_trans S0.out.grw.size z2; have kc := SB0.out.c0; have kf := SB0.out.f 0; clear z0 z1 z2 z3 z4))
    | fail)
  obtain ⟨C0, eC⟩ : ∃ C0, C0 = B0.setCell ⟨kb, 0, none⟩ (.slice (some ⟨m0, 0, none⟩) 2 2) := ⟨_, rfl⟩
  have SC0 := Lib.hid (show St w C0 kb (.slice (some ⟨m0, 0, none⟩) 2 2) (.slice none 0 0) (.slice none 0 0) (.slice none 0 0) by rw [eC]; exact SB0.out.set0 _)
  have N0_0 := Lib.hid (show Way2 C0 m0 a11 b11 a21 b21 by rw [eC]; exact M0_0.out.set ne0)
  rw [← eC]
  clear eC kc kf
  have HHC := Lib.hid (HH.out.up SC0.out.grw)
  go_wp2_with (first
    | (go_at_call 123; go_loud ((with_reducible refine (moved2_c g cap x1 y1 t1 x2 y2 t2 m0 a11 b11 a21 b21 hf C0 HHC.out.lc HHC.out.top HHC.out.lt N0_0.out.lt HHC.out.c0 HHC.out.c1 HHC.out.c2 HHC.out.c3 N0_0.out.c0 N0_0.out.c1 rx1 ry1 ra11 rb11 rx2 ry2 ra21 rb21 rhf mx1_1 my1_1 nx1_1 ny1_1 mx2_1 my2_1 nx2_1 ny2_1).mono ?_); rintro e A1 ⟨l1, cc1, rfl, z0, z1, z2, z3, z4, z5, z6, z7, z8⟩; rw [qx1_1, qy1_1] at z0; rw [qx2_1, qy2_1] at z2; have L1 := Lib.hid (W2.mk z7 z4 z5 z0 z1 z2 z3); have S1 := Lib.hid (SC0.out.up z8); have M0_0 := Lib.hid (N0_0.out.up z8); clear z0 z1 z2 z3 z4 z5 z6 z7 z8))
    | fail)
  clear SC0 SB0 GB0 LW0 S0 N0_0
  have LW1 := Lib.hid (L1.out)
  rw [rounds_succ]
  go_wp2_with (first
    | (go_at_call 121; go_loud ((with_reducible refine (ways2_c l1 cc1 p11 q11 t1 p21 q21 t2 _ LW1.out.lc LW1.out.top LW1.out.lt LW1.out.c0 LW1.out.c1 LW1.out.c2 LW1.out.c3 rp11 rq11 rt1 rp21 rq21 rt2 w1_2 w2_2).mono ?_); rintro e B1 ⟨m1, rfl, z0, z1, z2, z3, z4⟩; rw [wx1_2, wy1_2] at z0; rw [wx2_2, wy2_2] at z1; have GB1 := Lib.hid (GrW.of z4); have SB1 := Lib.hid (S1.out.up (GrW.of z4)); have M1_1 := Lib.hid (Way2.mk z3 z0 z1 (fun i => frozen_new z4 z2)); have ne1 : m1 ≠ kb := by { have := S1.out.lt; omega }; have M0_1 := Lib.hid (M0_0.out.up (GrW.of z4)); have lom1 := z2; have lwm1 : w.heap.size ≤ m1 := Nat.le_trans S1.out.grw.size z2; have nm0_1 : m0 ≠ m1 := by { have := M0_0.out.lt; omega }; have kc := SB1.out.c1; have kf := SB1.out.f 1; clear z0 z1 z2 z3 z4))
    | fail)
  obtain ⟨C1, eC⟩ : ∃ C1, C1 = B1.setCell ⟨kb, 1, none⟩ (.slice (some ⟨m1, 0, none⟩) 2 2) := ⟨_, rfl⟩
  have SC1 := Lib.hid (show St w C1 kb (.slice (some ⟨m0, 0, none⟩) 2 2) (.slice (some ⟨m1, 0, none⟩) 2 2) (.slice none 0 0) (.slice none 0 0) by rw [eC]; exact SB1.out.set1 _)
  have N0_1 := Lib.hid (show Way2 C1 m0 a11 b11 a21 b21 by rw [eC]; exact M0_1.out.set ne0)
  have N1_1 := Lib.hid (show Way2 C1 m1 a12 b12 a22 b22 by rw [eC]; exact M1_1.out.set ne1)
  rw [← eC]
  clear eC kc kf
  have HHC := Lib.hid (HH.out.up SC1.out.grw)
  go_wp2_with (first
    | (go_at_call 123; go_loud ((with_reducible refine (moved2_c g cap x1 y1 t1 x2 y2 t2 m1 a12 b12 a22 b22 hf C1 HHC.out.lc HHC.out.top HHC.out.lt N1_1.out.lt HHC.out.c0 HHC.out.c1 HHC.out.c2 HHC.out.c3 N1_1.out.c0 N1_1.out.c1 rx1 ry1 ra12 rb12 rx2 ry2 ra22 rb22 rhf mx1_2 my1_2 nx1_2 ny1_2 mx2_2 my2_2 nx2_2 ny2_2).mono ?_); rintro e A2 ⟨l2, cc2, rfl, z0, z1, z2, z3, z4, z5, z6, z7, z8⟩; rw [qx1_2, qy1_2] at z0; rw [qx2_2, qy2_2] at z2; have L2 := Lib.hid (W2.mk z7 z4 z5 z0 z1 z2 z3); have S2 := Lib.hid (SC1.out.up z8); have M0_1 := Lib.hid (N0_1.out.up z8); have M1_1 := Lib.hid (N1_1.out.up z8); clear z0 z1 z2 z3 z4 z5 z6 z7 z8))
    | fail)
  clear SC1 SB1 GB1 LW1 S1 N0_1 N1_1 L1
  have LW2 := Lib.hid (L2.out)
  rw [rounds_succ]
  go_wp2_with (first
    | (go_at_call 121; go_loud ((with_reducible refine (ways2_c l2 cc2 p12 q12 t1 p22 q22 t2 _ LW2.out.lc LW2.out.top LW2.out.lt LW2.out.c0 LW2.out.c1 LW2.out.c2 LW2.out.c3 rp12 rq12 rt1 rp22 rq22 rt2 w1_3 w2_3).mono ?_); rintro e B2 ⟨m2, rfl, z0, z1, z2, z3, z4⟩; rw [wx1_3, wy1_3] at z0; rw [wx2_3, wy2_3] at z1; have GB2 := Lib.hid (GrW.of z4); have SB2 := Lib.hid (S2.out.up (GrW.of z4)); have M2_2 := Lib.hid (Way2.mk z3 z0 z1 (fun i => frozen_new z4 z2)); have ne2 : m2 ≠ kb := by { have := S2.out.lt; omega }; have M0_2 := Lib.hid (M0_1.out.up (GrW.of z4)); have M1_2 := Lib.hid (M1_1.out.up (GrW.of z4)); have lom2 := z2; have lwm2 : w.heap.size ≤ m2 := Nat.le_trans S2.out.grw.size z2; have nm0_2 : m0 ≠ m2 := by { have := M0_1.out.lt; omega }; have nm1_2 : m1 ≠ m2 := by { have := M1_1.out.lt; omega }; have kc := SB2.out.c2; have kf := SB2.out.f 2; clear z0 z1 z2 z3 z4))
    | fail)
  obtain ⟨C2, eC⟩ : ∃ C2, C2 = B2.setCell ⟨kb, 2, none⟩ (.slice (some ⟨m2, 0, none⟩) 2 2) := ⟨_, rfl⟩
  have SC2 := Lib.hid (show St w C2 kb (.slice (some ⟨m0, 0, none⟩) 2 2) (.slice (some ⟨m1, 0, none⟩) 2 2) (.slice (some ⟨m2, 0, none⟩) 2 2) (.slice none 0 0) by rw [eC]; exact SB2.out.set2 _)
  have N0_2 := Lib.hid (show Way2 C2 m0 a11 b11 a21 b21 by rw [eC]; exact M0_2.out.set ne0)
  have N1_2 := Lib.hid (show Way2 C2 m1 a12 b12 a22 b22 by rw [eC]; exact M1_2.out.set ne1)
  have N2_2 := Lib.hid (show Way2 C2 m2 a13 b13 a23 b23 by rw [eC]; exact M2_2.out.set ne2)
  rw [← eC]
  clear eC kc kf
  have HHC := Lib.hid (HH.out.up SC2.out.grw)
  go_wp2_with (first
    | (go_at_call 123; go_loud ((with_reducible refine (moved2_c g cap x1 y1 t1 x2 y2 t2 m2 a13 b13 a23 b23 s C2 HHC.out.lc HHC.out.top HHC.out.lt N2_2.out.lt HHC.out.c0 HHC.out.c1 HHC.out.c2 HHC.out.c3 N2_2.out.c0 N2_2.out.c1 rx1 ry1 ra13 rb13 rx2 ry2 ra23 rb23 rs mx1_3 my1_3 nx1_3 ny1_3 mx2_3 my2_3 nx2_3 ny2_3).mono ?_); rintro e A3 ⟨l3, cc3, rfl, z0, z1, z2, z3, z4, z5, z6, z7, z8⟩; rw [qx1_3, qy1_3] at z0; rw [qx2_3, qy2_3] at z2; have L3 := Lib.hid (W2.mk z7 z4 z5 z0 z1 z2 z3); have S3 := Lib.hid (SC2.out.up z8); have M0_2 := Lib.hid (N0_2.out.up z8); have M1_2 := Lib.hid (N1_2.out.up z8); have M2_2 := Lib.hid (N2_2.out.up z8); clear z0 z1 z2 z3 z4 z5 z6 z7 z8))
    | fail)
  clear SC2 SB2 GB2 LW2 S2 N0_2 N1_2 N2_2 L2
  have LW3 := Lib.hid (L3.out)
  rw [rounds_succ]
  go_wp2_with (first
    | (go_at_call 121; go_loud ((with_reducible refine (ways2_c l3 cc3 p13 q13 t1 p23 q23 t2 _ LW3.out.lc LW3.out.top LW3.out.lt LW3.out.c0 LW3.out.c1 LW3.out.c2 LW3.out.c3 rp13 rq13 rt1 rp23 rq23 rt2 w1_4 w2_4).mono ?_); rintro e B3 ⟨m3, rfl, z0, z1, z2, z3, z4⟩; rw [wx1_4, wy1_4] at z0; rw [wx2_4, wy2_4] at z1; have GB3 := Lib.hid (GrW.of z4); have SB3 := Lib.hid (S3.out.up (GrW.of z4)); have M3_3 := Lib.hid (Way2.mk z3 z0 z1 (fun i => frozen_new z4 z2)); have ne3 : m3 ≠ kb := by { have := S3.out.lt; omega }; have M0_3 := Lib.hid (M0_2.out.up (GrW.of z4)); have M1_3 := Lib.hid (M1_2.out.up (GrW.of z4)); have M2_3 := Lib.hid (M2_2.out.up (GrW.of z4)); have lom3 := z2; have lwm3 : w.heap.size ≤ m3 := Nat.le_trans S3.out.grw.size z2; have nm0_3 : m0 ≠ m3 := by { have := M0_2.out.lt; omega }; have nm1_3 : m1 ≠ m3 := by { have := M1_2.out.lt; omega }; have nm2_3 : m2 ≠ m3 := by { have := M2_2.out.lt; omega }; have kc := SB3.out.c3; have kf := SB3.out.f 3; clear z0 z1 z2 z3 z4))
    | fail)
  obtain ⟨C3, eC⟩ : ∃ C3, C3 = B3.setCell ⟨kb, 3, none⟩ (.slice (some ⟨m3, 0, none⟩) 2 2) := ⟨_, rfl⟩
  have SC3 := Lib.hid (show St w C3 kb (.slice (some ⟨m0, 0, none⟩) 2 2) (.slice (some ⟨m1, 0, none⟩) 2 2) (.slice (some ⟨m2, 0, none⟩) 2 2) (.slice (some ⟨m3, 0, none⟩) 2 2) by rw [eC]; exact SB3.out.set3 _)
  have N0_3 := Lib.hid (show Way2 C3 m0 a11 b11 a21 b21 by rw [eC]; exact M0_3.out.set ne0)
  have N1_3 := Lib.hid (show Way2 C3 m1 a12 b12 a22 b22 by rw [eC]; exact M1_3.out.set ne1)
  have N2_3 := Lib.hid (show Way2 C3 m2 a13 b13 a23 b23 by rw [eC]; exact M2_3.out.set ne2)
  have N3_3 := Lib.hid (show Way2 C3 m3 a14 b14 a24 b24 by rw [eC]; exact M3_3.out.set ne3)
  rw [← eC]
  clear eC kc kf
  go_wp2_with (fail)
  rw [rounds_succ]
  go_wp2_with (fail)
  refine wp_loop_rounds 4 ?_
  rw [rounds_succ]
  have kc0 := SC3.out.c0; have kc1 := SC3.out.c1; have kc2 := SC3.out.c2; have kc3 := SC3.out.c3
  have wc0 := N0_3.out.c0
  have wc1 := N1_3.out.c0
  have wc2 := N2_3.out.c0
  have wc3 := N3_3.out.c0
  have wf := N0_3.out.f 0
  go_upto_region 19 with (fail)
  refine wp_region_still_lit (by kernel_rfl) (by kernel_rfl) ?_
  iterate 10 still_step
  still_call (cscaleS_c ra12 rb12 c2 _ g1x1 g1y1)
  still_call (caddS_c ra11 rb11 (self_of (ra12.mul c2 (w := w00)) g1x1) (self_of (rb12.mul c2 (w := w00)) g1y1) _ g2x1 g2y1)
  repeat still_step
  refine wpStill_nil ?_
  change Exit.then _ _ _ _ (World.drew _)
  obtain ⟨D0, eD⟩ : ∃ D0, D0 = C3.drew := ⟨_, rfl⟩
  have SD0 := Lib.hid (show St w D0 kb (.slice (some ⟨m0, 0, none⟩) 2 2) (.slice (some ⟨m1, 0, none⟩) 2 2) (.slice (some ⟨m2, 0, none⟩) 2 2) (.slice (some ⟨m3, 0, none⟩) 2 2) by rw [eD]; exact SC3.out.drew)
  have ND0_0 := Lib.hid (show Way2 D0 m0 a11 b11 a21 b21 by rw [eD]; exact N0_3.out.drew)
  have ND1_0 := Lib.hid (show Way2 D0 m1 a12 b12 a22 b22 by rw [eD]; exact N1_3.out.drew)
  have ND2_0 := Lib.hid (show Way2 D0 m2 a13 b13 a23 b23 by rw [eD]; exact N2_3.out.drew)
  have ND3_0 := Lib.hid (show Way2 D0 m3 a14 b14 a24 b24 by rw [eD]; exact N3_3.out.drew)
  rw [← eD]
  clear eD kc0 kc1 kc2 kc3 wc0 wc1 wc2 wc3 wf SC3 N0_3 N1_3 N2_3 N3_3
  have kc0 := SD0.out.c0; have kc1 := SD0.out.c1; have kc2 := SD0.out.c2; have kc3 := SD0.out.c3
  have wc0 := ND0_0.out.c0
  have wc1 := ND1_0.out.c0
  have wc2 := ND2_0.out.c0
  have wc3 := ND3_0.out.c0
  have wf := ND0_0.out.f 0
  go_wp2_with (first
    | (go_at_call_of 48 (Value.complex FloatKind.f64 a13 b13); (with_reducible refine (cscaleS_c ra13 rb13 c2 _ g4x1 g4y1).mono ?_); rintro e w1 ⟨rfl, hw1⟩; obtain rfl : D0 = w1 := hw1.symm)
    | (go_at_call_of 124 (Value.complex FloatKind.f64 e11 f11); (with_reducible refine (caddS_c re11 rf11 (self_of (ra13.mul c2 (w := w00)) g4x1) (self_of (rb13.mul c2 (w := w00)) g4y1) _ g5x1 g5y1).mono ?_); rintro e w1 ⟨rfl, hw1⟩; obtain rfl : D0 = w1 := hw1.symm)
    | fail)
  try rw [g6x1, g6y1]
  refine wp_region_still_tail 11 (by kernel_rfl) (by kernel_rfl) ?_
  simp only [List.take_succ_cons, List.take_zero, List.drop_succ_cons, List.drop_zero]
  iterate 9 still_step
  still_call (caddS_c re12 rf12 ra14 rb14 _ g7x1 g7y1)
  repeat still_step
  try refine wpStill_nil ?_
  change wpList _ _ _ _ _ D0.drew
  try rw [s3x1, s3y1]
  go_wp2_with (fail)
  obtain ⟨E0, eE⟩ : ∃ E0, E0 = (D0.setCell ⟨m0, 0, none⟩ (.complex .f64 e13 f13)).drew := ⟨_, rfl⟩
  have SE0 := Lib.hid (show St w E0 kb (.slice (some ⟨m0, 0, none⟩) 2 2) (.slice (some ⟨m1, 0, none⟩) 2 2) (.slice (some ⟨m2, 0, none⟩) 2 2) (.slice (some ⟨m3, 0, none⟩) 2 2) by rw [eE]; exact (SD0.out.other lwm0 ne0 _).drew)
  have NE0_0 := Lib.hid (show Way2 E0 m0 e13 f13 a21 b21 by rw [eE]; exact (ND0_0.out.put0).drew)
  have NE1_0 := Lib.hid (show Way2 E0 m1 a12 b12 a22 b22 by rw [eE]; exact (ND1_0.out.set (Ne.symm nm0_1)).drew)
  have NE2_0 := Lib.hid (show Way2 E0 m2 a13 b13 a23 b23 by rw [eE]; exact (ND2_0.out.set (Ne.symm nm0_2)).drew)
  have NE3_0 := Lib.hid (show Way2 E0 m3 a14 b14 a24 b24 by rw [eE]; exact (ND3_0.out.set (Ne.symm nm0_3)).drew)
  rw [← eE]
  clear eE kc0 kc1 kc2 kc3 wc0 wc1 wc2 wc3 wf SD0 ND0_0 ND1_0 ND2_0 ND3_0
  rw [rounds_succ]
  have kc0 := SE0.out.c0; have kc1 := SE0.out.c1; have kc2 := SE0.out.c2; have kc3 := SE0.out.c3
  have wc0 := NE0_0.out.c1
  have wc1 := NE1_0.out.c1
  have wc2 := NE2_0.out.c1
  have wc3 := NE3_0.out.c1
  have wf := NE0_0.out.f 1
  go_upto_region 19 with (fail)
  refine wp_region_still_lit (by kernel_rfl) (by kernel_rfl) ?_
  iterate 10 still_step
  still_call (cscaleS_c ra22 rb22 c2 _ g1x2 g1y2)
  still_call (caddS_c ra21 rb21 (self_of (ra22.mul c2 (w := w00)) g1x2) (self_of (rb22.mul c2 (w := w00)) g1y2) _ g2x2 g2y2)
  repeat still_step
  refine wpStill_nil ?_
  change Exit.then _ _ _ _ (World.drew _)
  obtain ⟨D1, eD⟩ : ∃ D1, D1 = E0.drew := ⟨_, rfl⟩
  have SD1 := Lib.hid (show St w D1 kb (.slice (some ⟨m0, 0, none⟩) 2 2) (.slice (some ⟨m1, 0, none⟩) 2 2) (.slice (some ⟨m2, 0, none⟩) 2 2) (.slice (some ⟨m3, 0, none⟩) 2 2) by rw [eD]; exact SE0.out.drew)
  have ND0_1 := Lib.hid (show Way2 D1 m0 e13 f13 a21 b21 by rw [eD]; exact NE0_0.out.drew)
  have ND1_1 := Lib.hid (show Way2 D1 m1 a12 b12 a22 b22 by rw [eD]; exact NE1_0.out.drew)
  have ND2_1 := Lib.hid (show Way2 D1 m2 a13 b13 a23 b23 by rw [eD]; exact NE2_0.out.drew)
  have ND3_1 := Lib.hid (show Way2 D1 m3 a14 b14 a24 b24 by rw [eD]; exact NE3_0.out.drew)
  rw [← eD]
  clear eD kc0 kc1 kc2 kc3 wc0 wc1 wc2 wc3 wf SE0 NE0_0 NE1_0 NE2_0 NE3_0
  have kc0 := SD1.out.c0; have kc1 := SD1.out.c1; have kc2 := SD1.out.c2; have kc3 := SD1.out.c3
  have wc0 := ND0_1.out.c1
  have wc1 := ND1_1.out.c1
  have wc2 := ND2_1.out.c1
  have wc3 := ND3_1.out.c1
  have wf := ND0_1.out.f 1
  go_wp2_with (first
    | (go_at_call_of 48 (Value.complex FloatKind.f64 a23 b23); (with_reducible refine (cscaleS_c ra23 rb23 c2 _ g4x2 g4y2).mono ?_); rintro e w1 ⟨rfl, hw1⟩; obtain rfl : D1 = w1 := hw1.symm)
    | (go_at_call_of 124 (Value.complex FloatKind.f64 e21 f21); (with_reducible refine (caddS_c re21 rf21 (self_of (ra23.mul c2 (w := w00)) g4x2) (self_of (rb23.mul c2 (w := w00)) g4y2) _ g5x2 g5y2).mono ?_); rintro e w1 ⟨rfl, hw1⟩; obtain rfl : D1 = w1 := hw1.symm)
    | fail)
  try rw [g6x2, g6y2]
  refine wp_region_still_tail 11 (by kernel_rfl) (by kernel_rfl) ?_
  simp only [List.take_succ_cons, List.take_zero, List.drop_succ_cons, List.drop_zero]
  iterate 9 still_step
  still_call (caddS_c re22 rf22 ra24 rb24 _ g7x2 g7y2)
  repeat still_step
  try refine wpStill_nil ?_
  change wpList _ _ _ _ _ D1.drew
  try rw [s3x2, s3y2]
  go_wp2_with (fail)
  obtain ⟨E1, eE⟩ : ∃ E1, E1 = (D1.setCell ⟨m0, 1, none⟩ (.complex .f64 e23 f23)).drew := ⟨_, rfl⟩
  have SE1 := Lib.hid (show St w E1 kb (.slice (some ⟨m0, 0, none⟩) 2 2) (.slice (some ⟨m1, 0, none⟩) 2 2) (.slice (some ⟨m2, 0, none⟩) 2 2) (.slice (some ⟨m3, 0, none⟩) 2 2) by rw [eE]; exact (SD1.out.other lwm0 ne0 _).drew)
  have NE0_1 := Lib.hid (show Way2 E1 m0 e13 f13 e23 f23 by rw [eE]; exact (ND0_1.out.put1).drew)
  have NE1_1 := Lib.hid (show Way2 E1 m1 a12 b12 a22 b22 by rw [eE]; exact (ND1_1.out.set (Ne.symm nm0_1)).drew)
  have NE2_1 := Lib.hid (show Way2 E1 m2 a13 b13 a23 b23 by rw [eE]; exact (ND2_1.out.set (Ne.symm nm0_2)).drew)
  have NE3_1 := Lib.hid (show Way2 E1 m3 a14 b14 a24 b24 by rw [eE]; exact (ND3_1.out.set (Ne.symm nm0_3)).drew)
  rw [← eE]
  clear eE kc0 kc1 kc2 kc3 wc0 wc1 wc2 wc3 wf SD1 ND0_1 ND1_1 ND2_1 ND3_1
  rw [rounds_succ]
  have kc0 := SE1.out.c0
  have HHF := Lib.hid (HH.out.up SE1.out.grw)
  go_wp2_with (first
    | (go_at_call 123; go_loud ((with_reducible refine (moved2_c g cap x1 y1 t1 x2 y2 t2 m0 e13 f13 e23 f23 sx E1 HHF.out.lc HHF.out.top HHF.out.lt NE0_1.out.lt HHF.out.c0 HHF.out.c1 HHF.out.c2 HHF.out.c3 NE0_1.out.c0 NE0_1.out.c1 rx1 ry1 re13 rf13 rx2 ry2 re23 rf23 rsx g8x1 g8y1 g9x1 g9y1 g8x2 g8y2 g9x2 g9y2).mono ?_); rintro e F ⟨lf, cf, rfl, z0, z1, z2, z3, z4, z5, z6, z7, z8⟩; rw [gax1, gay1] at z0; rw [gax2, gay2] at z2; have LF := Lib.hid (W2.mk z7 z4 z5 z0 z1 z2 z3); have GF := Lib.hid (SE1.out.grw.trans z8); have loF : w.heap.size ≤ lf := Nat.le_trans SE1.out.grw.size z6; clear z0 z1 z2 z3 z4 z5 z6 z7 z8))
    | fail)
  have fc0 := LF.out.c0
  have fc1 := LF.out.c1
  have fc2 := LF.out.c2
  have fc3 := LF.out.c3
  have flt := LF.out.lt
  have flt1 : lf < F.heap.size + 1 := by omega
  have hcl := LF.out.lc
  have hch := LF.out.top
  have hc1 : (0 : Int) < (cf : Int) := by omega
  have hc2 : (1 : Int) < (cf : Int) := by omega
  refine wp_loop_rounds 4 ?_
  repeat (rw [rounds_succ]; go_wp2_with (first
    | (go_at_call_of 125 (Value.complex FloatKind.f64 X1 Y1); (with_reducible refine (cwithin_c rX1 rY1 k40 _).mono ?_); rw [ix1, iy1]; rintro e w1 ⟨n1, rfl, rfl⟩)
    | (go_at_call_of 125 (Value.complex FloatKind.f64 X2 Y2); (with_reducible refine (cwithin_c rX2 rY2 k40 _).mono ?_); rw [ix2, iy2]; rintro e w1 ⟨n1, rfl, rfl⟩)
    | fail))
  go_ret2
  refine ⟨lf, cf, rfl, ?_, loF, ?_⟩
  · exact LF.out.up (by repeat (first | with_reducible exact GrW.refl _ | with_reducible refine GrW.drewN _ ?_ | with_reducible refine GrW.alloc ?_ _))
  · exact GF.out.trans (by repeat (first | with_reducible exact GrW.refl _ | with_reducible refine GrW.drewN _ ?_ | with_reducible refine GrW.alloc ?_ _))
end Go.Proofs.Ytcfkhhnkboealaa
