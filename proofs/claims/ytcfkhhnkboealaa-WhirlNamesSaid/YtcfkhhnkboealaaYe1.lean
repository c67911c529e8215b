/- Whirls: one step of one whirl. -/
import Derived.Test.YtcfkhhnkboealaaYe0
namespace Go.Proofs.Ytcfkhhnkboealaa
open Go.RowKit
set_option linter.unusedVariables false
set_option linter.unusedSimpArgs false
set_option maxRecDepth 100000
set_option maxHeartbeats 4000000
def st1Ok (x1 y1 t1 s hf sx p11 q11 p12 q12 p13 q13 e11 e12 e13 X1 Y1 : Nat) : Bool := fdiv s 4611686018427387904 == hf && !isN hf && fdiv s 4618441417868443648 == sx && !isN sx && mvE x1 0 hf p11 && mvE y1 0 hf q11 && mvE x1 0 hf p12 && mvE y1 0 hf q12 && mvE x1 0 s p13 && mvE y1 0 s q13 && mvE 0 0 4611686018427387904 e11 && mvE 0 0 4611686018427387904 e11 && mvE e11 0 4611686018427387904 e12 && mvE e11 0 4611686018427387904 e12 && fadd e12 0 == e13 && !isN e13 && fadd e12 0 == e13 && !isN e13 && mvE x1 e13 sx X1 && mvE y1 e13 sx Y1 && within X1 4787326403894837248 && within Y1 4787326403894837248
theorem step1_c {g cap x1 y1 t1 s hf sx p11 q11 p12 q12 p13 q13 e11 e12 e13 X1 Y1 : Nat} {w : World} (h : W1 w g cap x1 y1 t1) (rx1 : Rep x1 x1) (ry1 : Rep y1 y1) (rt1 : Rep t1 t1) (ok1 : whOk x1 y1 t1 = true) (rs : Rep s s) (hs : stpOk s = true) (H : st1Ok x1 y1 t1 s hf sx p11 q11 p12 q12 p13 q13 e11 e12 e13 X1 Y1 = true) :
    Calls Try.prog 66 #[.slice (some ⟨g, 0, none⟩) 1 cap, .float .f64 s] w (fun e w' => ∃ g' c', e = .returned (.tuple #[.slice (some ⟨g', 0, none⟩) 1 c', .int .i64 0]) ∧ W1 w' g' c' X1 Y1 t1 ∧ w.heap.size ≤ g' ∧ GrW w w') := by
  simp only [st1Ok, Bool.and_eq_true, beq_iff_eq, Bool.not_eq_true'] at H
  obtain ⟨⟨⟨⟨⟨⟨⟨⟨⟨⟨⟨⟨⟨⟨⟨⟨⟨⟨⟨⟨⟨eh, nh⟩, es⟩, ns⟩, mx1_1⟩, my1_1⟩, mx1_2⟩, my1_2⟩, mx1_3⟩, my1_3⟩, s1x1⟩, s1y1⟩, s2x1⟩, s2y1⟩, s3x1⟩, s3nx1⟩, s3y1⟩, s3ny1⟩, ox1⟩, oy1⟩, ix1⟩, iy1⟩ := H
  have w00 : World := default
  have c2 : Rep 4611686018427387904 4611686018427387904 := Rep.two
  have c6 : Rep 4618441417868443648 4618441417868443648 := Rep.self (by decide) (by decide +kernel)
  have k40 := Rep.c40
  have rhf : Rep hf hf := by have := self_of (rs.quo c2 (w := w00)) (by rw [eh]; exact nh); rwa [eh] at this
  have rsx : Rep sx sx := by have := self_of (rs.quo c6 (w := w00)) (by rw [es]; exact ns); rwa [es] at this
  have r0 := Rep.c0
  obtain ⟨mx1_1, nx1_1, qx1_1, rp11⟩ := mvE_of rx1 r0 rhf mx1_1
  obtain ⟨my1_1, ny1_1, qy1_1, rq11⟩ := mvE_of ry1 r0 rhf my1_1
  obtain ⟨mx1_2, nx1_2, qx1_2, rp12⟩ := mvE_of rx1 r0 rhf mx1_2
  obtain ⟨my1_2, ny1_2, qy1_2, rq12⟩ := mvE_of ry1 r0 rhf my1_2
  obtain ⟨mx1_3, nx1_3, qx1_3, rp13⟩ := mvE_of rx1 r0 rs mx1_3
  obtain ⟨my1_3, ny1_3, qy1_3, rq13⟩ := mvE_of ry1 r0 rs my1_3
  obtain ⟨g1x1, g2x1, g3x1, re11⟩ := mvE_of r0 r0 c2 s1x1
  obtain ⟨g4x1, g5x1, g6x1, re12⟩ := mvE_of re11 r0 c2 s2x1
  have g7x1 : isN (fadd e12 0) = false := by rw [s3x1]; exact s3nx1
  have re13 : Rep e13 e13 := by have := self_of (re12.add r0 (w := w00)) g7x1; rwa [s3x1] at this
  obtain ⟨g8x1, g9x1, gax1, rX1⟩ := mvE_of rx1 re13 rsx ox1
  obtain ⟨g1y1, g2y1, g3y1, re11⟩ := mvE_of r0 r0 c2 s1y1
  obtain ⟨g4y1, g5y1, g6y1, re12⟩ := mvE_of re11 r0 c2 s2y1
  have g7y1 : isN (fadd e12 0) = false := by rw [s3y1]; exact s3ny1
  have re13 : Rep e13 e13 := by have := self_of (re12.add r0 (w := w00)) g7y1; rwa [s3y1] at this
  obtain ⟨g8y1, g9y1, gay1, rY1⟩ := mvE_of ry1 re13 rsx oy1
  have HCK := Lib.hid (stepped_c (check1_c h rx1 ry1 rt1 ok1) rs hs)
  have HH := Lib.hid h
  have qh : ∀ W, fres .quo s 4611686018427387904 W = hf := fun W => ((rs.quo c2).eq_of (by rw [eh]; exact nh)).trans eh
  have qs : ∀ W, fres .quo s 4618441417868443648 W = sx := fun W => ((rs.quo c6).eq_of (by rw [es]; exact ns)).trans es
  have dh := fdr_quo (x := s) (y := 4611686018427387904) (by rw [eh]; exact nh)
  have ds := fdr_quo (x := s) (y := 4618441417868443648) (by rw [es]; exact ns)
  clear h hs ok1
  go_enter Try.func66, Try.ntmps66
  go_upto_region 4 with (first
    | (go_at_call 122; (with_reducible refine HCK.out.mono ?_); rintro e w0 ⟨rfl, g0⟩; have G0 := Lib.hid (GrW.of g0); clear g0)
    | fail)
  go_wp2_with (fail)
  obtain ⟨A0, eA⟩ : ∃ A0, A0 = w0.alloc (.cells #[.slice none 0 0, .slice none 0 0, .slice none 0 0, .slice none 0 0] 134) := ⟨_, rfl⟩
  have S0 := Lib.hid (St.new G0.out eA)
  generalize ekb : w0.heap.size = kb at *
  rw [← eA]
  clear eA ekb
  refine wp_loop_rounds 6 ?_
  have LW0 := Lib.hid (HH.out.up S0.out.grw)
  rw [rounds_succ]
  go_wp2_with (first
    | (go_at_call 121; go_loud ((with_reducible refine (ways1_c g cap x1 y1 t1 _ LW0.out.lc LW0.out.top LW0.out.lt LW0.out.c0 LW0.out.c1).mono ?_); rintro e B0 ⟨m0, rfl, z0, z2, z3, z4⟩; have GB0 := Lib.hid (GrW.of z4); have SB0 := Lib.hid (S0.out.up (GrW.of z4)); have M0_0 := Lib.hid (Way1.mk z3 z0 (fun i => frozen_new z4 z2)); have ne0 : m0 ≠ kb := by { have := S0.out.lt; omega }; have lom0 := z2; have lwm0 : w.heap.size ≤ m0 := Nat.le_trans S0.out.grw.size z2; have kc := SB0.out.c0; have kf := SB0.out.f 0; clear z0 z2 z3 z4))
    | fail)
  obtain ⟨C0, eC⟩ : ∃ C0, C0 = B0.setCell ⟨kb, 0, none⟩ (.slice (some ⟨m0, 0, none⟩) 1 1) := ⟨_, rfl⟩
  have SC0 := Lib.hid (show St w C0 kb (.slice (some ⟨m0, 0, none⟩) 1 1) (.slice none 0 0) (.slice none 0 0) (.slice none 0 0) by rw [eC]; exact SB0.out.set0 _)
  have N0_0 := Lib.hid (show Way1 C0 m0 0 0 by rw [eC]; exact M0_0.out.set ne0)
  rw [← eC]
  clear eC kc kf
  have HHC := Lib.hid (HH.out.up SC0.out.grw)
  go_wp2_with (first
    | (go_at_call 123; go_loud ((with_reducible refine (moved1_c g cap x1 y1 t1 m0 0 0 hf C0 HHC.out.lc HHC.out.top HHC.out.lt N0_0.out.lt HHC.out.c0 HHC.out.c1 N0_0.out.c0 rx1 ry1 rt1 r0 r0 rhf mx1_1 my1_1 nx1_1 ny1_1).mono ?_); rintro e A1 ⟨l1, cc1, rfl, z0, z1, z4, z5, z6, z7, z8⟩; rw [qx1_1, qy1_1] at z0; have L1 := Lib.hid (W1.mk z7 z4 z5 z0 z1); have S1 := Lib.hid (SC0.out.up z8); have M0_0 := Lib.hid (N0_0.out.up z8); clear z0 z1 z4 z5 z6 z7 z8))
    | fail)
  clear SC0 SB0 GB0 LW0 S0 N0_0
  have LW1 := Lib.hid (L1.out)
  rw [rounds_succ]
  go_wp2_with (first
    | (go_at_call 121; go_loud ((with_reducible refine (ways1_c l1 cc1 p11 q11 t1 _ LW1.out.lc LW1.out.top LW1.out.lt LW1.out.c0 LW1.out.c1).mono ?_); rintro e B1 ⟨m1, rfl, z0, z2, z3, z4⟩; have GB1 := Lib.hid (GrW.of z4); have SB1 := Lib.hid (S1.out.up (GrW.of z4)); have M1_1 := Lib.hid (Way1.mk z3 z0 (fun i => frozen_new z4 z2)); have ne1 : m1 ≠ kb := by { have := S1.out.lt; omega }; have M0_1 := Lib.hid (M0_0.out.up (GrW.of z4)); have lom1 := z2; have lwm1 : w.heap.size ≤ m1 := Nat.le_trans S1.out.grw.size z2; have nm0_1 : m0 ≠ m1 := by { have := M0_0.out.lt; omega }; have kc := SB1.out.c1; have kf := SB1.out.f 1; clear z0 z2 z3 z4))
    | fail)
  obtain ⟨C1, eC⟩ : ∃ C1, C1 = B1.setCell ⟨kb, 1, none⟩ (.slice (some ⟨m1, 0, none⟩) 1 1) := ⟨_, rfl⟩
  have SC1 := Lib.hid (show St w C1 kb (.slice (some ⟨m0, 0, none⟩) 1 1) (.slice (some ⟨m1, 0, none⟩) 1 1) (.slice none 0 0) (.slice none 0 0) by rw [eC]; exact SB1.out.set1 _)
  have N0_1 := Lib.hid (show Way1 C1 m0 0 0 by rw [eC]; exact M0_1.out.set ne0)
  have N1_1 := Lib.hid (show Way1 C1 m1 0 0 by rw [eC]; exact M1_1.out.set ne1)
  rw [← eC]
  clear eC kc kf
  have HHC := Lib.hid (HH.out.up SC1.out.grw)
  go_wp2_with (first
    | (go_at_call 123; go_loud ((with_reducible refine (moved1_c g cap x1 y1 t1 m1 0 0 hf C1 HHC.out.lc HHC.out.top HHC.out.lt N1_1.out.lt HHC.out.c0 HHC.out.c1 N1_1.out.c0 rx1 ry1 rt1 r0 r0 rhf mx1_2 my1_2 nx1_2 ny1_2).mono ?_); rintro e A2 ⟨l2, cc2, rfl, z0, z1, z4, z5, z6, z7, z8⟩; rw [qx1_2, qy1_2] at z0; have L2 := Lib.hid (W1.mk z7 z4 z5 z0 z1); have S2 := Lib.hid (SC1.out.up z8); have M0_1 := Lib.hid (N0_1.out.up z8); have M1_1 := Lib.hid (N1_1.out.up z8); clear z0 z1 z4 z5 z6 z7 z8))
    | fail)
  clear SC1 SB1 GB1 LW1 S1 N0_1 N1_1 L1
  have LW2 := Lib.hid (L2.out)
  rw [rounds_succ]
  go_wp2_with (first
    | (go_at_call 121; go_loud ((with_reducible refine (ways1_c l2 cc2 p12 q12 t1 _ LW2.out.lc LW2.out.top LW2.out.lt LW2.out.c0 LW2.out.c1).mono ?_); rintro e B2 ⟨m2, rfl, z0, z2, z3, z4⟩; have GB2 := Lib.hid (GrW.of z4); have SB2 := Lib.hid (S2.out.up (GrW.of z4)); have M2_2 := Lib.hid (Way1.mk z3 z0 (fun i => frozen_new z4 z2)); have ne2 : m2 ≠ kb := by { have := S2.out.lt; omega }; have M0_2 := Lib.hid (M0_1.out.up (GrW.of z4)); have M1_2 := Lib.hid (M1_1.out.up (GrW.of z4)); have lom2 := z2; have lwm2 : w.heap.size ≤ m2 := Nat.le_trans S2.out.grw.size z2; have nm0_2 : m0 ≠ m2 := by { have := M0_1.out.lt; omega }; have nm1_2 : m1 ≠ m2 := by { have := M1_1.out.lt; omega }; have kc := SB2.out.c2; have kf := SB2.out.f 2; clear z0 z2 z3 z4))
    | fail)
  obtain ⟨C2, eC⟩ : ∃ C2, C2 = B2.setCell ⟨kb, 2, none⟩ (.slice (some ⟨m2, 0, none⟩) 1 1) := ⟨_, rfl⟩
  have SC2 := Lib.hid (show St w C2 kb (.slice (some ⟨m0, 0, none⟩) 1 1) (.slice (some ⟨m1, 0, none⟩) 1 1) (.slice (some ⟨m2, 0, none⟩) 1 1) (.slice none 0 0) by rw [eC]; exact SB2.out.set2 _)
  have N0_2 := Lib.hid (show Way1 C2 m0 0 0 by rw [eC]; exact M0_2.out.set ne0)
  have N1_2 := Lib.hid (show Way1 C2 m1 0 0 by rw [eC]; exact M1_2.out.set ne1)
  have N2_2 := Lib.hid (show Way1 C2 m2 0 0 by rw [eC]; exact M2_2.out.set ne2)
  rw [← eC]
  clear eC kc kf
  have HHC := Lib.hid (HH.out.up SC2.out.grw)
  go_wp2_with (first
    | (go_at_call 123; go_loud ((with_reducible refine (moved1_c g cap x1 y1 t1 m2 0 0 s C2 HHC.out.lc HHC.out.top HHC.out.lt N2_2.out.lt HHC.out.c0 HHC.out.c1 N2_2.out.c0 rx1 ry1 rt1 r0 r0 rs mx1_3 my1_3 nx1_3 ny1_3).mono ?_); rintro e A3 ⟨l3, cc3, rfl, z0, z1, z4, z5, z6, z7, z8⟩; rw [qx1_3, qy1_3] at z0; have L3 := Lib.hid (W1.mk z7 z4 z5 z0 z1); have S3 := Lib.hid (SC2.out.up z8); have M0_2 := Lib.hid (N0_2.out.up z8); have M1_2 := Lib.hid (N1_2.out.up z8); have M2_2 := Lib.hid (N2_2.out.up z8); clear z0 z1 z4 z5 z6 z7 z8))
    | fail)
  clear SC2 SB2 GB2 LW2 S2 N0_2 N1_2 N2_2 L2
  have LW3 := Lib.hid (L3.out)
  rw [rounds_succ]
  go_wp2_with (first
    | (go_at_call 121; go_loud ((with_reducible refine (ways1_c l3 cc3 p13 q13 t1 _ LW3.out.lc LW3.out.top LW3.out.lt LW3.out.c0 LW3.out.c1).mono ?_); rintro e B3 ⟨m3, rfl, z0, z2, z3, z4⟩; have GB3 := Lib.hid (GrW.of z4); have SB3 := Lib.hid (S3.out.up (GrW.of z4)); have M3_3 := Lib.hid (Way1.mk z3 z0 (fun i => frozen_new z4 z2)); have ne3 : m3 ≠ kb := by { have := S3.out.lt; omega }; have M0_3 := Lib.hid (M0_2.out.up (GrW.of z4)); have M1_3 := Lib.hid (M1_2.out.up (GrW.of z4)); have M2_3 := Lib.hid (M2_2.out.up (GrW.of z4)); have lom3 := z2; have lwm3 : w.heap.size ≤ m3 := Nat.le_trans S3.out.grw.size z2; have nm0_3 : m0 ≠ m3 := by { have := M0_2.out.lt; omega }; have nm1_3 : m1 ≠ m3 := by { have := M1_2.out.lt; omega }; have nm2_3 : m2 ≠ m3 := by { have := M2_2.out.lt; omega }; have kc := SB3.out.c3; have kf := SB3.out.f 3; clear z0 z2 z3 z4))
    | fail)
  obtain ⟨C3, eC⟩ : ∃ C3, C3 = B3.setCell ⟨kb, 3, none⟩ (.slice (some ⟨m3, 0, none⟩) 1 1) := ⟨_, rfl⟩
  have SC3 := Lib.hid (show St w C3 kb (.slice (some ⟨m0, 0, none⟩) 1 1) (.slice (some ⟨m1, 0, none⟩) 1 1) (.slice (some ⟨m2, 0, none⟩) 1 1) (.slice (some ⟨m3, 0, none⟩) 1 1) by rw [eC]; exact SB3.out.set3 _)
  have N0_3 := Lib.hid (show Way1 C3 m0 0 0 by rw [eC]; exact M0_3.out.set ne0)
  have N1_3 := Lib.hid (show Way1 C3 m1 0 0 by rw [eC]; exact M1_3.out.set ne1)
  have N2_3 := Lib.hid (show Way1 C3 m2 0 0 by rw [eC]; exact M2_3.out.set ne2)
  have N3_3 := Lib.hid (show Way1 C3 m3 0 0 by rw [eC]; exact M3_3.out.set ne3)
  rw [← eC]
  clear eC kc kf
  go_wp2_with (fail)
  rw [rounds_succ]
  go_wp2_with (fail)
  refine wp_loop_rounds 4 ?_
  rw [rounds_succ]
  have kc0 := SC3.out.c0; have kc1 := SC3.out.c1; have kc2 := SC3.out.c2; have kc3 := SC3.out.c3
  have wc0 := N0_3.out.c0
  have wc1 := N1_3.out.c0
  have wc2 := N2_3.out.c0
  have wc3 := N3_3.out.c0
  have wf := N0_3.out.f 0
  go_upto_region 19 with (fail)
  refine wp_region_still_lit (by kernel_rfl) (by kernel_rfl) ?_
  iterate 10 still_step
  still_call (cscaleS_c r0 r0 c2 _ g1x1 g1y1)
  still_call (caddS_c r0 r0 (self_of (r0.mul c2 (w := w00)) g1x1) (self_of (r0.mul c2 (w := w00)) g1y1) _ g2x1 g2y1)
  repeat still_step
  refine wpStill_nil ?_
  change Exit.then _ _ _ _ (World.drew _)
  obtain ⟨D0, eD⟩ : ∃ D0, D0 = C3.drew := ⟨_, rfl⟩
  have SD0 := Lib.hid (show St w D0 kb (.slice (some ⟨m0, 0, none⟩) 1 1) (.slice (some ⟨m1, 0, none⟩) 1 1) (.slice (some ⟨m2, 0, none⟩) 1 1) (.slice (some ⟨m3, 0, none⟩) 1 1) by rw [eD]; exact SC3.out.drew)
  have ND0_0 := Lib.hid (show Way1 D0 m0 0 0 by rw [eD]; exact N0_3.out.drew)
  have ND1_0 := Lib.hid (show Way1 D0 m1 0 0 by rw [eD]; exact N1_3.out.drew)
  have ND2_0 := Lib.hid (show Way1 D0 m2 0 0 by rw [eD]; exact N2_3.out.drew)
  have ND3_0 := Lib.hid (show Way1 D0 m3 0 0 by rw [eD]; exact N3_3.out.drew)
  rw [← eD]
  clear eD kc0 kc1 kc2 kc3 wc0 wc1 wc2 wc3 wf SC3 N0_3 N1_3 N2_3 N3_3
  have kc0 := SD0.out.c0; have kc1 := SD0.out.c1; have kc2 := SD0.out.c2; have kc3 := SD0.out.c3
  have wc0 := ND0_0.out.c0
  have wc1 := ND1_0.out.c0
  have wc2 := ND2_0.out.c0
  have wc3 := ND3_0.out.c0
  have wf := ND0_0.out.f 0
  go_wp2_with (first
    | (go_at_call_of 48 (Value.complex FloatKind.f64 0 0); (with_reducible refine (cscaleS_c r0 r0 c2 _ g4x1 g4y1).mono ?_); rintro e w1 ⟨rfl, hw1⟩; obtain rfl : D0 = w1 := hw1.symm)
    | (go_at_call_of 124 (Value.complex FloatKind.f64 e11 e11); (with_reducible refine (caddS_c re11 re11 (self_of (r0.mul c2 (w := w00)) g4x1) (self_of (r0.mul c2 (w := w00)) g4y1) _ g5x1 g5y1).mono ?_); rintro e w1 ⟨rfl, hw1⟩; obtain rfl : D0 = w1 := hw1.symm)
    | fail)
  try rw [g6x1]
  refine wp_region_still_tail 11 (by kernel_rfl) (by kernel_rfl) ?_
  simp only [List.take_succ_cons, List.take_zero, List.drop_succ_cons, List.drop_zero]
  iterate 9 still_step
  still_call (caddS_c re12 re12 r0 r0 _ g7x1 g7y1)
  repeat still_step
  try refine wpStill_nil ?_
  change wpList _ _ _ _ _ D0.drew
  try rw [s3x1]
  go_wp2_with (fail)
  obtain ⟨E0, eE⟩ : ∃ E0, E0 = (D0.setCell ⟨m0, 0, none⟩ (.complex .f64 e13 e13)).drew := ⟨_, rfl⟩
  have SE0 := Lib.hid (show St w E0 kb (.slice (some ⟨m0, 0, none⟩) 1 1) (.slice (some ⟨m1, 0, none⟩) 1 1) (.slice (some ⟨m2, 0, none⟩) 1 1) (.slice (some ⟨m3, 0, none⟩) 1 1) by rw [eE]; exact (SD0.out.other lwm0 ne0 _).drew)
  have NE0_0 := Lib.hid (show Way1 E0 m0 e13 e13 by rw [eE]; exact (ND0_0.out.put0).drew)
  have NE1_0 := Lib.hid (show Way1 E0 m1 0 0 by rw [eE]; exact (ND1_0.out.set (Ne.symm nm0_1)).drew)
  have NE2_0 := Lib.hid (show Way1 E0 m2 0 0 by rw [eE]; exact (ND2_0.out.set (Ne.symm nm0_2)).drew)
  have NE3_0 := Lib.hid (show Way1 E0 m3 0 0 by rw [eE]; exact (ND3_0.out.set (Ne.symm nm0_3)).drew)
  rw [← eE]
  clear eE kc0 kc1 kc2 kc3 wc0 wc1 wc2 wc3 wf SD0 ND0_0 ND1_0 ND2_0 ND3_0
  rw [rounds_succ]
  have kc0 := SE0.out.c0
  have HHF := Lib.hid (HH.out.up SE0.out.grw)
  go_wp2_with (first
    | (go_at_call 123; go_loud ((with_reducible refine (moved1_c g cap x1 y1 t1 m0 e13 e13 sx E0 HHF.out.lc HHF.out.top HHF.out.lt NE0_0.out.lt HHF.out.c0 HHF.out.c1 NE0_0.out.c0 rx1 ry1 rt1 re13 re13 rsx g8x1 g8y1 g9x1 g9y1).mono ?_); rintro e F ⟨lf, cf, rfl, z0, z1, z4, z5, z6, z7, z8⟩; rw [gax1, gay1] at z0; have LF := Lib.hid (W1.mk z7 z4 z5 z0 z1); have GF := Lib.hid (SE0.out.grw.trans z8); have loF : w.heap.size ≤ lf := Nat.le_trans SE0.out.grw.size z6; clear z0 z1 z4 z5 z6 z7 z8))
    | fail)
  have fc0 := LF.out.c0
  have fc1 := LF.out.c1
  have flt := LF.out.lt
  have flt1 : lf < F.heap.size + 1 := by omega
  have hcl := LF.out.lc
  have hch := LF.out.top
  have hc1 : (0 : Int) < (cf : Int) := by omega
  refine wp_loop_rounds 4 ?_
  repeat (rw [rounds_succ]; go_wp2_with (first
    | (go_at_call_of 125 (Value.complex FloatKind.f64 X1 Y1); (with_reducible refine (cwithin_c rX1 rY1 k40 _).mono ?_); rw [ix1, iy1]; rintro e w1 ⟨n1, rfl, rfl⟩)
    | fail))
  go_ret2
  refine ⟨lf, cf, rfl, ?_, loF, ?_⟩
  · exact LF.out.up (by repeat (first | with_reducible exact GrW.refl _ | with_reducible refine GrW.drewN _ ?_ | with_reducible refine GrW.alloc ?_ _))
  · exact GF.out.trans (by repeat (first | with_reducible exact GrW.refl _ | with_reducible refine GrW.drewN _ ?_ | with_reducible refine GrW.alloc ?_ _))
end Go.Proofs.Ytcfkhhnkboealaa
