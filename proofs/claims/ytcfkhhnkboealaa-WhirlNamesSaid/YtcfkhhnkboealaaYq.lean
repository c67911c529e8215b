/- Whirls: the examples. -/
import Derived.Test.YtcfkhhnkboealaaYe1
import Derived.Test.YtcfkhhnkboealaaYp
namespace Go.Proofs.Ytcfkhhnkboealaa
open Go.RowKit
set_option linter.unusedVariables false
set_option linter.unusedSimpArgs false
set_option maxRecDepth 100000
set_option maxHeartbeats 4000000
theorem cu_at {w : World} {c : Array Value} {t : TypeId} {b i : Nat} {v : Value} (e : b = w.heap.size) (h : c[i]? = some v) : (w.alloc (.cells c t)).cell? ⟨b, i, none⟩ = some v := by subst e; exact cu_new h
theorem boxes (w0 w : World) (T : TypeId) (a0 a1 b0 b1 c0 c1 : Value) (h : GrW w0 w) :
    Held w0 (((w.alloc (.cells #[a0, a1] T)).alloc (.cells #[b0, b1] T)).alloc (.cells #[c0, c1] T)) [(⟨w.heap.size, 0, none⟩, a0), (⟨w.heap.size, 1, none⟩, a1), (⟨w.heap.size + 1, 0, none⟩, b0), (⟨w.heap.size + 1, 1, none⟩, b1), (⟨w.heap.size + 1 + 1, 0, none⟩, c0), (⟨w.heap.size + 1 + 1, 1, none⟩, c1)] :=
  (((((((⟨((h.alloc _).alloc _).alloc _, fun i a v e => by simp at e⟩ : Held w0 (((w.alloc (.cells #[a0, a1] T)).alloc (.cells #[b0, b1] T)).alloc (.cells #[c0, c1] T)) []).add (a := ⟨w.heap.size, 0, none⟩) (v := a0) (by simp; omega) (cu_alloc (cu_alloc (cu_new rfl)))).add (a := ⟨w.heap.size, 1, none⟩) (v := a1) (by simp; omega) (cu_alloc (cu_alloc (cu_new rfl)))).add
    (a := ⟨w.heap.size + 1, 0, none⟩) (v := b0) (by simp) (cu_alloc (cu_at (by simp) rfl))).add (a := ⟨w.heap.size + 1, 1, none⟩) (v := b1) (by simp) (cu_alloc (cu_at (by simp) rfl))).add
    (a := ⟨w.heap.size + 1 + 1, 0, none⟩) (v := c0) (by simp) (cu_at (by simp) rfl)).add (a := ⟨w.heap.size + 1 + 1, 1, none⟩) (v := c1) (by simp) (cu_at (by simp) rfl))
theorem stpNaN : stpOk nanB = false := by decide +kernel
theorem nanG_c (w : World) : Calls Try.prog 67 #[] w (fun e w' => ∃ r, e = .returned (.float .f64 r) ∧ Rep r nanB ∧ GrW w w') := by
  refine (nan_c w).mono ?_
  rintro e w' ⟨r, n, rfl, hr, rfl⟩
  exact ⟨r, rfl, hr, (GrW.refl w).drewN n⟩
theorem grw_over {w W w' : World} {n m : Nat} (h : GrW w (W.drewN n)) (k : GrW (W.drewN m) w') : GrW w w' :=
  GrW.trans (b := W) ⟨h.os, h.output, h.size, h.block⟩ ⟨k.os, k.output, k.size, k.block⟩
theorem rInf : Rep 9218868437227405312 9218868437227405312 := Rep.lit6 (by decide) (by decide +kernel)
theorem inf1_c (w : World) : Calls Try.prog 75 #[.int .i64 1] w (fun e w' => e = .returned (.float .f64 9218868437227405312) ∧ GrW w w') := by
  refine (inf_c 1 w).mono ?_
  rintro e w' ⟨r, n, rfl, hr, rfl⟩
  obtain rfl := hr.eq_of (by decide +kernel)
  exact ⟨by rfl, (GrW.refl w).drewN n⟩
theorem names28_c (w : World) : Calls Try.prog 9 #[] w (fun e w' => e = .returned (.bool true) ∧ GrW w w') := by
  have K0 := Lib.hid (GrW.refl w)
  go_enter Try.func9, Try.ntmps9
  go_upto_region 2 with (first
    | (go_at_call 63; go_loud ((with_reducible first | refine (a28p_c _ _ _).mono ?_ | refine (a28n_c _ _ _).mono ?_); rintro e w1 ⟨rfl, g1⟩; have K1 := Lib.hid (K0.out.trans (GrW.of g1)); clear K0 g1; have K0 := K1; clear K1))
    | fail)
  have K := Lib.hid (boxes w w1 82 (.complex .f64 4607182418800017408 0) (.float .f64 4618760256179416344) (.complex .f64 13830554455654793216 0) (.float .f64 4618760256179416344) (.complex .f64 13830554455654793216 0) (.float .f64 13842132293034192152) K0.out)
  obtain ⟨V, eV⟩ : ∃ V, ((w1.alloc (.cells #[.complex .f64 4607182418800017408 0, .float .f64 4618760256179416344] 82)).alloc (.cells #[.complex .f64 13830554455654793216 0, .float .f64 4618760256179416344] 82)).alloc (.cells #[.complex .f64 13830554455654793216 0, .float .f64 13842132293034192152] 82) = V := ⟨_, rfl⟩
  rw [eV] at K ⊢
  obtain ⟨b, eb⟩ : ∃ b, w1.heap.size = b := ⟨_, rfl⟩
  rw [eb] at K ⊢
  clear eV eb K0
  have p0 := K.out.cell 0 rfl
  have p1 := K.out.cell 1 rfl
  have q0 := K.out.cell 2 rfl
  have q1 := K.out.cell 3 rfl
  have r0 := K.out.cell 4 rfl
  have r1 := K.out.cell 5 rfl
  go_upto_region 3 with (first
    | (go_at_call 65; (with_reducible refine (list28_c _ _ _ _).mono ?_); rintro e w2 ⟨rfl, hw2⟩; subst hw2)
    | (go_at_call 64; go_loud (refine (Ways1_c (list1_new _ _ _ _ _) rOne rZ rT whP).mono ?_; rintro e W ⟨o, rfl, ho, og, ol, g1⟩; have K2 := Lib.hid (((K.out.new _).up (GrW.of g1)).add ol ho); clear K; have K := K2; clear K2; clear p0 p1 q0 q1 r0 r1; have p0 := K.out.cell 0 rfl; have p1 := K.out.cell 1 rfl; have q0 := K.out.cell 2 rfl; have q1 := K.out.cell 3 rfl; have r0 := K.out.cell 4 rfl; have r1 := K.out.cell 5 rfl))
    | fail)
  go_upto_region 4 with (first
    | (go_at_call 65; (with_reducible refine (list28_c _ _ _ _).mono ?_); rintro e w2 ⟨rfl, hw2⟩; subst hw2)
    | (go_at_call 64; go_loud (refine (WaysClose_c (list2_new _ _ _ _ _ _ _ _)).mono ?_; rintro e W ⟨rfl, g1⟩; have K2 := Lib.hid ((K.out.new _).up (GrW.of g1)); clear K; have K := K2; clear K2; clear p0 p1 q0 q1 r0 r1; have p0 := K.out.cell 0 rfl; have p1 := K.out.cell 1 rfl; have q0 := K.out.cell 2 rfl; have q1 := K.out.cell 3 rfl; have r0 := K.out.cell 4 rfl; have r1 := K.out.cell 5 rfl))
    | fail)
  go_upto_region 5 with (first
    | (go_at_call 65; (with_reducible refine (list28_c _ _ _ _).mono ?_); rintro e w2 ⟨rfl, hw2⟩; subst hw2)
    | (go_at_call 66; go_loud (refine (step1_c (hf := 4602678819172646912) (sx := 4595172819793696085) (p11 := 4607182418800017408) (q11 := 0) (p12 := 4607182418800017408) (q12 := 0) (p13 := 4607182418800017408) (q13 := 0) (e11 := 0) (e12 := 0) (e13 := 0) (X1 := 4607182418800017408) (Y1 := 0) (list1_new _ _ _ _ _) rOne rZ rT whP rOne (by decide +kernel) (by decide +kernel)).mono ?_; rintro e W ⟨sg, sc, rfl, hs, sl, g1⟩; have K2 := Lib.hid ((((K.out.new _).up g1).add hs.lt hs.c0).add (a := ⟨sg, 1, none⟩) hs.lt hs.c1); clear K; have K := K2; clear K2; clear p0 p1 q0 q1 r0 r1; have p0 := K.out.cell 0 rfl; have p1 := K.out.cell 1 rfl; have q0 := K.out.cell 2 rfl; have q1 := K.out.cell 3 rfl; have r0 := K.out.cell 4 rfl; have r1 := K.out.cell 5 rfl; have slc := hs.lc; have stop := hs.top; clear hs sl g1))
    | fail)
  go_upto_region 6 with (first
    | (go_at_call 65; (with_reducible refine (list28_c _ _ _ _).mono ?_); rintro e w2 ⟨rfl, hw2⟩; subst hw2)
    | (go_at_call 66; go_loud (refine (stepNo_c (list1_new _ _ _ _ _) rZ (by decide +kernel)).mono ?_; rintro e W ⟨rfl, g1⟩; have K2 := Lib.hid ((K.out.new _).up (GrW.of g1)); clear K; have K := K2; clear K2; clear p0 p1 q0 q1 r0 r1; have p0 := K.out.cell 0 rfl; have p1 := K.out.cell 1 rfl; have q0 := K.out.cell 2 rfl; have q1 := K.out.cell 3 rfl; have r0 := K.out.cell 4 rfl; have r1 := K.out.cell 5 rfl))
    | fail)
  go_upto_region 7 with (first
    | (go_at_call 65; (with_reducible refine (list28_c _ _ _ _).mono ?_); rintro e w2 ⟨rfl, hw2⟩; subst hw2)
    | (go_at_call 67; refine (nanG_c _).mono ?_; rintro e Wn ⟨r, rfl, hr, g0⟩; have HL := Lib.hid (stepNo_c ((list1_new _ _ _ _ _).up g0) hr stpNaN); clear hr; have K2 := Lib.hid ((K.out.new _).up g0); clear K; have K := K2; clear K2; clear p0 p1 q0 q1 r0 r1; have p0 := K.out.cell 0 rfl; have p1 := K.out.cell 1 rfl; have q0 := K.out.cell 2 rfl; have q1 := K.out.cell 3 rfl; have r0 := K.out.cell 4 rfl; have r1 := K.out.cell 5 rfl; clear g0)
    | (go_at_call 66; go_loud (refine (HL.out).mono ?_; rintro e W ⟨rfl, g1⟩; have K2 := Lib.hid (K.out.up (GrW.of g1)); clear K; have K := K2; clear K2; clear p0 p1 q0 q1 r0 r1; have p0 := K.out.cell 0 rfl; have p1 := K.out.cell 1 rfl; have q0 := K.out.cell 2 rfl; have q1 := K.out.cell 3 rfl; have r0 := K.out.cell 4 rfl; have r1 := K.out.cell 5 rfl))
    | fail)
  go_upto_region 8 with (first
    | (go_at_call 65; (with_reducible refine (list28_c _ _ _ _).mono ?_); rintro e w2 ⟨rfl, hw2⟩; subst hw2)
    | (go_at_call 68; go_loud (refine (runArg_c (list1_new _ _ _ _ _) rOne rZ rT rOne whP (by decide +kernel)).mono ?_; rintro e W ⟨rfl, g1⟩; have K2 := Lib.hid ((K.out.new _).up (GrW.of g1)); clear K; have K := K2; clear K2; clear p0 p1 q0 q1 r0 r1; have p0 := K.out.cell 0 rfl; have p1 := K.out.cell 1 rfl; have q0 := K.out.cell 2 rfl; have q1 := K.out.cell 3 rfl; have r0 := K.out.cell 4 rfl; have r1 := K.out.cell 5 rfl))
    | fail)
  go_upto_region 9 with (first
    | (go_at_call 65; (with_reducible refine (list28_c _ _ _ _).mono ?_); rintro e w2 ⟨rfl, hw2⟩; subst hw2)
    | (go_at_call 68; go_loud (refine (run0_c (list1_new _ _ _ _ _) rOne rZ rT rMone whP (by decide +kernel)).mono ?_; rintro e W ⟨tg, tc, rfl, hs, sl, g1⟩; have K2 := Lib.hid ((((K.out.new _).up g1).add hs.lt hs.c0).add (a := ⟨tg, 1, none⟩) hs.lt hs.c1); clear K; have K := K2; clear K2; clear p0 p1 q0 q1 r0 r1; have p0 := K.out.cell 0 rfl; have p1 := K.out.cell 1 rfl; have q0 := K.out.cell 2 rfl; have q1 := K.out.cell 3 rfl; have r0 := K.out.cell 4 rfl; have r1 := K.out.cell 5 rfl; have tlc := hs.lc; have ttop := hs.top; clear hs sl g1))
    | fail)
  go_upto_region 10 with (first
    | (go_at_call 65; (with_reducible refine (list28_c _ _ _ _).mono ?_); rintro e w2 ⟨rfl, hw2⟩; subst hw2)
    | (go_at_call 69; go_loud (refine (turn2_c (T := 4623263855806786840) (list2_new _ _ _ _ _ _ _ _) rOne rZ rT rMone rZ rT whP whQ (by decide +kernel) (by decide +kernel)).mono ?_; rintro e W ⟨rfl, g1⟩; have K2 := Lib.hid ((K.out.new _).up (GrW.of g1)); clear K; have K := K2; clear K2; clear p0 p1 q0 q1 r0 r1; have p0 := K.out.cell 0 rfl; have p1 := K.out.cell 1 rfl; have q0 := K.out.cell 2 rfl; have q1 := K.out.cell 3 rfl; have r0 := K.out.cell 4 rfl; have r1 := K.out.cell 5 rfl))
    | fail)
  go_upto_region 11 with (first
    | (go_at_call 65; (with_reducible refine (list28_c _ _ _ _).mono ?_); rintro e w2 ⟨rfl, hw2⟩; subst hw2)
    | (go_at_call 70; go_loud (refine (centre2_c (T := 4623263855806786840) (u := 4618760256179416344) (v := 0) (u' := 13842132293034192152) (v' := 0) (p := 0) (q := 0) (C := 0) (D := 0) (list2_new _ _ _ _ _ _ _ _) rOne rZ rT rMone rZ rT whP whQ (by decide +kernel) (by decide +kernel) (Rep.lit6 (by decide) (by decide +kernel)) (by decide +kernel) (by decide +kernel) (by decide +kernel) (by decide +kernel) (by decide +kernel) (by decide +kernel) (by decide +kernel) (by decide +kernel) (by decide +kernel) (by decide +kernel) (by decide +kernel) (by decide +kernel) (by decide +kernel) (by decide +kernel) (by decide +kernel) (by decide +kernel) (by decide +kernel)).mono ?_; rintro e W ⟨rfl, g1⟩; have K2 := Lib.hid ((K.out.new _).up (GrW.of g1)); clear K; have K := K2; clear K2; clear p0 p1 q0 q1 r0 r1; have p0 := K.out.cell 0 rfl; have p1 := K.out.cell 1 rfl; have q0 := K.out.cell 2 rfl; have q1 := K.out.cell 3 rfl; have r0 := K.out.cell 4 rfl; have r1 := K.out.cell 5 rfl))
    | fail)
  go_upto_region 12 with (first
    | (go_at_call 65; (with_reducible refine (list28_c _ _ _ _).mono ?_); rintro e w2 ⟨rfl, hw2⟩; subst hw2)
    | (go_at_call 70; go_loud (refine (centre2z_c (T := 0) (list2_new _ _ _ _ _ _ _ _) rOne rZ rT rMone rZ rTn whP whB (by decide +kernel) (by decide +kernel) rZ (by decide +kernel)).mono ?_; rintro e W ⟨rfl, g1⟩; have K2 := Lib.hid ((K.out.new _).up (GrW.of g1)); clear K; have K := K2; clear K2; clear p0 p1 q0 q1 r0 r1; have p0 := K.out.cell 0 rfl; have p1 := K.out.cell 1 rfl; have q0 := K.out.cell 2 rfl; have q1 := K.out.cell 3 rfl; have r0 := K.out.cell 4 rfl; have r1 := K.out.cell 5 rfl))
    | fail)
  go_upto_region 13 with (first
    | (go_at_call 65; (with_reducible refine (list28_c _ _ _ _).mono ?_); rintro e w2 ⟨rfl, hw2⟩; subst hw2)
    | (go_at_call 71; go_loud (refine (spread2_c (C := 0) (D := 0) (dx := 4607182418800017408) (dy := 0) (m := 4607182418800017408) (u := 4618760256179416344) (dx' := 13830554455654793216) (dy' := 0) (m' := 4607182418800017408) (u' := 4618760256179416344) (S := 4623263855806786840) (V := 4623263855806786840) (list2_new _ _ _ _ _ _ _ _) (centre2_c (T := 4623263855806786840) (u := 4618760256179416344) (v := 0) (u' := 13842132293034192152) (v' := 0) (p := 0) (q := 0) (C := 0) (D := 0) (list2_new _ _ _ _ _ _ _ _) rOne rZ rT rMone rZ rT whP whQ (by decide +kernel) (by decide +kernel) (Rep.lit6 (by decide) (by decide +kernel)) (by decide +kernel) (by decide +kernel) (by decide +kernel) (by decide +kernel) (by decide +kernel) (by decide +kernel) (by decide +kernel) (by decide +kernel) (by decide +kernel) (by decide +kernel) (by decide +kernel) (by decide +kernel) (by decide +kernel) (by decide +kernel) (by decide +kernel) (by decide +kernel) (by decide +kernel)) rOne rZ rT rMone rZ rT rZ rZ (by decide +kernel) (by decide +kernel) (by decide +kernel) (by decide +kernel) (by decide +kernel) (by decide +kernel)).mono ?_; rintro e W ⟨rfl, g1⟩; have K2 := Lib.hid ((K.out.new _).up g1); clear K; have K := K2; clear K2; clear p0 p1 q0 q1 r0 r1; have p0 := K.out.cell 0 rfl; have p1 := K.out.cell 1 rfl; have q0 := K.out.cell 2 rfl; have q1 := K.out.cell 3 rfl; have r0 := K.out.cell 4 rfl; have r1 := K.out.cell 5 rfl))
    | fail)
  go_upto_region 14 with (first
    | (go_at_call 65; (with_reducible refine (list28_c _ _ _ _).mono ?_); rintro e w2 ⟨rfl, hw2⟩; subst hw2)
    | (go_at_call 69; go_loud (refine (turnNil_c _).mono ?_; rintro e W ⟨rfl, g1⟩; have K2 := Lib.hid (K.out.up (GrW.of g1)); clear K; have K := K2; clear K2; clear p0 p1 q0 q1 r0 r1; have p0 := K.out.cell 0 rfl; have p1 := K.out.cell 1 rfl; have q0 := K.out.cell 2 rfl; have q1 := K.out.cell 3 rfl; have r0 := K.out.cell 4 rfl; have r1 := K.out.cell 5 rfl))
    | fail)
  go_upto_region 15 with (first
    | (go_at_call 65; (with_reducible refine (list28_c _ _ _ _).mono ?_); rintro e w2 ⟨rfl, hw2⟩; subst hw2)
    | (go_at_call 72; go_loud (refine (energyClose_c (dx := 0) (dy := 0) (m := 0) (list2_new _ _ _ _ _ _ _ _) rOne rZ rT rOne rZ rT whP whP (by decide +kernel) (by decide +kernel) (by decide +kernel) (by decide +kernel) (by decide +kernel) (by decide +kernel) (by decide +kernel) (by decide +kernel) (by decide +kernel)).mono ?_; rintro e W ⟨rfl, g1⟩; have K2 := Lib.hid ((K.out.new _).up (GrW.of g1)); clear K; have K := K2; clear K2; clear p0 p1 q0 q1 r0 r1; have p0 := K.out.cell 0 rfl; have p1 := K.out.cell 1 rfl; have q0 := K.out.cell 2 rfl; have q1 := K.out.cell 3 rfl; have r0 := K.out.cell 4 rfl; have r1 := K.out.cell 5 rfl))
    | fail)
  go_upto_region 16 with (first
    | (go_at_call 65; (with_reducible refine (list28_c _ _ _ _).mono ?_); rintro e w2 ⟨rfl, hw2⟩; subst hw2)
    | (go_at_call 73; go_loud (refine (flow1_c (list1_new _ _ _ _ _) rOne rZ rT whP).mono ?_; rintro e W ⟨fg, fc, fy, rfl, fh0, fh2, fr, fl, g1⟩; have K2 := Lib.hid ((((K.out.new _).up g1).add fl fh0).add (a := ⟨fg, 2, none⟩) fl fh2); clear K; have K := K2; clear K2; clear p0 p1 q0 q1 r0 r1; have p0 := K.out.cell 0 rfl; have p1 := K.out.cell 1 rfl; have q0 := K.out.cell 2 rfl; have q1 := K.out.cell 3 rfl; have r0 := K.out.cell 4 rfl; have r1 := K.out.cell 5 rfl; obtain rfl : 13842132293034192152 = fy := (show 13842132293034192152 = fneg 4618760256179416344 by decide +kernel).trans (fr.eq_of (by decide +kernel)).symm; clear fr fh0 fh2 g1))
    | fail)
  have K2 := Lib.hid ((K.out.new (.cells #[.slice (some ⟨fg, 0, none⟩) 1 fc] 100)).add (a := ⟨_, 0, none⟩) (v := .slice (some ⟨fg, 0, none⟩) 1 fc) (by simp) (cu_new rfl)); clear K; have K := K2; clear K2
  obtain ⟨V3, eV3⟩ : ∃ V3, W.alloc (.cells #[.slice (some ⟨fg, 0, none⟩) 1 fc] 100) = V3 := ⟨_, rfl⟩
  rw [eV3] at K ⊢
  obtain ⟨fb, efb⟩ : ∃ n, W.heap.size = n := ⟨_, rfl⟩
  rw [efb] at K ⊢
  clear eV3 efb
  clear p0 p1 q0 q1 r0 r1; have p0 := K.out.cell 0 rfl; have p1 := K.out.cell 1 rfl; have q0 := K.out.cell 2 rfl; have q1 := K.out.cell 3 rfl; have r0 := K.out.cell 4 rfl; have r1 := K.out.cell 5 rfl
  go_upto_region 17 with (first
    | (go_at_call 65; (with_reducible refine (list28_c _ _ _ _).mono ?_); rintro e w2 ⟨rfl, hw2⟩; subst hw2)
    | (go_at_call 74; go_loud (refine (conj1_c (list1_new _ _ _ _ _) rOne rZ rT whP).mono ?_; rintro e W ⟨yg, yc, yy, yt, rfl, hs, yr, sl, g1⟩; have K2 := Lib.hid (((K.out.new _).up g1).add (a := ⟨yg, 1, none⟩) hs.lt hs.c1); clear K; have K := K2; clear K2; clear p0 p1 q0 q1 r0 r1; have p0 := K.out.cell 0 rfl; have p1 := K.out.cell 1 rfl; have q0 := K.out.cell 2 rfl; have q1 := K.out.cell 3 rfl; have r0 := K.out.cell 4 rfl; have r1 := K.out.cell 5 rfl; have ylc := hs.lc; have ytop := hs.top; obtain rfl : 13842132293034192152 = yt := (show 13842132293034192152 = fneg 4618760256179416344 by decide +kernel).trans (yr.eq_of (by decide +kernel)).symm; clear yr hs sl g1))
    | fail)
  obtain ⟨Wm, hmk, gmk, hfl⟩ := mkFlow_c W
  go_upto_region 18 with (first
    | (go_at_call 65; (with_reducible refine (list28_c _ _ _ _).mono ?_); rintro e w2 ⟨rfl, hw2⟩; subst hw2)
    | (go_at_call 73; go_loud (refine (hfl).mono ?_; rintro e W ⟨rfl, g1⟩; have K2 := Lib.hid ((K.out.up gmk).up g1); clear K; have K := K2; clear K2; clear p0 p1 q0 q1 r0 r1; have p0 := K.out.cell 0 rfl; have p1 := K.out.cell 1 rfl; have q0 := K.out.cell 2 rfl; have q1 := K.out.cell 3 rfl; have r0 := K.out.cell 4 rfl; have r1 := K.out.cell 5 rfl))
    | fail)
  have K2 := Lib.hid (K.out.new (.cells #[.slice none 0 0] 100)); clear K; have K := K2; clear K2
  obtain ⟨V4, eV4⟩ : ∃ X, W.alloc (.cells #[.slice none 0 0] 100) = X := ⟨_, rfl⟩
  rw [eV4] at K ⊢
  clear eV4 hmk gmk hfl
  obtain ⟨fb4, efb4⟩ : ∃ n, W.heap.size = n := ⟨_, rfl⟩
  rw [efb4]
  clear efb4
  clear p0 p1 q0 q1 r0 r1; have p0 := K.out.cell 0 rfl; have p1 := K.out.cell 1 rfl; have q0 := K.out.cell 2 rfl; have q1 := K.out.cell 3 rfl; have r0 := K.out.cell 4 rfl; have r1 := K.out.cell 5 rfl
  go_upto_region 19 with (first
    | (go_at_call 65; (with_reducible refine (list28_c _ _ _ _).mono ?_); rintro e w2 ⟨rfl, hw2⟩; subst hw2)
    | (go_at_call 75; refine (inf1_c _).mono ?_; rintro e Wn ⟨rfl, g0⟩; have K2 := Lib.hid (K.out.up g0); clear K; have K := K2; clear K2; clear p0 p1 q0 q1 r0 r1; have p0 := K.out.cell 0 rfl; have p1 := K.out.cell 1 rfl; have q0 := K.out.cell 2 rfl; have q1 := K.out.cell 3 rfl; have r0 := K.out.cell 4 rfl; have r1 := K.out.cell 5 rfl; clear g0)
    | (go_at_call 69; go_loud (refine (turnWild_c (list1_new _ _ _ _ _) rZ rInf (by decide +kernel)).mono ?_; rintro e W ⟨rfl, g1⟩; have K2 := Lib.hid ((K.out.new _).up (GrW.of g1)); clear K; have K := K2; clear K2; clear p0 p1 q0 q1 r0 r1; have p0 := K.out.cell 0 rfl; have p1 := K.out.cell 1 rfl; have q0 := K.out.cell 2 rfl; have q1 := K.out.cell 3 rfl; have r0 := K.out.cell 4 rfl; have r1 := K.out.cell 5 rfl))
    | fail)
  have HS : RowKit.Hid (W1 W sg sc 4607182418800017408 0 4618760256179416344) := Lib.hid ⟨K.out.lt 7 rfl, slc, stop, K.out.cell 7 rfl, K.out.cell 8 rfl⟩
  have HT : RowKit.Hid (W1 W tg tc 4607182418800017408 0 4618760256179416344) := Lib.hid ⟨K.out.lt 9 rfl, tlc, ttop, K.out.cell 9 rfl, K.out.cell 10 rfl⟩
  clear slc stop tlc ttop
  have o0 := K.out.cell 6 rfl
  have z0 : (FloatKind.f64.format.order 0 0 == some .eq) = true := by decide +kernel
  go_upto_region 20 with (first
    | (go_at_call 65; (with_reducible refine (list28_c _ _ _ _).mono ?_); rintro e w2 ⟨rfl, hw2⟩; subst hw2)
    | (go_at_call 76; refine (same28_c (HS.out.up ((GrW.refl _).alloc _)) (list1_new _ _ _ _ _) rOne rZ rT).mono ?_; rintro e W ⟨rfl, g1⟩; clear HS; have HT2 := Lib.hid ((HT.out.up ((GrW.refl _).alloc _)).up (GrW.of g1)); clear HT; have HT := HT2; clear HT2; have K2 := Lib.hid ((K.out.new _).up (GrW.of g1)); clear K; have K := K2; clear K2; clear p0 p1 q0 q1 r0 r1; have p0 := K.out.cell 0 rfl; have p1 := K.out.cell 1 rfl; have q0 := K.out.cell 2 rfl; have q1 := K.out.cell 3 rfl; have r0 := K.out.cell 4 rfl; have r1 := K.out.cell 5 rfl)
    | (go_at_call 76; refine (same28_c (HT.out.up ((GrW.refl _).alloc _)) (list1_new _ _ _ _ _) rOne rZ rT).mono ?_; rintro e W ⟨rfl, g1⟩; clear HT; have K2 := Lib.hid ((K.out.new _).up (GrW.of g1)); clear K; have K := K2; clear K2; clear p0 p1 q0 q1 r0 r1; have p0 := K.out.cell 0 rfl; have p1 := K.out.cell 1 rfl; have q0 := K.out.cell 2 rfl; have q1 := K.out.cell 3 rfl; have r0 := K.out.cell 4 rfl; have r1 := K.out.cell 5 rfl)
    | fail)
  clear o0
  have m2 : ∀ W, fres .mul 4611686018427387904 4618760256179416344 W = 4623263855806786840 := fun W => ((Rep.mul Rep.two rT).eq_of (by decide +kernel)).trans (by decide +kernel)
  have d2 : fdr .mul 4611686018427387904 4618760256179416344 = 0 := fdr_mul (by decide +kernel)
  have oD : (FloatKind.f64.format.order 4623263855806786840 4623263855806786840 == some .eq) = true := by decide +kernel
  have oN : (FloatKind.f64.format.order 13842132293034192152 13842132293034192152 == some .eq) = true := by decide +kernel
  go_upto_region 21 with (first
    | (go_at_call 20; go_loud (refine (signbit_c rZ _).mono ?_; rw [show sgn 0 = false by decide +kernel]; rintro e w' ⟨n, rfl, rfl⟩; have K2 := Lib.hid (K.out.up ((GrW.refl _).drewN n)); clear K; have K := K2; clear K2; clear p0 p1 q0 q1 r0 r1; have p0 := K.out.cell 0 rfl; have p1 := K.out.cell 1 rfl; have q0 := K.out.cell 2 rfl; have q1 := K.out.cell 3 rfl; have r0 := K.out.cell 4 rfl; have r1 := K.out.cell 5 rfl))
    | fail)
  have e1 := K.out.cell 11 rfl
  have e2 := K.out.cell 12 rfl
  have e3 := K.out.cell 13 rfl
  have e4 := K.out.cell 14 rfl
  have GK := Lib.hid K.out.gr
  clear K q0 q1 r0 r1 p0 m2 d2 oD
  go_region_held3 (fun w' => w'.cell? ⟨b, 1, none⟩ = some (.float .f64 4618760256179416344) ∧ w'.cell? ⟨fg, 0, none⟩ = some (.int .u8 2) ∧ w'.cell? ⟨fg, 2, none⟩ = some (.complex .f64 0 13842132293034192152) ∧ w'.cell? ⟨fb, 0, none⟩ = some (.slice (some ⟨fg, 0, none⟩) 1 fc) ∧ w'.cell? ⟨yg, 1, none⟩ = some (.float .f64 13842132293034192152)) (first | exact ⟨by assumption, by assumption, by assumption, by assumption, by assumption⟩ | go_keep) (fail)
  go_wp2_with (first
    | (go_at_call 77; go_loud (refine (alive28_c _).mono ?_; rintro e W8 ⟨rfl, g8⟩; obtain ⟨Wm2, hmk2, gmk2⟩ := mkMany_c W8; have G8 := Lib.hid g8; have GM2 := Lib.hid gmk2; clear g8 gmk2))
    | (go_at_call 78; go_loud (refine (checkMany_c (by decide) _).mono ?_; rintro e w' ⟨rfl, rfl⟩))
    | fail)
  go_ret
  exact ⟨rfl, grw_over GK.out (G8.out.trans GM2.out)⟩
end Go.Proofs.Ytcfkhhnkboealaa
