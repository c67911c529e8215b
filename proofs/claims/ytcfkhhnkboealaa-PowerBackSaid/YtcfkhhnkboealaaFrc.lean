/- RootTrue's fractions: a float as one, a square, a norm. RootTrue's under: some floats down, as a fraction. A fraction out of two whole numbers (RootTrue's above). RootTrue's above: some floats up, as a fraction; finite floats, a fraction out of two whole numbers. -/
import Derived.Test.YtcfkhhnkboealaaFLo
import Derived.Test.YtcfkhhnkboealaaRat4
import Derived.Test.YtcfkhhnkboealaaLos
namespace Go.Proofs.Ytcfkhhnkboealaa
open Go.RowKit
set_option linter.unusedVariables false
set_option linter.unusedSimpArgs false
set_option maxRecDepth 100000
set_option maxHeartbeats 4000000
theorem fracQ_c {f : Nat} (w : World) (hl : f < 18446744073709551616) (hf : fin f = true) : Calls Try.prog 37 #[.float .f64 f] w (RetNQ (sval f) U w) := by
  have HZ := Lib.hid (ratNew (Grown.refl w) 40)
  go_enter Try.func37, Try.ntmps37
  go_wp2_with (first
    | (go_at_call 90; (with_reducible refine (rsetf_c HZ.out hl hf).mono ?_); rintro e w' ⟨w1, hg1, rfl, hr, hg⟩)
    | fail)
  go_ret
  exact ⟨_, rfl, hr, hg.grown (gr_trans ((Grown.refl w).alloc _ _) hg1) (Nat.le_refl _), Nat.le_refl _⟩
theorem squareQ_c {g d : Nat} {n : Int} {w : World} (hx : RatAt w g n d) (ln : (digs n.natAbs).length ≤ 10000) (ld : (digs d).length ≤ 10000) :
    Calls Try.prog 40 #[.pointer (some ⟨g, 0, none⟩)] w (RetNQ (n * n) (d * d) w) := by
  have HZ := Lib.hid (ratNew (Grown.refl w) 40)
  have GA : RowKit.Hid (Grown w (w.alloc (.cells #[.bool false, .slice none 0 0, .slice none 0 0] 40))) := Lib.hid ((Grown.refl w).alloc _ _)
  have HX := Lib.hid (hx.grown GA.out)
  have HN := Lib.hid (Nat.ne_of_lt hx.z.lt)
  clear hx
  go_enter Try.func40, Try.ntmps40
  go_wp2_with (first
    | (go_at_call 32; (with_reducible refine (rMul_c HZ.out HX.out HX.out HN.out HN.out ln ld ln ld).mono ?_); rintro e w' ⟨w1, hg1, rfl, hr, hg⟩)
    | fail)
  go_ret
  exact ⟨_, rfl, hr, hg.grown (gr_trans ((Grown.refl w).alloc _ _) hg1) (Nat.le_refl _), Nat.le_refl _⟩
theorem normQ_c {g1 g2 d1 d2 : Nat} {n1 n2 : Int} {w : World} (hx : RatAt w g1 n1 d1) (hy : RatAt w g2 n2 d2)
    (ln1 : (digs n1.natAbs).length ≤ 5000) (ld1 : (digs d1).length ≤ 5000) (ln2 : (digs n2.natAbs).length ≤ 5000) (ld2 : (digs d2).length ≤ 5000)
    (lq1 : (digs (n1 * n1).natAbs).length ≤ 10000) (lq2 : (digs (n2 * n2).natAbs).length ≤ 10000) (le1 : (digs (d1 * d1)).length ≤ 10000) (le2 : (digs (d2 * d2)).length ≤ 10000) :
    Calls Try.prog 38 #[.pointer (some ⟨g1, 0, none⟩), .pointer (some ⟨g2, 0, none⟩)] w (RetNQ (n1 * n1 * ((d2 * d2 : Nat) : Int) + n2 * n2 * ((d1 * d1 : Nat) : Int)) (d1 * d1 * (d2 * d2)) w) := by
  have HZ := Lib.hid (ratNew (Grown.refl w) 40)
  have GA : RowKit.Hid (Grown w (w.alloc (.cells #[.bool false, .slice none 0 0, .slice none 0 0] 40))) := Lib.hid ((Grown.refl w).alloc _ _)
  have H1 := Lib.hid (squareQ_c (hx.grown GA.out) (Nat.le_trans ln1 (by decide)) (Nat.le_trans ld1 (by decide)))
  have H2 := Lib.hid (fun W (h : Grown w W) => squareQ_c (hy.grown h) (Nat.le_trans ln2 (by decide)) (Nat.le_trans ld2 (by decide)))
  clear hx hy
  go_enter Try.func38, Try.ntmps38
  go_wp2_with (first
    | (go_at_call_of 40 (Value.pointer (some (Addr.mk g1 0 none))); go_loud ((with_reducible refine H1.out.mono ?_); rintro e W1 ⟨h1, rfl, hr, hg, hge⟩; have HR1 := Lib.hid hr; have HG1 := Lib.hid hg; clear hr hg hge))
    | (go_at_call_of 40 (Value.pointer (some (Addr.mk g2 0 none))); go_loud ((with_reducible refine (H2.out _ (gr_trans GA.out HG1.out)).mono ?_); rintro e W2 ⟨h2, rfl, hr, hg, hge⟩; have HR2 := Lib.hid hr; have HG2 := Lib.hid hg; clear hr hg hge))
    | (go_at_call 21; go_loud ((with_reducible refine (rAdd_c ((HZ.out.grown HG1.out).grown HG2.out) (HR1.out.grown HG2.out) HR2.out lq1 le1 lq2 le2).mono ?_); rintro e W3 ⟨w1, hg1, rfl, hr, hg⟩))
    | fail)
  go_ret
  exact ⟨_, rfl, hr, hg.grown (gr_trans (gr_trans GA.out (gr_trans HG1.out HG2.out)) hg1) (Nat.le_refl _), Nat.le_refl _⟩
end Go.Proofs.Ytcfkhhnkboealaa
namespace Go.Proofs.Ytcfkhhnkboealaa
open Go.RowKit
set_option linter.unusedVariables false
set_option linter.unusedSimpArgs false
set_option maxRecDepth 100000
set_option maxHeartbeats 4000000
theorem fin_pos {r : Nat} (h : r < 9218868437227405312) : fin r = true ∧ sgn r = false ∧ rung r = r ∧ isN r = false := by
  have h1 : rung r = r := rung_pos (by omega)
  have hf : fin r = true := by unfold Proofs.Ytcfkhhnkboealaa.fin; rw [h1]; simpa using h
  exact ⟨hf, sgn_rung (by omega), h1, fin_notN hf⟩
theorem flt0 {r : Nat} (h : r < 9218868437227405312) : flt 0 r = decide (0 < r) := by
  rw [flt_eq, (fin_pos h).2.2.2, sval_pos' (show r ≤ 9218868437227405312 by omega), show sval 0 = 0 by decide +kernel, show isN 0 = false by decide +kernel]
  rcases Nat.eq_zero_or_pos r with rfl | g
  · decide +kernel
  · have := mval_pos g
    simp [g]
    try omega
theorem flt0' {r : Nat} (h : r < 9218868437227405312) : flt r 0 = false := by
  rw [flt_eq, num_pos (by omega), sval_pos' (by omega), show sval 0 = 0 by decide +kernel, show isN 0 = false by decide +kernel]
  simp
  try omega
theorem next_dn {r : Nat} (h0 : 0 < r) (h : r < 9218868437227405312) : nextF r 0 = r - 1 := by
  obtain ⟨_, _, h3, h4⟩ := fin_pos h
  unfold nextF
  rw [h4, show isN 0 = false by decide +kernel, feq_zero h4, h3, flt0 h, flt0' h]
  have : ¬ (r = 0) := by omega
  simp [this, h0]
  exact nrm_of_not (fin_pos (by omega)).2.2.2
theorem under_c {l : Nat} (w : World) (hl : l < 9218868437227405312) : Calls Try.prog 41 #[.float .f64 l, .int .i64 4] w (RetNQ (sval (l - 4)) U w) := by
  go_enter Try.func41, Try.ntmps41
  go_wp2
  go_loopw [0, 5] (fun a i wr => ∃ k d : Nat, i = .int .i64 k ∧ k ≤ 4 ∧ a = .float .f64 (l - k) ∧ wr = w.drewN d) (fun _ i _ => 4 - (intOf i).toNat)
  case atStart => exact ⟨0, 0, rfl, by omega, rfl, rfl⟩
  case round =>
    obtain ⟨k, d, rfl, hk, rfl, rfl⟩ := hrel
    have hlt : l - k < 9218868437227405312 := by omega
    obtain ⟨f1, f2, f3, f4⟩ := fin_pos hlt
    have hr : Rep (l - k) (l - k) := Rep.self (by omega) (nrm_of_not f4)
    have k1 := hr.gt' Rep.c0
    rw [flt0 hlt] at k1
    by_cases hk4 : k < 4
    · by_cases hp : 0 < l - k
      · have hd := next_dn hp hlt
        rw [decide_eq_true hp] at k1
        go_wp2_with (first
          | (go_at_call 24; (with_reducible refine (next_c hr Rep.c0 _).mono ?_); rw [hd]; rintro e w' ⟨r, n, rfl, hr1, rfl⟩; have hr2 := hr1.eq_of (fin_pos (by omega)).2.2.2; subst hr2)
          | fail)
        go_roundw
        case rel => exact ⟨k + 1, _, by go_num, by omega, by rw [Nat.sub_sub], rfl⟩
        case measure => simp [intOf]; omega
      · have e0 : sval (l - 4) = sval (l - k) := by congr 1; omega
        rw [decide_eq_false hp] at k1
        go_wp2_with (first
          | (go_at_call 37; (with_reducible refine (fracQ_c _ hr.flt f1).mono ?_); rintro e w' ⟨g, rfl, h1, h2, h3⟩)
          | fail)
        go_ret
        rw [e0]
        exact ⟨_, rfl, h1, h2, h3⟩
    · obtain rfl : k = 4 := by omega
      go_wp2_with (first
        | (go_at_call 37; (with_reducible refine (fracQ_c _ hr.flt f1).mono ?_); rintro e w' ⟨g, rfl, h1, h2, h3⟩)
        | fail)
      go_ret
      exact ⟨_, rfl, h1, h2, h3⟩
end Go.Proofs.Ytcfkhhnkboealaa
namespace Go.Proofs.Ytcfkhhnkboealaa
open Go.RowKit
set_option linter.unusedVariables false
set_option linter.unusedSimpArgs false
set_option maxRecDepth 100000
set_option maxHeartbeats 4000000
theorem setFrac_c {g gx gy A D : Nat} {vx vy : Value} {w : World} (hZ : RatZ w g) (hx : IntC w gx false vx) (hy : IntC w gy false vy) (ha : IsW w vx (digs A)) (hd : IsW w vy (digs D)) (hgx : gx ≠ g) (hgy : gy ≠ g) (hD : D ≠ 0)
    (lA : (digs A).length ≤ 50000) (lD : (digs D).length ≤ 50000) :
    Calls Try.prog 176 #[.pointer (some ⟨g, 0, none⟩), .pointer (some ⟨gx, 0, none⟩), .pointer (some ⟨gy, 0, none⟩)] w (fun e w' => ∃ w1, Grown w w1 ∧ RetR g (sg false A) D w1 e w') := by
  have x0 := hx.c0
  have x1 := hx.c1
  have t0 := hy.c0
  have t1 := hy.c1
  have HZ := Lib.hid hZ
  have HX := Lib.hid hx
  have HY := Lib.hid hy
  have HA := Lib.hid ha
  have HD := Lib.hid hd
  clear hZ hx hy ha hd
  go_enter Try.func176, Try.ntmps176
  go_upto_region 1 with fail
  go_region_held3 (fun w' => w'.cell? ⟨gx, 0, none⟩ = some (.bool false) ∧ w'.cell? ⟨gx, 1, none⟩ = some vx ∧ w'.cell? ⟨gy, 0, none⟩ = some (.bool false) ∧ w'.cell? ⟨gy, 1, none⟩ = some vy) (first | exact ⟨by assumption, by assumption, by assumption, by assumption⟩ | go_keep) (first
    | (go_at_call_of 148 vx; (with_reducible refine (copied_c (HA.out.grown (gr_drew1 (Grown.refl w)))).mono ?_); rintro e W1 ⟨u1, rfl, hv, hg⟩; have HU1 := Lib.hid hv; have HG1 := Lib.hid (gr_trans (gr_drew1 (Grown.refl w)) hg); have y0 := (HX.out.grown HG1.out).c0; have y1 := (HX.out.grown HG1.out).c1; have y2 := (HY.out.grown HG1.out).c0; have y3 := (HY.out.grown HG1.out).c1; clear hv hg)
    | (go_at_call_of 148 vy; (with_reducible refine (copied_c (HD.out.grown HG1.out)).mono ?_); rintro e W2 ⟨u2, rfl, hv, hg⟩; have HU2 := Lib.hid hv; have HG2 := Lib.hid hg; have HG3 := Lib.hid (gr_trans HG1.out hg); have q0 := (HX.out.grown HG3.out).c0; have q1 := (HX.out.grown HG3.out).c1; have q2 := (HY.out.grown HG3.out).c0; have q3 := (HY.out.grown HG3.out).c1; clear hv hg)
    | (go_at_call 103; (with_reducible refine (rset_c (HZ.out.grown HG3.out) (HU1.out.grown HG2.out) HU2.out hD lA lD).mono ?_); rintro e w4 ⟨rfl, hr, hg4⟩; have z0 := ((HX.out.grown HG3.out).kept hg4 hgx).c0; have z1 := ((HX.out.grown HG3.out).kept hg4 hgx).c1; have z2 := ((HY.out.grown HG3.out).kept hg4 hgy).c0; have z3 := ((HY.out.grown HG3.out).kept hg4 hgy).c1)
    | fail)
  go_wp2_with fail
  go_ret
  exact ⟨W2, HG3.out, rfl, hr, hg4⟩
theorem digs_len_small {A : Nat} (h : A < 9223372036854775808) : (digs A).length ≤ 50000 := by
  have h1 : bl A ≤ 63 := bl_le_of (by rw [show (2 : Nat) ^ 63 = 9223372036854775808 by decide]; exact h)
  have h2 : (digs (A * 2 ^ 0)).length ≤ 2 := digs_len_pow (by omega)
  rw [Nat.pow_zero, Nat.mul_one] at h2
  omega
theorem setFrac64_c {g A D : Nat} {w : World} (hZ : RatZ w g) (hD : D ≠ 0) (hA : A < 9223372036854775808) (hd : D < 9223372036854775808) :
    Calls Try.prog 152 #[.pointer (some ⟨g, 0, none⟩), .int .i64 (A : Int), .int .i64 (D : Int)] w (fun e w' => ∃ w1, Grown w w1 ∧ RetR g (sg false A) D w1 e w') := by
  have HZ := Lib.hid hZ
  have HL := Lib.hid (And.intro (digs_len_small hA) (digs_len_small hd))
  have HB := Lib.hid (And.intro hA hd)
  have HLT := Lib.hid hZ.lt
  clear hZ hA hd
  go_enter Try.func152, Try.ntmps152
  go_wp2_with (first
    | (go_at_call_of 31 (Value.int IntKind.i64 (A : Int)); go_loud ((with_reducible refine (newInt_c _ HB.out.1).mono ?_); rintro e W1 ⟨ga, va, rfl, hv, hi, hg, hge⟩; have HV1 := Lib.hid hv; have HI1 := Lib.hid hi; have HG1 := Lib.hid hg; have HN1 : RowKit.Hid (ga ≠ g) := Lib.hid (Nat.ne_of_gt (Nat.lt_of_lt_of_le HLT.out hge)); clear hv hi hg hge))
    | (go_at_call_of 31 (Value.int IntKind.i64 (D : Int)); go_loud ((with_reducible refine (newInt_c _ HB.out.2).mono ?_); rintro e W2 ⟨gd, vd, rfl, hv, hi, hg, hge⟩; have HV2 := Lib.hid hv; have HI2 := Lib.hid hi; have HG2 := Lib.hid hg; have HN2 : RowKit.Hid (gd ≠ g) := Lib.hid (Nat.ne_of_gt (Nat.lt_of_lt_of_le (HZ.out.grown HG1.out).lt hge)); clear hv hi hg hge))
    | (go_at_call 176; go_loud ((with_reducible refine (setFrac_c (HZ.out.grown (gr_trans HG1.out HG2.out)) (HI1.out.grown HG2.out) HI2.out (HV1.out.grown HG2.out) HV2.out HN1.out HN2.out hD HL.out.1 HL.out.2).mono ?_); rintro e W3 ⟨w1, hg1, rfl, hr, hg⟩))
    | fail)
  go_ret
  exact ⟨w1, gr_trans (gr_trans HG1.out HG2.out) hg1, rfl, hr, hg⟩
end Go.Proofs.Ytcfkhhnkboealaa
namespace Go.Proofs.Ytcfkhhnkboealaa
open Go.RowKit
set_option linter.unusedVariables false
set_option linter.unusedSimpArgs false
set_option maxRecDepth 100000
set_option maxHeartbeats 4000000
theorem fin6_eq {f : Nat} (hl : f < 18446744073709551616) : (fle 18442240474082181119 f && fle f 9218868437227405311) = fin f := by
  have e1 : isN 18442240474082181119 = false := by decide +kernel
  have e2 : isN 9218868437227405311 = false := by decide +kernel
  have e3 : sval 18442240474082181119 = -((mval 9218868437227405311 : Nat) : Int) := by decide +kernel
  have e4 : sval 9218868437227405311 = ((mval 9218868437227405311 : Nat) : Int) := by decide +kernel
  rw [fle_eq, fle_eq, e1, e2, e3, e4]
  cases hn : isN f
  · have hr := (notN_iff f).1 hn
    unfold Proofs.Ytcfkhhnkboealaa.fin sval
    have hm : mval (rung f) ≤ mval 9218868437227405311 ↔ rung f ≤ 9218868437227405311 := mval_le_iff
    have h0 : (0 : Int) ≤ ((mval (rung f) : Nat) : Int) := Int.natCast_nonneg _
    have h1 : (0 : Int) ≤ ((mval 9218868437227405311 : Nat) : Int) := Int.natCast_nonneg _
    have hm2 : ((mval (rung f) : Nat) : Int) ≤ ((mval 9218868437227405311 : Nat) : Int) ↔ rung f < 9218868437227405312 := by omega
    generalize ((mval (rung f) : Nat) : Int) = A at *
    generalize ((mval 9218868437227405311 : Nat) : Int) = B at *
    have hk : (decide (rung f < 9218868437227405312)) = decide (A ≤ B) := by simp [hm2]
    rw [hk]
    cases sgn f <;> simp <;> omega
  · have : fin f = false := by
      cases h : fin f
      · rfl
      · have := fin_notN h; rw [hn] at this; cases this
    rw [this]; simp
theorem Rep.cnmax : Rep 18442240474082181119 18442240474082181119 := Rep.self (by decide) (by decide +kernel)
theorem fin6_c {x f : Nat} (hx : Rep x f) (w : World) : Calls Try.prog 36 #[.float .f64 x] w (RetB (fin f) w) := by
  have k1 := hx.ge' Rep.cnmax
  have k2 := hx.le' Rep.cmax
  have HE := Lib.hid (fin6_eq hx.flt)
  cases h1 : fle 18442240474082181119 f
  all_goals
    have H1 := Lib.hid h1
    rw [h1] at k1
    clear h1
    go_enter Try.func36, Try.ntmps36
    go_wp2
    go_ret
    refine RetB.mk0 (Eq.trans ?_ HE.out)
    rw [H1.out]
    simp
theorem newRat_c {A D : Nat} (w : World) (hD : D ≠ 0) (hA : A < 9223372036854775808) (hd : D < 9223372036854775808) : Calls Try.prog 108 #[.int .i64 (A : Int), .int .i64 (D : Int)] w (RetNQ (A : Int) D w) := by
  have HZ := Lib.hid (ratNew (Grown.refl w) 40)
  have HB := Lib.hid (And.intro hD (And.intro hA hd))
  clear hD hA hd
  go_enter Try.func108, Try.ntmps108
  go_wp2_with (first
    | (go_at_call 152; go_loud ((with_reducible refine (setFrac64_c HZ.out HB.out.1 HB.out.2.1 HB.out.2.2).mono ?_); rintro e W3 ⟨w1, hg1, rfl, hr, hg⟩))
    | fail)
  go_ret
  exact ⟨_, rfl, hr, hg.grown (gr_trans ((Grown.refl w).alloc _ _) hg1) (Nat.le_refl _), Nat.le_refl _⟩
theorem next_up {r : Nat} (h : r < 9218868437227405312) : nextF r infP = r + 1 := by
  obtain ⟨_, _, h3, h4⟩ := fin_pos h
  have e1 : feq r infP = false := by
    rw [feq_eq, h4, show isN infP = false by decide +kernel, sval_pos' (by omega), show sval infP = ((mval 9218868437227405312 : Nat) : Int) by decide +kernel]
    have := mval_lt_iff.2 h
    simp; omega
  have e2 : flt r infP = true := by
    rw [flt_eq, h4, show isN infP = false by decide +kernel, sval_pos' (by omega), show sval infP = ((mval 9218868437227405312 : Nat) : Int) by decide +kernel]
    have := mval_lt_iff.2 h
    simp; omega
  unfold nextF
  rw [h4, show isN infP = false by decide +kernel, e1, e2, feq_zero h4, h3, flt0 h]
  by_cases h0 : r = 0
  · subst h0
    simp
    decide +kernel
  · have hp : 0 < r := by omega
    simp [h0, hp]
    exact nrm_of_not (num_pos (by omega))
theorem next_inf : nextF infP infP = infP := by decide +kernel
theorem infP_eq : infP = 9218868437227405312 := rfl
theorem next_min {m : Nat} : nextF (min m 9218868437227405312) infP = min (m + 1) 9218868437227405312 := by
  by_cases h : m < 9218868437227405312
  · rw [Nat.min_eq_left (by omega), next_up h]; omega
  · rw [Nat.min_eq_right (by omega), ← infP_eq, next_inf, infP_eq]; omega
/-- what above comes to: the number above the line, that below it. -/
def abN (l : Nat) : Int := if l + 4 < 9218868437227405312 then sval (l + 4) else sval 9218868437227405311 * 2
theorem above_c {l : Nat} (w : World) (hl : l < 9218868437227405312) : Calls Try.prog 42 #[.float .f64 l, .int .i64 4] w (RetNQ (abN l) U w) := by
  have HD := Lib.hid (And.intro (digs_sval (f := 9218868437227405311) (by decide +kernel)) digs_U)
  have HE : RowKit.Hid (4 + l < 9218868437227405312 ∨ ¬ 4 + l < 9218868437227405312) := Lib.hid (Decidable.em _)
  have HDD : RowKit.Hid ((digs (2 : Int).natAbs).length ≤ 10000 ∧ (digs 1).length ≤ 10000) := Lib.hid (by decide +kernel)
  have HNR : RowKit.Hid (∀ W, Calls Try.prog 108 #[.int .i64 2, .int .i64 1] W (RetNQ 2 1 W)) := Lib.hid (fun W => newRat_c (A := 2) (D := 1) W (by decide) (by decide) (by decide))
  have HFM : RowKit.Hid (∀ W, Calls Try.prog 37 #[.float .f64 9218868437227405311] W (RetNQ (sval 9218868437227405311) U W)) := Lib.hid (fun W => fracQ_c W (by decide) (by decide +kernel))
  go_enter Try.func42, Try.ntmps42
  go_wp2
  go_loopw [0, 5] (fun a i wr => ∃ k d : Nat, i = .int .i64 k ∧ k ≤ 4 ∧ a = .float .f64 (min (l + k) 9218868437227405312) ∧ wr = w.drewN d) (fun _ i _ => 4 - (intOf i).toNat)
  case atStart => exact ⟨0, 0, rfl, by omega, by rw [Nat.add_zero, Nat.min_eq_left (by omega)], rfl⟩
  case round =>
    obtain ⟨k, d, rfl, hk, rfl, rfl⟩ := hrel
    have hle : min (l + k) 9218868437227405312 ≤ 9218868437227405312 := Nat.min_le_right _ _
    have hnn := num_pos hle
    have hr : Rep (min (l + k) 9218868437227405312) (min (l + k) 9218868437227405312) := Rep.self (by omega) (nrm_of_not hnn)
    have HNX := Lib.hid (next_min (m := l + k))
    by_cases hk4 : k < 4
    · go_wp2_with (first
        | (go_at_call 75; (with_reducible refine (inf_c _ _).mono ?_); rw [if_pos (by decide)]; rintro e w' ⟨r2, n2, rfl, hr2, rfl⟩)
        | (go_at_call 24; (with_reducible refine (next_c hr hr2 _).mono ?_); rw [HNX.out]; rintro e w' ⟨r, n, rfl, hr1, rfl⟩; have hr3 := hr1.eq_of (num_pos (Nat.min_le_right _ _)); subst hr3)
        | fail)
      go_roundw
      case rel => exact ⟨k + 1, _, by go_num, by omega, by rw [Nat.add_assoc], by first | rfl | (simp only [World.drewN_drewN]; rfl)⟩
      case measure => simp [intOf]; omega
    · obtain rfl : k = 4 := by omega
      rcases HE.out with hc | hc
      · have hm : min (l + 4) 9218868437227405312 = l + 4 := Nat.min_eq_left (by omega)
        rw [hm] at hr ⊢
        obtain ⟨f1, f2, f3, f4⟩ := fin_pos (show l + 4 < 9218868437227405312 by omega)
        have HF1 := Lib.hid f1
        have HA : RowKit.Hid (abN l = sval (l + 4)) := Lib.hid (if_pos (by omega))
        clear f1 f2 f3 f4 hm HNX
        go_wp2_with (first
          | (go_at_call 36; (with_reducible refine (fin6_c hr _).mono ?_); rw [HF1.out]; rintro e w' ⟨n, rfl, rfl⟩)
          | (go_at_call 37; (with_reducible refine (fracQ_c _ hr.flt HF1.out).mono ?_); rintro e w' ⟨g, rfl, h1, h2, h3⟩)
          | fail)
        go_ret
        rw [HA.out]
        exact ⟨_, rfl, h1, gr_trans (gr_drewN _ (Grown.refl w)) h2, h3⟩
      · have hm : min (l + 4) 9218868437227405312 = 9218868437227405312 := Nat.min_eq_right (by omega)
        rw [hm] at hr ⊢
        have HF1 : RowKit.Hid (fin 9218868437227405312 = false) := Lib.hid (by decide +kernel)
        have HA : RowKit.Hid (abN l = sval 9218868437227405311 * 2) := Lib.hid (if_neg (by omega))
        clear hm HNX
        go_upto_region 4 with (first
          | (go_at_call 36; (with_reducible refine (fin6_c hr _).mono ?_); rw [HF1.out]; rintro e w' ⟨n, rfl, rfl⟩)
          | fail)
        generalize eW : World.drewN _ _ = W
        have HG0 : RowKit.Hid (Grown w W) := Lib.hid (by rw [← eW]; exact gr_drewN _ (Grown.refl w))
        have HS : RowKit.Hid (W.heap.size = w.heap.size) := Lib.hid (by rw [← eW]; rfl)
        clear eW
        have HZ0 : RowKit.Hid (RatZ (W.alloc (.cells #[.bool false, .slice none 0 0, .slice none 0 0] 40)) w.heap.size) := Lib.hid (by rw [← HS.out]; exact ratNew (Grown.refl W) 40)
        have GA : RowKit.Hid (Grown W (W.alloc (.cells #[.bool false, .slice none 0 0, .slice none 0 0] 40))) := Lib.hid ((Grown.refl W).alloc _ _)
        go_wp2_with (first
          | (go_at_call 37; go_loud ((with_reducible refine (HFM.out _).mono ?_); rintro e W5 ⟨g5, rfl, hr5, hg5, hge5⟩; have HR5 := Lib.hid hr5; have HG5 := Lib.hid hg5; have HN5 : RowKit.Hid (g5 ≠ w.heap.size) := Lib.hid (Nat.ne_of_gt (Nat.lt_of_lt_of_le HZ0.out.lt hge5)); clear hr5 hg5 hge5))
          | (go_at_call 108; go_loud ((with_reducible refine (HNR.out _).mono ?_); rintro e W6 ⟨g6, rfl, hr6, hg6, hge6⟩; have HR6 := Lib.hid hr6; have HG6 := Lib.hid hg6; have HN6 : RowKit.Hid (g6 ≠ w.heap.size) := Lib.hid (Nat.ne_of_gt (Nat.lt_of_lt_of_le (HZ0.out.grown HG5.out).lt hge6)); clear hr6 hg6 hge6))
          | (go_at_call 32; go_loud ((with_reducible refine (rMul_c ((HZ0.out.grown HG5.out).grown HG6.out) (HR5.out.grown HG6.out) HR6.out HN5.out HN6.out (Nat.le_trans HD.out.1 (by decide)) (Nat.le_trans HD.out.2 (by decide)) HDD.out.1 HDD.out.2).mono ?_); rintro e W7 ⟨u3, hg1, rfl, hr7, hg7⟩))
          | fail)
        go_ret
        rw [HA.out]
        rw [Nat.mul_one] at hr7
        exact ⟨_, rfl, hr7, gr_trans HG0.out (hg7.grown (gr_trans GA.out (gr_trans HG5.out (gr_trans HG6.out hg1))) (Nat.le_of_eq HS.out)), Nat.le_refl _⟩
end Go.Proofs.Ytcfkhhnkboealaa
