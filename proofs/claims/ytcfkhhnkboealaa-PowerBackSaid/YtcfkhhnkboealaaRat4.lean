/- Whole numbers and fractions: of a number, times a power of two, set; products and quotients. -/
import Derived.Test.YtcfkhhnkboealaaRtz
namespace Go.Proofs.Ytcfkhhnkboealaa
open Go.RowKit
set_option linter.unusedVariables false
set_option linter.unusedSimpArgs false
set_option maxRecDepth 100000
set_option maxHeartbeats 4000000
theorem isetn_c {g n : Nat} {b0 : Bool} {v0 : Value} {w : World} (hI : IntC w g b0 v0) (hn : n < 9223372036854775808) :
    Calls Try.prog 102 #[.pointer (some ⟨g, 0, none⟩), .int .i64 (n : Int)] w (fun e w' => ∃ w1, Grown w w1 ∧ RetIS g (n : Int) w1 e w') := by
  have HI := Lib.hid hI
  have HS := Lib.hid digs_sm
  have HW := Lib.hid wv_digs
  have hpos : ¬ ((n : Int) < 0) := by omega
  clear hI
  go_enter Try.func102, Try.ntmps102
  go_wp2_with (first
    | (go_at_call 142; (with_reducible refine (fromUint_c n (by omega) _).mono ?_); rintro e w1 ⟨v1, rfl, hv1, hg1⟩; have HV1 := Lib.hid hv1; have HG1 := Lib.hid hg1; clear hv1 hg1)
    | (go_at_call 100; (with_reducible refine (iset_c (HI.out.grown HG1.out) HV1.out (HS.out _) (HW.out _)).mono ?_); rintro e w2 ⟨v2, rfl, hv2, hi2, hg2, hk2⟩)
    | fail)
  go_ret
  exact ⟨w1, HG1.out, RetI2.to ⟨v2, rfl, hv2, hi2, hg2, hk2⟩ rfl⟩
/-- hands back a new whole number. -/
def RetNI (N : Nat) (w : World) (e : Ending) (w' : World) : Prop := ∃ g v, e = .returned (.pointer (some ⟨g, 0, none⟩)) ∧ IsW w' v (digs N) ∧ IntC w' g false v ∧ Grown w w' ∧ w.heap.size ≤ g
theorem newInt_c {n : Nat} (w : World) (hn : n < 9223372036854775808) : Calls Try.prog 31 #[.int .i64 (n : Int)] w (RetNI n w) := by
  have HI := Lib.hid (intNew (Grown.refl w) 38)
  go_enter Try.func31, Try.ntmps31
  go_wp2_with (first
    | (go_at_call 102; (with_reducible refine (isetn_c HI.out hn).mono ?_); rintro e w2 ⟨w1, hg1, v2, rfl, hv2, hi2, hg2, hk2⟩)
    | fail)
  go_ret
  have hb : decide (((n : Int)) < 0) = false := decide_eq_false (by omega)
  rw [hb] at hi2
  rw [Int.natAbs_natCast] at hv2
  exact ⟨_, v2, rfl, hv2, hi2, hg2.grown (gr_trans ((Grown.refl w).alloc _ _) hg1) (Nat.le_refl _), Nat.le_refl _⟩
theorem ilsh_c {g gx A n : Nat} {b0 bx : Bool} {v0 vx : Value} {w : World} (hI : IntC w g b0 v0) (hx : IntC w gx bx vx) (ha : IsW w vx (digs A)) (hne : gx ≠ g) (hn : n ≤ 100000) (lA : (digs A).length ≤ 1000000) :
    Calls Try.prog 30 #[.pointer (some ⟨g, 0, none⟩), .pointer (some ⟨gx, 0, none⟩), .int .u64 (n : Int)] w (fun e w' => ∃ w1, Grown w w1 ∧ RetI2 g bx (A * 2 ^ n) w1 e w') := by
  have x0 := hx.c0
  have x1 := hx.c1
  have HI := Lib.hid hI
  have HX := Lib.hid hx
  have HA := Lib.hid ha
  have HS := Lib.hid digs_sm
  have HW := Lib.hid wv_digs
  clear hI hx ha
  go_enter Try.func30, Try.ntmps30
  go_upto_region 1 with fail
  go_region_held3 (fun w' => w'.cell? ⟨gx, 0, none⟩ = some (.bool bx) ∧ w'.cell? ⟨gx, 1, none⟩ = some vx) (first | exact ⟨by assumption, by assumption⟩ | go_keep) (first
    | (go_at_call 101; (try rw [IntWalk.i64_in (n : Int) ⟨by omega, by omega⟩]); (with_reducible refine (upW_c n (HA.out.grown (gr_drew1 (Grown.refl w))) hn lA).mono ?_); rintro e W1 ⟨u1, rfl, hv, hg⟩; have HU1 := Lib.hid hv; have HG1 := Lib.hid (gr_trans (gr_drew1 (Grown.refl w)) hg); have y0 := (HX.out.grown HG1.out).c0; have y1 := (HX.out.grown HG1.out).c1; clear hv hg)
    | (go_at_call 100; (with_reducible refine (iset_c (HI.out.grown HG1.out) HU1.out (HS.out _) (HW.out _)).mono ?_); rintro e w2 ⟨v2, rfl, hv2, hi2, hg2, hk2⟩; have z0 := ((HX.out.grown HG1.out).kept hg2 hne).c0; have z1 := ((HX.out.grown HG1.out).kept hg2 hne).c1)
    | fail)
  go_wp2_with fail
  go_ret
  exact ⟨W1, HG1.out, v2, rfl, hv2, hi2, hg2, hk2⟩
theorem iSet_c {g gx A : Nat} {b0 bx : Bool} {v0 vx : Value} {w : World} (hI : IntC w g b0 v0) (hx : IntC w gx bx vx) (ha : IsW w vx (digs A)) (hne : gx ≠ g) :
    Calls Try.prog 99 #[.pointer (some ⟨g, 0, none⟩), .pointer (some ⟨gx, 0, none⟩)] w (fun e w' => ∃ w1, Grown w w1 ∧ RetI2 g bx A w1 e w') := by
  have x0 := hx.c0
  have x1 := hx.c1
  have HI := Lib.hid hI
  have HX := Lib.hid hx
  have HA := Lib.hid ha
  have HS := Lib.hid digs_sm
  have HW := Lib.hid wv_digs
  clear hI hx ha
  go_enter Try.func99, Try.ntmps99
  go_upto_region 1 with fail
  go_region_held3 (fun w' => w'.cell? ⟨gx, 0, none⟩ = some (.bool bx) ∧ w'.cell? ⟨gx, 1, none⟩ = some vx) (first | exact ⟨by assumption, by assumption⟩ | go_keep) (first
    | (go_at_call 148; (with_reducible refine (copied_c (HA.out.grown (gr_drew1 (Grown.refl w)))).mono ?_); rintro e W1 ⟨u1, rfl, hv, hg⟩; have HU1 := Lib.hid hv; have HG1 := Lib.hid (gr_trans (gr_drew1 (Grown.refl w)) hg); have y0 := (HX.out.grown HG1.out).c0; have y1 := (HX.out.grown HG1.out).c1; clear hv hg)
    | (go_at_call 100; (with_reducible refine (iset_c (HI.out.grown HG1.out) HU1.out (HS.out _) (HW.out _)).mono ?_); rintro e w2 ⟨v2, rfl, hv2, hi2, hg2, hk2⟩; have z0 := ((HX.out.grown HG1.out).kept hg2 hne).c0; have z1 := ((HX.out.grown HG1.out).kept hg2 hne).c1)
    | fail)
  go_wp2_with fail
  go_ret
  exact ⟨W1, HG1.out, v2, rfl, hv2, hi2, hg2, hk2⟩
theorem rsetI_c {g gx A : Nat} {bx : Bool} {vx : Value} {w : World} (hz : RatZ w g) (hx : IntC w gx bx vx) (ha : IsW w vx (digs A)) (hne : gx ≠ g) :
    Calls Try.prog 29 #[.pointer (some ⟨g, 0, none⟩), .pointer (some ⟨gx, 0, none⟩)] w (fun e w' => ∃ w1, Grown w w1 ∧ RetR g (sg bx A) 1 w1 e w') := by
  obtain ⟨b0, u1, u2, hC⟩ := hz
  have HC := Lib.hid hC
  have H := Lib.hid (iSet_c hC.i hx ha hne)
  clear hC hx ha
  go_enter Try.func29, Try.ntmps29
  go_wp2_with (first
    | (go_at_call 99; (with_reducible refine H.out.mono ?_); rintro e w2 ⟨w1, hg1, v2, rfl, hv2, hi2, hg2, hk2⟩; have c2 := (hk2 2 (Nat.le_refl _)).trans (HC.out.grown hg1).c2; have f2 := hi2.fz 2; have HI2 := Lib.hid hi2; clear hk2 hi2)
    | fail)
  go_ret
  have hi2 := HI2.out
  have hR : RatC w2 g (bx && decide (A ≠ 0)) v2 u2 := ⟨hi2, c2⟩
  refine ⟨w1, hg1, rfl, ⟨_, v2, .slice none 0 0, A, 0, hR.s2 _ (by intro x e; cases e), hv2.kept ((GrB.refl g w2).set 2 _) hi2.no, IsW.nil _, ⟨⟨1, by decide, rfl, ?_⟩, fun e => by subst e; simp⟩⟩, hg2.set 2 _⟩
  have h1 : sg (bx && decide (A ≠ 0)) A = sg bx A := by
    by_cases h : A = 0
    · subst h; cases bx <;> rfl
    · simp [h]
  rw [h1]; simp
theorem rMul_c {g gx gy d1 d2 : Nat} {n1 n2 : Int} {w : World} (hz : RatZ w g) (hx : RatAt w gx n1 d1) (hy : RatAt w gy n2 d2) (hgx : gx ≠ g) (hgy : gy ≠ g)
    (ln1 : (digs n1.natAbs).length ≤ 10000) (ld1 : (digs d1).length ≤ 10000) (ln2 : (digs n2.natAbs).length ≤ 10000) (ld2 : (digs d2).length ≤ 10000) :
    Calls Try.prog 32 #[.pointer (some ⟨g, 0, none⟩), .pointer (some ⟨gx, 0, none⟩), .pointer (some ⟨gy, 0, none⟩)] w (fun e w' => ∃ w1, Grown w w1 ∧ RetR g (n1 * n2) (d1 * d2) w1 e w') := by
  obtain ⟨bx, vx1, vx2, Nx, Dx, hx1, hx2, hx3, hx4⟩ := hx
  obtain ⟨by', vy1, vy2, Ny, Dy, hy1, hy2, hy3, hy4⟩ := hy
  have lNx : (digs Nx).length ≤ 10000 := Nat.le_trans (digs_mono hx4.le.1) ln1
  have lDx : (digs (dd Dx)).length ≤ 10000 := Nat.le_trans (digs_mono hx4.le.2) ld1
  have lNy : (digs Ny).length ≤ 10000 := Nat.le_trans (digs_mono hy4.le.1) ln2
  have lDy : (digs (dd Dy)).length ≤ 10000 := Nat.le_trans (digs_mono hy4.le.2) ld2
  have lN : (digs (Nx * Ny)).length ≤ 50000 := Nat.le_trans (digs_len_mul _ _) (by omega)
  have lD : (digs (dd Dx * dd Dy)).length ≤ 50000 := Nat.le_trans (digs_len_mul _ _) (by omega)
  have HZ := Lib.hid hz
  have HX1 := Lib.hid hx1
  have HX2 := Lib.hid hx2
  have HX3 := Lib.hid hx3
  have HY1 := Lib.hid hy1
  have HY2 := Lib.hid hy2
  have HY3 := Lib.hid hy3
  have HV : RowKit.Hid (∃ c : Nat, c ≠ 0 ∧ n1 * n2 = sg (bx != by') (Nx * Ny) * c ∧ d1 * d2 = dd Dx * dd Dy * c) := Lib.hid (by
    obtain ⟨k, k0, e1, e2⟩ := hx4.ex
    obtain ⟨m, m0, f1, f2⟩ := hy4.ex
    refine ⟨k * m, Nat.mul_ne_zero k0 m0, ?_, by rw [e1, f1]; ac_rfl⟩
    rw [e2, f2]
    unfold sg
    cases bx <;> cases by' <;> simp <;> grind)
  have x0 := hx1.i.c0
  have x1 := hx1.i.c1
  have y0 := hy1.i.c0
  have y1 := hy1.i.c1
  have HG : RowKit.Hid (Grown w w.drew) := Lib.hid (gr_drew1 (Grown.refl w))
  clear hz hx1 hx2 hx3 hx4 hy1 hy2 hy3 hy4
  go_enter Try.func32, Try.ntmps32
  go_upto_region 1 with fail
  go_region_held3 (fun w' => w'.cell? ⟨gx, 0, none⟩ = some (.bool bx) ∧ w'.cell? ⟨gx, 1, none⟩ = some vx1 ∧ w'.cell? ⟨gy, 0, none⟩ = some (.bool by') ∧ w'.cell? ⟨gy, 1, none⟩ = some vy1) (first | exact ⟨by assumption, by assumption, by assumption, by assumption⟩ | go_keep) (first
    | (go_at_call_of 97 (Value.pointer (some (Addr.mk gx 0 none))); (with_reducible refine (below_c (HX1.out.grown HG.out) (HX3.out.grown HG.out)).mono ?_); rintro e W1 ⟨u1, rfl, hv, hg⟩; have HG := Lib.hid (gr_trans HG.out hg); (try have HU1 := Lib.hid (HU1.out.grown hg)); (try have HU2 := Lib.hid (HU2.out.grown hg)); (try have HM1 := Lib.hid (HM1.out.grown hg)); (try have HM2 := Lib.hid (HM2.out.grown hg)); have x0 := (HX1.out.grown HG.out).i.c0; have x1 := (HX1.out.grown HG.out).i.c1; have y0 := (HY1.out.grown HG.out).i.c0; have y1 := (HY1.out.grown HG.out).i.c1; have HU1 := Lib.hid hv; clear hv hg)
    | (go_at_call 97; (with_reducible refine (below_c (HY1.out.grown HG.out) (HY3.out.grown HG.out)).mono ?_); rintro e W1 ⟨u2, rfl, hv, hg⟩; have HG := Lib.hid (gr_trans HG.out hg); (try have HU1 := Lib.hid (HU1.out.grown hg)); (try have HU2 := Lib.hid (HU2.out.grown hg)); (try have HM1 := Lib.hid (HM1.out.grown hg)); (try have HM2 := Lib.hid (HM2.out.grown hg)); have x0 := (HX1.out.grown HG.out).i.c0; have x1 := (HX1.out.grown HG.out).i.c1; have y0 := (HY1.out.grown HG.out).i.c0; have y1 := (HY1.out.grown HG.out).i.c1; have HU2 := Lib.hid hv; clear hv hg)
    | (go_at_call_of 96 vx1; (with_reducible refine (mulW_c (HX2.out.grown HG.out) (HY2.out.grown HG.out) (Nat.le_trans lNx (by decide)) (Nat.le_trans lNy (by decide))).mono ?_); rintro e W1 ⟨p1, rfl, hv, hg⟩; have HG := Lib.hid (gr_trans HG.out hg); (try have HU1 := Lib.hid (HU1.out.grown hg)); (try have HU2 := Lib.hid (HU2.out.grown hg)); (try have HM1 := Lib.hid (HM1.out.grown hg)); (try have HM2 := Lib.hid (HM2.out.grown hg)); have x0 := (HX1.out.grown HG.out).i.c0; have x1 := (HX1.out.grown HG.out).i.c1; have y0 := (HY1.out.grown HG.out).i.c0; have y1 := (HY1.out.grown HG.out).i.c1; have HM1 := Lib.hid hv; clear hv hg)
    | (go_at_call 96; (with_reducible refine (mulW_c HU1.out HU2.out (Nat.le_trans lDx (by decide)) (Nat.le_trans lDy (by decide))).mono ?_); rintro e W1 ⟨p2, rfl, hv, hg⟩; have HG := Lib.hid (gr_trans HG.out hg); (try have HU1 := Lib.hid (HU1.out.grown hg)); (try have HU2 := Lib.hid (HU2.out.grown hg)); (try have HM1 := Lib.hid (HM1.out.grown hg)); (try have HM2 := Lib.hid (HM2.out.grown hg)); have x0 := (HX1.out.grown HG.out).i.c0; have x1 := (HX1.out.grown HG.out).i.c1; have y0 := (HY1.out.grown HG.out).i.c0; have y1 := (HY1.out.grown HG.out).i.c1; have HM2 := Lib.hid hv; clear hv hg)
    | (go_at_call 103; (with_reducible refine (rset_c (HZ.out.grown HG.out) HM1.out HM2.out (Nat.mul_ne_zero (dd_ne Dx) (dd_ne Dy)) lN lD).mono ?_); rintro e W9 ⟨rfl, hr, hg⟩; have HR := Lib.hid hr; have HGB := Lib.hid hg; have x0 := ((HX1.out.grown HG.out).kept hg hgx).i.c0; have x1 := ((HX1.out.grown HG.out).kept hg hgx).i.c1; have y0 := ((HY1.out.grown HG.out).kept hg hgy).i.c0; have y1 := ((HY1.out.grown HG.out).kept hg hgy).i.c1; clear hr hg)
    | fail)
  all_goals
    go_wp2_with fail
    go_ret
    obtain ⟨c, hc, e1, e2⟩ := HV.out
    have hr := HR.out
    rw [bne_eq] at hr
    refine ⟨_, HG.out, rfl, ?_, HGB.out⟩
    rw [e1, e2]
    exact hr.scale hc
end Go.Proofs.Ytcfkhhnkboealaa
