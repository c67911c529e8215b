/- A fraction times another, laid in its own place. -/
import Derived.Test.YtcfkhhnkboealaaRat4
import Derived.Test.YtcfkhhnkboealaaTake
namespace Go.Proofs.Ytcfkhhnkboealaa
open Go.RowKit
set_option linter.unusedVariables false
set_option linter.unusedSimpArgs false
set_option maxRecDepth 100000
set_option maxHeartbeats 4000000
theorem rMulA_c {gx gy d1 d2 : Nat} {n1 n2 : Int} {w : World} (hx : RatAt w gx n1 d1) (hy : RatAt w gy n2 d2) (hgy : gy ≠ gx)
    (ln1 : (digs n1.natAbs).length ≤ 10000) (ld1 : (digs d1).length ≤ 10000) (ln2 : (digs n2.natAbs).length ≤ 10000) (ld2 : (digs d2).length ≤ 10000) :
    Calls Try.prog 32 #[.pointer (some ⟨gx, 0, none⟩), .pointer (some ⟨gx, 0, none⟩), .pointer (some ⟨gy, 0, none⟩)] w (fun e w' => ∃ w1, Grown w w1 ∧ RetR gx (n1 * n2) (d1 * d2) w1 e w') := by
  have HZ := Lib.hid hx.z
  obtain ⟨bx, vx1, vx2, Nx, Dx, hx1, hx2, hx3, hx4⟩ := hx
  obtain ⟨by', vy1, vy2, Ny, Dy, hy1, hy2, hy3, hy4⟩ := hy
  have lNx : (digs Nx).length ≤ 10000 := Nat.le_trans (digs_mono hx4.le.1) ln1
  have lDx : (digs (dd Dx)).length ≤ 10000 := Nat.le_trans (digs_mono hx4.le.2) ld1
  have lNy : (digs Ny).length ≤ 10000 := Nat.le_trans (digs_mono hy4.le.1) ln2
  have lDy : (digs (dd Dy)).length ≤ 10000 := Nat.le_trans (digs_mono hy4.le.2) ld2
  have lN : (digs (Nx * Ny)).length ≤ 50000 := Nat.le_trans (digs_len_mul _ _) (by omega)
  have lD : (digs (dd Dx * dd Dy)).length ≤ 50000 := Nat.le_trans (digs_len_mul _ _) (by omega)
  have HX1 := Lib.hid hx1
  have HX2 := Lib.hid hx2
  have HX3 := Lib.hid hx3
  have HY1 := Lib.hid hy1
  have HY2 := Lib.hid hy2
  have HY3 := Lib.hid hy3
  have HV : RowKit.Hid (∃ c : Nat, c ≠ 0 ∧ n1 * n2 = sg (bx != by') (Nx * Ny) * c ∧ d1 * d2 = dd Dx * dd Dy * c) := Lib.hid (by
    obtain ⟨k, k0, e1, e2⟩ := hx4.ex
    obtain ⟨m, m0, f1, f2⟩ := hy4.ex
    refine ⟨k * m, Nat.mul_ne_zero k0 m0, ?_, by rw [e1, f1]; ac_rfl⟩
    rw [e2, f2]
    unfold sg
    cases bx <;> cases by' <;> simp <;> grind)
  have x0 := hx1.i.c0
  have x1 := hx1.i.c1
  have y0 := hy1.i.c0
  have y1 := hy1.i.c1
  have x0d : w.drew.cell? ⟨gx, 0, none⟩ = some (.bool bx) := x0
  have x1d : w.drew.cell? ⟨gx, 1, none⟩ = some vx1 := x1
  have HG : RowKit.Hid (Grown w w.drew) := Lib.hid (gr_drew1 (Grown.refl w))
  clear hx1 hx2 hx3 hx4 hy1 hy2 hy3 hy4
  go_enter Try.func32, Try.ntmps32
  go_upto_region 1 with fail
  refine wp_region_T (S := fun w' => w'.cell? ⟨gx, 0, none⟩ = some (.bool bx) ∧ w'.cell? ⟨gx, 1, none⟩ = some vx1 ∧ w'.cell? ⟨gy, 0, none⟩ = some (.bool by') ∧ w'.cell? ⟨gy, 1, none⟩ = some vy1) (T := [28, 29]) (by kernel_rfl) ⟨x0, x1, y0, y1⟩ (fun hHeld => ?_)
  refine wpAnyT_take (i := 0) (v := ?_) rfl (by kernel_rfl) (by kernel_rfl) (by kernel_rfl) (by kernel_rfl) (by kernel_rfl) (fun _ _ _ h => h) (Or.inl ⟨by rfl, ?yk0⟩) hHeld ?rk0
  case yk0 => ((intro w hSw; (try dsimp only at hSw); go_simp); first | done | with_reducible rfl)
  try simp only [Act.put, List.setIfInBounds_toArray, List.set_cons_zero, List.set_cons_succ]
  refine wpAnyT_take (i := 1) (v := ?_) rfl (by kernel_rfl) (by kernel_rfl) (by kernel_rfl) (by kernel_rfl) (by kernel_rfl) (fun _ _ _ h => h) (Or.inl ⟨by rfl, ?yk1⟩) hHeld ?rk1
  case yk1 => ((intro w hSw; (try dsimp only at hSw); go_simp); first | done | with_reducible rfl)
  try simp only [Act.put, List.setIfInBounds_toArray, List.set_cons_zero, List.set_cons_succ]
  refine wpAnyT_take (i := 2) (v := ?_) rfl (by kernel_rfl) (by kernel_rfl) (by kernel_rfl) (by kernel_rfl) (by kernel_rfl) (fun _ _ _ h => h) (Or.inl ⟨by rfl, ?yk2⟩) hHeld ?rk2
  case yk2 => ((intro w hSw; (try dsimp only at hSw); go_simp); first | done | with_reducible rfl)
  try simp only [Act.put, List.setIfInBounds_toArray, List.set_cons_zero, List.set_cons_succ]
  refine wpAnyT_take (i := 3) (v := ?_) rfl (by kernel_rfl) (by kernel_rfl) (by kernel_rfl) (by kernel_rfl) (by kernel_rfl) (fun _ _ _ h => h) (Or.inl ⟨by rfl, ?yk3⟩) hHeld ?rk3
  case yk3 => ((intro w hSw; (try dsimp only at hSw); go_simp); first | done | with_reducible rfl)
  try simp only [Act.put, List.setIfInBounds_toArray, List.set_cons_zero, List.set_cons_succ]
  refine wpAnyT_take (i := 4) (v := ?_) rfl (by kernel_rfl) (by kernel_rfl) (by kernel_rfl) (by kernel_rfl) (by kernel_rfl) (fun _ _ _ h => h) (Or.inl ⟨by rfl, ?yk4⟩) hHeld ?rk4
  case yk4 => ((intro w hSw; (try dsimp only at hSw); go_simp); first | done | with_reducible rfl)
  try simp only [Act.put, List.setIfInBounds_toArray, List.set_cons_zero, List.set_cons_succ]
  refine wpAnyT_take (i := 5) (v := ?_) rfl (by kernel_rfl) (by kernel_rfl) (by kernel_rfl) (by kernel_rfl) (by kernel_rfl) (fun _ _ _ h => h) (Or.inl ⟨by rfl, ?yk5⟩) hHeld ?rk5
  case yk5 => ((intro w hSw; (try dsimp only at hSw); go_simp); first | done | with_reducible rfl)
  try simp only [Act.put, List.setIfInBounds_toArray, List.set_cons_zero, List.set_cons_succ]
  refine wpAnyT_take (i := 6) (v := ?_) rfl (by kernel_rfl) (by kernel_rfl) (by kernel_rfl) (by kernel_rfl) (by kernel_rfl) (fun _ _ _ h => h) (Or.inl ⟨by rfl, ?yk6⟩) hHeld ?rk6
  case yk6 => ((intro w hSw; (try dsimp only at hSw); go_simp); first | done | with_reducible rfl)
  try simp only [Act.put, List.setIfInBounds_toArray, List.set_cons_zero, List.set_cons_succ]
  refine wpAnyT_take (i := 7) (v := ?_) rfl (by kernel_rfl) (by kernel_rfl) (by kernel_rfl) (by kernel_rfl) (by kernel_rfl) (fun _ _ _ h => h) (Or.inl ⟨by rfl, ?yk7⟩) hHeld ?rk7
  case yk7 => ((intro w hSw; (try dsimp only at hSw); go_simp); first | done | with_reducible rfl)
  try simp only [Act.put, List.setIfInBounds_toArray, List.set_cons_zero, List.set_cons_succ]
  refine wpAnyT_take (i := 8) (v := ?_) rfl (by kernel_rfl) (by kernel_rfl) (by kernel_rfl) (by kernel_rfl) (by kernel_rfl) (fun _ _ _ h => h) (Or.inl ⟨by rfl, ?yk8⟩) hHeld ?rk8
  case yk8 => ((intro w hSw; (try dsimp only at hSw); go_simp); first | done | with_reducible rfl)
  try simp only [Act.put, List.setIfInBounds_toArray, List.set_cons_zero, List.set_cons_succ]
  refine wpAnyT_take (i := 9) (v := ?_) rfl (by kernel_rfl) (by kernel_rfl) (by kernel_rfl) (by kernel_rfl) (by kernel_rfl) (fun _ _ _ h => h) (Or.inl ⟨by rfl, ?yk9⟩) hHeld ?rk9
  case yk9 => ((intro w hSw; (try dsimp only at hSw); go_simp); first | done | with_reducible rfl)
  try simp only [Act.put, List.setIfInBounds_toArray, List.set_cons_zero, List.set_cons_succ]
  refine wpAnyT_take (i := 10) (v := ?_) rfl (by kernel_rfl) (by kernel_rfl) (by kernel_rfl) (by kernel_rfl) (by kernel_rfl) (fun _ _ _ h => h) (Or.inl ⟨by rfl, ?yk10⟩) hHeld ?rk10
  case yk10 => ((intro w hSw; (try dsimp only at hSw); go_simp); first | done | with_reducible rfl)
  try simp only [Act.put, List.setIfInBounds_toArray, List.set_cons_zero, List.set_cons_succ]
  refine wpAnyT_take (i := 11) (v := ?_) rfl (by kernel_rfl) (by kernel_rfl) (by kernel_rfl) (by kernel_rfl) (by kernel_rfl) (fun _ _ _ h => h) (Or.inl ⟨by rfl, ?yk11⟩) hHeld ?rk11
  case yk11 => ((intro w hSw; (try dsimp only at hSw); go_simp); first | done | with_reducible rfl)
  try simp only [Act.put, List.setIfInBounds_toArray, List.set_cons_zero, List.set_cons_succ]
  refine wpAnyT_take (i := 12) (v := ?_) rfl (by kernel_rfl) (by kernel_rfl) (by kernel_rfl) (by kernel_rfl) (by kernel_rfl) (fun _ _ _ h => h) (Or.inl ⟨by rfl, ?yk12⟩) hHeld ?rk12
  case yk12 => ((intro w hSw; (try dsimp only at hSw); go_simp); first | done | with_reducible rfl)
  try simp only [Act.put, List.setIfInBounds_toArray, List.set_cons_zero, List.set_cons_succ]
  refine wpAnyT_take (i := 13) (v := ?_) rfl (by kernel_rfl) (by kernel_rfl) (by kernel_rfl) (by kernel_rfl) (by kernel_rfl) (fun _ _ _ h => h) (Or.inl ⟨by rfl, ?yk13⟩) hHeld ?rk13
  case yk13 => ((intro w hSw; (try dsimp only at hSw); go_simp); first | done | with_reducible rfl)
  try simp only [Act.put, List.setIfInBounds_toArray, List.set_cons_zero, List.set_cons_succ]
  refine wpAnyT_take (i := 14) (v := ?_) rfl (by kernel_rfl) (by kernel_rfl) (by kernel_rfl) (by kernel_rfl) (by kernel_rfl) (fun _ _ _ h => h) (Or.inl ⟨by rfl, ?yk14⟩) hHeld ?rk14
  case yk14 => ((intro w hSw; (try dsimp only at hSw); go_simp); first | done | with_reducible rfl)
  try simp only [Act.put, List.setIfInBounds_toArray, List.set_cons_zero, List.set_cons_succ]
  refine wpAnyT_take (i := 15) (v := ?_) rfl (by kernel_rfl) (by kernel_rfl) (by kernel_rfl) (by kernel_rfl) (by kernel_rfl) (fun _ _ _ h => h) (Or.inl ⟨by rfl, ?yk15⟩) hHeld ?rk15
  case yk15 => ((intro w hSw; (try dsimp only at hSw); go_simp); first | done | with_reducible rfl)
  try simp only [Act.put, List.setIfInBounds_toArray, List.set_cons_zero, List.set_cons_succ]
  refine wpAnyT_take (i := 16) (v := ?_) rfl (by kernel_rfl) (by kernel_rfl) (by kernel_rfl) (by kernel_rfl) (by kernel_rfl) (fun _ _ _ h => h) (Or.inl ⟨by rfl, ?yk16⟩) hHeld ?rk16
  case yk16 => ((intro w hSw; (try dsimp only at hSw); go_simp); first | done | with_reducible rfl)
  try simp only [Act.put, List.setIfInBounds_toArray, List.set_cons_zero, List.set_cons_succ]
  refine wpAnyT_take (i := 17) (v := ?_) rfl (by kernel_rfl) (by kernel_rfl) (by kernel_rfl) (by kernel_rfl) (by kernel_rfl) (fun _ _ _ h => h) (Or.inl ⟨by rfl, ?yk17⟩) hHeld ?rk17
  case yk17 => ((intro w hSw; (try dsimp only at hSw); go_simp); first | done | with_reducible rfl)
  try simp only [Act.put, List.setIfInBounds_toArray, List.set_cons_zero, List.set_cons_succ]
  refine wpAnyT_take (i := 18) (v := ?_) rfl (by kernel_rfl) (by kernel_rfl) (by kernel_rfl) (by kernel_rfl) (by kernel_rfl) (fun _ _ _ h => h) (Or.inl ⟨by rfl, ?yk18⟩) hHeld ?rk18
  case yk18 => ((intro w hSw; (try dsimp only at hSw); go_simp); first | done | with_reducible rfl)
  try simp only [Act.put, List.setIfInBounds_toArray, List.set_cons_zero, List.set_cons_succ]
  refine wpAnyT_take (i := 19) (v := ?_) rfl (by kernel_rfl) (by kernel_rfl) (by kernel_rfl) (by kernel_rfl) (by kernel_rfl) (fun _ _ _ h => h) (Or.inl ⟨by rfl, ?yk19⟩) hHeld ?rk19
  case yk19 => ((intro w hSw; (try dsimp only at hSw); go_simp); first | done | with_reducible rfl)
  try simp only [Act.put, List.setIfInBounds_toArray, List.set_cons_zero, List.set_cons_succ]
  refine wpAnyT_take (i := 20) (v := ?_) rfl (by kernel_rfl) (by kernel_rfl) (by kernel_rfl) (by kernel_rfl) (by kernel_rfl) (fun _ _ _ h => h) (Or.inl ⟨by rfl, ?yk20⟩) hHeld ?rk20
  case yk20 => ((intro w hSw; (try dsimp only at hSw); go_simp); first | done | with_reducible rfl)
  try simp only [Act.put, List.setIfInBounds_toArray, List.set_cons_zero, List.set_cons_succ]
  refine wpAnyT_take (i := 21) (v := ?_) rfl (by kernel_rfl) (by kernel_rfl) (by kernel_rfl) (by kernel_rfl) (by kernel_rfl) (fun _ _ _ h => h) (Or.inl ⟨by rfl, ?yk21⟩) hHeld ?rk21
  case yk21 => ((intro w hSw; (try dsimp only at hSw); go_simp); first | done | with_reducible rfl)
  try simp only [Act.put, List.setIfInBounds_toArray, List.set_cons_zero, List.set_cons_succ]
  refine wpAnyT_take (i := 23) (v := ?_) rfl (by kernel_rfl) (by kernel_rfl) (by kernel_rfl) (by kernel_rfl) (by kernel_rfl) (fun _ _ _ h => h) (Or.inl ⟨by rfl, ?yk23⟩) hHeld ?rk23
  case yk23 => ((intro w hSw; (try dsimp only at hSw); go_simp); first | done | with_reducible rfl)
  try simp only [Act.put, List.setIfInBounds_toArray, List.set_cons_zero, List.set_cons_succ]
  refine wpAnyT_take (i := 25) (v := ?_) rfl (by kernel_rfl) (by kernel_rfl) (by kernel_rfl) (by kernel_rfl) (by kernel_rfl) (fun _ _ _ h => h) (Or.inl ⟨by rfl, ?yk25⟩) hHeld ?rk25
  case yk25 => ((intro w hSw; (try dsimp only at hSw); go_simp); first | done | with_reducible rfl)
  try simp only [Act.put, List.setIfInBounds_toArray, List.set_cons_zero, List.set_cons_succ]
  refine wpAnyT_one (i := 22) (by kernel_rfl) rfl (fun K hK => ?_)
  go_simp
  ((with_reducible refine (mulW_c (HX2.out.grown HG.out) (HY2.out.grown HG.out) (Nat.le_trans lNx (by decide)) (Nat.le_trans lNy (by decide))).mono ?_); rintro e W1 ⟨p1, rfl, hv, hg⟩; have HG := Lib.hid (gr_trans HG.out hg); (try have HU1 := Lib.hid (HU1.out.grown hg)); (try have HU2 := Lib.hid (HU2.out.grown hg)); (try have HM1 := Lib.hid (HM1.out.grown hg)); (try have HM2 := Lib.hid (HM2.out.grown hg)); have x0 := (HX1.out.grown HG.out).i.c0; have x1 := (HX1.out.grown HG.out).i.c1; have y0 := (HY1.out.grown HG.out).i.c0; have y1 := (HY1.out.grown HG.out).i.c1; have HM1 := Lib.hid hv; clear hv hg)
  refine hK.out _ _ ?sk22 ?nk22
  case sk22 => exact ⟨x0, x1, y0, y1⟩
  clear hK K
  try simp only [Act.put, List.setIfInBounds_toArray, List.set_cons_zero, List.set_cons_succ]
  refine wpAnyT_one (i := 24) (by kernel_rfl) rfl (fun K hK => ?_)
  go_simp
  ((with_reducible refine (below_c (HX1.out.grown HG.out) (HX3.out.grown HG.out)).mono ?_); rintro e W1 ⟨u1, rfl, hv, hg⟩; have HG := Lib.hid (gr_trans HG.out hg); (try have HU1 := Lib.hid (HU1.out.grown hg)); (try have HU2 := Lib.hid (HU2.out.grown hg)); (try have HM1 := Lib.hid (HM1.out.grown hg)); (try have HM2 := Lib.hid (HM2.out.grown hg)); have x0 := (HX1.out.grown HG.out).i.c0; have x1 := (HX1.out.grown HG.out).i.c1; have y0 := (HY1.out.grown HG.out).i.c0; have y1 := (HY1.out.grown HG.out).i.c1; have HU1 := Lib.hid hv; clear hv hg)
  refine hK.out _ _ ?sk24 ?nk24
  case sk24 => exact ⟨x0, x1, y0, y1⟩
  clear hK K
  try simp only [Act.put, List.setIfInBounds_toArray, List.set_cons_zero, List.set_cons_succ]
  refine wpAnyT_one (i := 26) (by kernel_rfl) rfl (fun K hK => ?_)
  go_simp
  ((with_reducible refine (below_c (HY1.out.grown HG.out) (HY3.out.grown HG.out)).mono ?_); rintro e W1 ⟨u2, rfl, hv, hg⟩; have HG := Lib.hid (gr_trans HG.out hg); (try have HU1 := Lib.hid (HU1.out.grown hg)); (try have HU2 := Lib.hid (HU2.out.grown hg)); (try have HM1 := Lib.hid (HM1.out.grown hg)); (try have HM2 := Lib.hid (HM2.out.grown hg)); have x0 := (HX1.out.grown HG.out).i.c0; have x1 := (HX1.out.grown HG.out).i.c1; have y0 := (HY1.out.grown HG.out).i.c0; have y1 := (HY1.out.grown HG.out).i.c1; have HU2 := Lib.hid hv; clear hv hg)
  refine hK.out _ _ ?sk26 ?nk26
  case sk26 => exact ⟨x0, x1, y0, y1⟩
  clear hK K
  try simp only [Act.put, List.setIfInBounds_toArray, List.set_cons_zero, List.set_cons_succ]
  refine wpAnyT_one (i := 27) (by kernel_rfl) rfl (fun K hK => ?_)
  go_simp
  ((with_reducible refine (mulW_c HU1.out HU2.out (Nat.le_trans lDx (by decide)) (Nat.le_trans lDy (by decide))).mono ?_); rintro e W1 ⟨p2, rfl, hv, hg⟩; have HG := Lib.hid (gr_trans HG.out hg); (try have HU1 := Lib.hid (HU1.out.grown hg)); (try have HU2 := Lib.hid (HU2.out.grown hg)); (try have HM1 := Lib.hid (HM1.out.grown hg)); (try have HM2 := Lib.hid (HM2.out.grown hg)); have x0 := (HX1.out.grown HG.out).i.c0; have x1 := (HX1.out.grown HG.out).i.c1; have y0 := (HY1.out.grown HG.out).i.c0; have y1 := (HY1.out.grown HG.out).i.c1; have HM2 := Lib.hid hv; clear hv hg)
  refine hK.out _ _ ?sk27 ?nk27
  case sk27 => exact ⟨x0, x1, y0, y1⟩
  clear hK K
  try simp only [Act.put, List.setIfInBounds_toArray, List.set_cons_zero, List.set_cons_succ]
  refine wpAnyT_last (i := 28) (by kernel_rfl) (by decide) rfl (fun K hK => ?_)
  go_simp
  ((with_reducible refine (rset_c (HZ.out.grown HG.out) HM1.out HM2.out (Nat.mul_ne_zero (dd_ne Dx) (dd_ne Dy)) lN lD).mono ?_); rintro e W9 ⟨rfl, hr, hg⟩; have HR := Lib.hid hr; have HGB := Lib.hid hg; clear hr hg)
  refine hK.out _ _ ?_
  clear hK K
  try simp only [Act.put, List.setIfInBounds_toArray, List.set_cons_zero, List.set_cons_succ]
  refine wpAnyT_last (i := 29) (by kernel_rfl) (by decide) rfl (fun K hK => ?_)
  go_simp
  refine hK.out _ _ ?_
  clear hK K
  try simp only [Act.put, List.setIfInBounds_toArray, List.set_cons_zero, List.set_cons_succ]
  refine wpAnyT_done (by kernel_rfl) ?_ _
  go_wp2_with fail
  go_ret
  obtain ⟨c, hc, e1, e2⟩ := HV.out
  have hr := HR.out
  rw [bne_eq] at hr
  refine ⟨_, HG.out, rfl, ?_, HGB.out⟩
  rw [e1, e2]
  exact hr.scale hc
theorem rQuoA_c {gx gy d1 d2 m2 : Nat} {n1 : Int} {w : World} (hx : RatAt w gx n1 d1) (hy : RatAt w gy (m2 : Int) d2) (hm2 : m2 ≠ 0) (hgy : gy ≠ gx)
    (ln1 : (digs n1.natAbs).length ≤ 10000) (ld1 : (digs d1).length ≤ 10000) (ln2 : (digs m2).length ≤ 10000) (ld2 : (digs d2).length ≤ 10000) :
    Calls Try.prog 33 #[.pointer (some ⟨gx, 0, none⟩), .pointer (some ⟨gx, 0, none⟩), .pointer (some ⟨gy, 0, none⟩)] w (fun e w' => ∃ w1, Grown w w1 ∧ RetR gx (n1 * d2) (d1 * m2) w1 e w') := by
  have HZ := Lib.hid hx.z
  obtain ⟨bx, vx1, vx2, Nx, Dx, hx1, hx2, hx3, hx4⟩ := hx
  obtain ⟨by', vy1, vy2, Ny, Dy, hy1, hy2, hy3, hy4⟩ := hy
  have lNx : (digs Nx).length ≤ 10000 := Nat.le_trans (digs_mono hx4.le.1) ln1
  have lDx : (digs (dd Dx)).length ≤ 10000 := Nat.le_trans (digs_mono hx4.le.2) ld1
  have lNy : (digs Ny).length ≤ 10000 := Nat.le_trans (digs_mono (by have := hy4.le.1; rwa [Int.natAbs_natCast] at this)) ln2
  have lDy : (digs (dd Dy)).length ≤ 10000 := Nat.le_trans (digs_mono hy4.le.2) ld2
  have lN : (digs (Nx * dd Dy)).length ≤ 50000 := Nat.le_trans (digs_len_mul _ _) (by omega)
  have lD : (digs (dd Dx * Ny)).length ≤ 50000 := Nat.le_trans (digs_len_mul _ _) (by omega)
  have HX1 := Lib.hid hx1
  have HX2 := Lib.hid hx2
  have HX3 := Lib.hid hx3
  have HY1 := Lib.hid hy1
  have HY2 := Lib.hid hy2
  have HY3 := Lib.hid hy3
  have hyp : by' = false ∧ Ny ≠ 0 := by
    obtain ⟨m, m0, f1, f2⟩ := hy4.ex
    have mp : (0 : Int) < m := by omega
    have hN : Ny ≠ 0 := by
      rintro rfl
      have : sg by' 0 = 0 := by cases by' <;> rfl
      rw [this, Int.mul_zero] at f2
      omega
    refine ⟨?_, hN⟩
    cases by' with
    | false => rfl
    | true =>
      exfalso
      have h1 := Int.mul_pos mp (show (0 : Int) < Ny by omega)
      unfold sg at f2
      rw [if_pos rfl, Int.mul_neg] at f2
      omega
  obtain ⟨rfl, hNy⟩ := hyp
  have HNY := Lib.hid hNy
  have HV : RowKit.Hid (∃ c : Nat, c ≠ 0 ∧ n1 * d2 = sg (bx != false) (Nx * dd Dy) * c ∧ d1 * m2 = dd Dx * Ny * c) := Lib.hid (by
    obtain ⟨k, k0, e1, e2⟩ := hx4.ex
    obtain ⟨m, m0, f1, f2⟩ := hy4.ex
    have f3 : m2 = m * Ny := by unfold sg at f2; rw [if_neg (by decide)] at f2; exact_mod_cast f2
    refine ⟨k * m, Nat.mul_ne_zero k0 m0, ?_, by rw [e1, f3]; ac_rfl⟩
    rw [e2, f1]
    unfold sg
    cases bx <;> simp <;> grind)
  clear hNy hm2
  have x0 := hx1.i.c0
  have x1 := hx1.i.c1
  have y0 := hy1.i.c0
  have y1 := hy1.i.c1
  have x0d : w.drew.cell? ⟨gx, 0, none⟩ = some (.bool bx) := x0
  have x1d : w.drew.cell? ⟨gx, 1, none⟩ = some vx1 := x1
  have HG : RowKit.Hid (Grown w w.drew) := Lib.hid (gr_drew1 (Grown.refl w))
  clear hx1 hx2 hx3 hx4 hy1 hy2 hy3 hy4
  go_enter Try.func33, Try.ntmps33
  go_upto_region 1 with fail
  refine wp_region_T (S := fun w' => w'.cell? ⟨gx, 0, none⟩ = some (.bool bx) ∧ w'.cell? ⟨gx, 1, none⟩ = some vx1 ∧ w'.cell? ⟨gy, 0, none⟩ = some (.bool false) ∧ w'.cell? ⟨gy, 1, none⟩ = some vy1) (T := [28, 29]) (by kernel_rfl) ⟨x0, x1, y0, y1⟩ (fun hHeld => ?_)
  refine wpAnyT_take (i := 0) (v := ?_) rfl (by kernel_rfl) (by kernel_rfl) (by kernel_rfl) (by kernel_rfl) (by kernel_rfl) (fun _ _ _ h => h) (Or.inl ⟨by rfl, ?yk0⟩) hHeld ?rk0
  case yk0 => ((intro w hSw; (try dsimp only at hSw); go_simp); first | done | with_reducible rfl)
  try simp only [Act.put, List.setIfInBounds_toArray, List.set_cons_zero, List.set_cons_succ]
  refine wpAnyT_take (i := 1) (v := ?_) rfl (by kernel_rfl) (by kernel_rfl) (by kernel_rfl) (by kernel_rfl) (by kernel_rfl) (fun _ _ _ h => h) (Or.inl ⟨by rfl, ?yk1⟩) hHeld ?rk1
  case yk1 => ((intro w hSw; (try dsimp only at hSw); go_simp); first | done | with_reducible rfl)
  try simp only [Act.put, List.setIfInBounds_toArray, List.set_cons_zero, List.set_cons_succ]
  refine wpAnyT_take (i := 2) (v := ?_) rfl (by kernel_rfl) (by kernel_rfl) (by kernel_rfl) (by kernel_rfl) (by kernel_rfl) (fun _ _ _ h => h) (Or.inl ⟨by rfl, ?yk2⟩) hHeld ?rk2
  case yk2 => ((intro w hSw; (try dsimp only at hSw); go_simp); first | done | with_reducible rfl)
  try simp only [Act.put, List.setIfInBounds_toArray, List.set_cons_zero, List.set_cons_succ]
  refine wpAnyT_take (i := 3) (v := ?_) rfl (by kernel_rfl) (by kernel_rfl) (by kernel_rfl) (by kernel_rfl) (by kernel_rfl) (fun _ _ _ h => h) (Or.inl ⟨by rfl, ?yk3⟩) hHeld ?rk3
  case yk3 => ((intro w hSw; (try dsimp only at hSw); go_simp); first | done | with_reducible rfl)
  try simp only [Act.put, List.setIfInBounds_toArray, List.set_cons_zero, List.set_cons_succ]
  refine wpAnyT_take (i := 4) (v := ?_) rfl (by kernel_rfl) (by kernel_rfl) (by kernel_rfl) (by kernel_rfl) (by kernel_rfl) (fun _ _ _ h => h) (Or.inl ⟨by rfl, ?yk4⟩) hHeld ?rk4
  case yk4 => ((intro w hSw; (try dsimp only at hSw); go_simp); first | done | with_reducible rfl)
  try simp only [Act.put, List.setIfInBounds_toArray, List.set_cons_zero, List.set_cons_succ]
  refine wpAnyT_take (i := 5) (v := ?_) rfl (by kernel_rfl) (by kernel_rfl) (by kernel_rfl) (by kernel_rfl) (by kernel_rfl) (fun _ _ _ h => h) (Or.inl ⟨by rfl, ?yk5⟩) hHeld ?rk5
  case yk5 => ((intro w hSw; (try dsimp only at hSw); go_simp); first | done | with_reducible rfl)
  try simp only [Act.put, List.setIfInBounds_toArray, List.set_cons_zero, List.set_cons_succ]
  refine wpAnyT_take (i := 6) (v := ?_) rfl (by kernel_rfl) (by kernel_rfl) (by kernel_rfl) (by kernel_rfl) (by kernel_rfl) (fun _ _ _ h => h) (Or.inl ⟨by rfl, ?yk6⟩) hHeld ?rk6
  case yk6 => ((intro w hSw; (try dsimp only at hSw); go_simp); first | done | with_reducible rfl)
  try simp only [Act.put, List.setIfInBounds_toArray, List.set_cons_zero, List.set_cons_succ]
  refine wpAnyT_take (i := 7) (v := ?_) rfl (by kernel_rfl) (by kernel_rfl) (by kernel_rfl) (by kernel_rfl) (by kernel_rfl) (fun _ _ _ h => h) (Or.inl ⟨by rfl, ?yk7⟩) hHeld ?rk7
  case yk7 => ((intro w hSw; (try dsimp only at hSw); go_simp); first | done | with_reducible rfl)
  try simp only [Act.put, List.setIfInBounds_toArray, List.set_cons_zero, List.set_cons_succ]
  refine wpAnyT_take (i := 8) (v := ?_) rfl (by kernel_rfl) (by kernel_rfl) (by kernel_rfl) (by kernel_rfl) (by kernel_rfl) (fun _ _ _ h => h) (Or.inl ⟨by rfl, ?yk8⟩) hHeld ?rk8
  case yk8 => ((intro w hSw; (try dsimp only at hSw); go_simp); first | done | with_reducible rfl)
  try simp only [Act.put, List.setIfInBounds_toArray, List.set_cons_zero, List.set_cons_succ]
  refine wpAnyT_take (i := 9) (v := ?_) rfl (by kernel_rfl) (by kernel_rfl) (by kernel_rfl) (by kernel_rfl) (by kernel_rfl) (fun _ _ _ h => h) (Or.inl ⟨by rfl, ?yk9⟩) hHeld ?rk9
  case yk9 => ((intro w hSw; (try dsimp only at hSw); go_simp); first | done | with_reducible rfl)
  try simp only [Act.put, List.setIfInBounds_toArray, List.set_cons_zero, List.set_cons_succ]
  refine wpAnyT_take (i := 10) (v := ?_) rfl (by kernel_rfl) (by kernel_rfl) (by kernel_rfl) (by kernel_rfl) (by kernel_rfl) (fun _ _ _ h => h) (Or.inl ⟨by rfl, ?yk10⟩) hHeld ?rk10
  case yk10 => ((intro w hSw; (try dsimp only at hSw); go_simp); first | done | with_reducible rfl)
  try simp only [Act.put, List.setIfInBounds_toArray, List.set_cons_zero, List.set_cons_succ]
  refine wpAnyT_take (i := 11) (v := ?_) rfl (by kernel_rfl) (by kernel_rfl) (by kernel_rfl) (by kernel_rfl) (by kernel_rfl) (fun _ _ _ h => h) (Or.inl ⟨by rfl, ?yk11⟩) hHeld ?rk11
  case yk11 => ((intro w hSw; (try dsimp only at hSw); go_simp); first | done | with_reducible rfl)
  try simp only [Act.put, List.setIfInBounds_toArray, List.set_cons_zero, List.set_cons_succ]
  refine wpAnyT_take (i := 12) (v := ?_) rfl (by kernel_rfl) (by kernel_rfl) (by kernel_rfl) (by kernel_rfl) (by kernel_rfl) (fun _ _ _ h => h) (Or.inl ⟨by rfl, ?yk12⟩) hHeld ?rk12
  case yk12 => ((intro w hSw; (try dsimp only at hSw); go_simp); first | done | with_reducible rfl)
  try simp only [Act.put, List.setIfInBounds_toArray, List.set_cons_zero, List.set_cons_succ]
  refine wpAnyT_take (i := 13) (v := ?_) rfl (by kernel_rfl) (by kernel_rfl) (by kernel_rfl) (by kernel_rfl) (by kernel_rfl) (fun _ _ _ h => h) (Or.inl ⟨by rfl, ?yk13⟩) hHeld ?rk13
  case yk13 => ((intro w hSw; (try dsimp only at hSw); go_simp); first | done | with_reducible rfl)
  try simp only [Act.put, List.setIfInBounds_toArray, List.set_cons_zero, List.set_cons_succ]
  refine wpAnyT_take (i := 14) (v := ?_) rfl (by kernel_rfl) (by kernel_rfl) (by kernel_rfl) (by kernel_rfl) (by kernel_rfl) (fun _ _ _ h => h) (Or.inl ⟨by rfl, ?yk14⟩) hHeld ?rk14
  case yk14 => ((intro w hSw; (try dsimp only at hSw); go_simp); first | done | with_reducible rfl)
  try simp only [Act.put, List.setIfInBounds_toArray, List.set_cons_zero, List.set_cons_succ]
  refine wpAnyT_take (i := 15) (v := ?_) rfl (by kernel_rfl) (by kernel_rfl) (by kernel_rfl) (by kernel_rfl) (by kernel_rfl) (fun _ _ _ h => h) (Or.inl ⟨by rfl, ?yk15⟩) hHeld ?rk15
  case yk15 => ((intro w hSw; (try dsimp only at hSw); go_simp); first | done | with_reducible rfl)
  try simp only [Act.put, List.setIfInBounds_toArray, List.set_cons_zero, List.set_cons_succ]
  refine wpAnyT_take (i := 16) (v := ?_) rfl (by kernel_rfl) (by kernel_rfl) (by kernel_rfl) (by kernel_rfl) (by kernel_rfl) (fun _ _ _ h => h) (Or.inl ⟨by rfl, ?yk16⟩) hHeld ?rk16
  case yk16 => ((intro w hSw; (try dsimp only at hSw); go_simp); first | done | with_reducible rfl)
  try simp only [Act.put, List.setIfInBounds_toArray, List.set_cons_zero, List.set_cons_succ]
  refine wpAnyT_take (i := 17) (v := ?_) rfl (by kernel_rfl) (by kernel_rfl) (by kernel_rfl) (by kernel_rfl) (by kernel_rfl) (fun _ _ _ h => h) (Or.inl ⟨by rfl, ?yk17⟩) hHeld ?rk17
  case yk17 => ((intro w hSw; (try dsimp only at hSw); go_simp); first | done | with_reducible rfl)
  try simp only [Act.put, List.setIfInBounds_toArray, List.set_cons_zero, List.set_cons_succ]
  refine wpAnyT_take (i := 20) (v := ?_) rfl (by kernel_rfl) (by kernel_rfl) (by kernel_rfl) (by kernel_rfl) (by kernel_rfl) (fun _ _ _ h => h) (Or.inl ⟨by rfl, ?yk20⟩) hHeld ?rk20
  case yk20 => ((intro w hSw; (try dsimp only at hSw); go_simp); first | done | with_reducible rfl)
  try simp only [Act.put, List.setIfInBounds_toArray, List.set_cons_zero, List.set_cons_succ]
  refine wpAnyT_take (i := 22) (v := ?_) rfl (by kernel_rfl) (by kernel_rfl) (by kernel_rfl) (by kernel_rfl) (by kernel_rfl) (fun _ _ _ h => h) (Or.inl ⟨by rfl, ?yk22⟩) hHeld ?rk22
  case yk22 => ((intro w hSw; (try dsimp only at hSw); go_simp); first | done | with_reducible rfl)
  try simp only [Act.put, List.setIfInBounds_toArray, List.set_cons_zero, List.set_cons_succ]
  refine wpAnyT_take (i := 23) (v := ?_) rfl (by kernel_rfl) (by kernel_rfl) (by kernel_rfl) (by kernel_rfl) (by kernel_rfl) (fun _ _ _ h => h) (Or.inl ⟨by rfl, ?yk23⟩) hHeld ?rk23
  case yk23 => ((intro w hSw; (try dsimp only at hSw); go_simp); first | done | with_reducible rfl)
  try simp only [Act.put, List.setIfInBounds_toArray, List.set_cons_zero, List.set_cons_succ]
  refine wpAnyT_take (i := 24) (v := ?_) rfl (by kernel_rfl) (by kernel_rfl) (by kernel_rfl) (by kernel_rfl) (by kernel_rfl) (fun _ _ _ h => h) (Or.inl ⟨by rfl, ?yk24⟩) hHeld ?rk24
  case yk24 => ((intro w hSw; (try dsimp only at hSw); go_simp); first | done | with_reducible rfl)
  try simp only [Act.put, List.setIfInBounds_toArray, List.set_cons_zero, List.set_cons_succ]
  refine wpAnyT_take (i := 25) (v := ?_) rfl (by kernel_rfl) (by kernel_rfl) (by kernel_rfl) (by kernel_rfl) (by kernel_rfl) (fun _ _ _ h => h) (Or.inl ⟨by rfl, ?yk25⟩) hHeld ?rk25
  case yk25 => ((intro w hSw; (try dsimp only at hSw); go_simp); first | done | with_reducible rfl)
  try simp only [Act.put, List.setIfInBounds_toArray, List.set_cons_zero, List.set_cons_succ]
  refine wpAnyT_take (i := 26) (v := ?_) rfl (by kernel_rfl) (by kernel_rfl) (by kernel_rfl) (by kernel_rfl) (by kernel_rfl) (fun _ _ _ h => h) (Or.inl ⟨by rfl, ?yk26⟩) hHeld ?rk26
  case yk26 => ((intro w hSw; (try dsimp only at hSw); go_simp); first | done | with_reducible rfl)
  try simp only [Act.put, List.setIfInBounds_toArray, List.set_cons_zero, List.set_cons_succ]
  refine wpAnyT_one (i := 18) (by kernel_rfl) rfl (fun K hK => ?_)
  go_simp
  ((with_reducible refine (below_c (HY1.out.grown HG.out) (HY3.out.grown HG.out)).mono ?_); rintro e W1 ⟨u2, rfl, hv, hg⟩; have HG := Lib.hid (gr_trans HG.out hg); (try have HU1 := Lib.hid (HU1.out.grown hg)); (try have HU2 := Lib.hid (HU2.out.grown hg)); (try have HM1 := Lib.hid (HM1.out.grown hg)); (try have HM2 := Lib.hid (HM2.out.grown hg)); have x0 := (HX1.out.grown HG.out).i.c0; have x1 := (HX1.out.grown HG.out).i.c1; have y0 := (HY1.out.grown HG.out).i.c0; have y1 := (HY1.out.grown HG.out).i.c1; have HU2 := Lib.hid hv; clear hv hg)
  refine hK.out _ _ ?sk18 ?nk18
  case sk18 => exact ⟨x0, x1, y0, y1⟩
  clear hK K
  try simp only [Act.put, List.setIfInBounds_toArray, List.set_cons_zero, List.set_cons_succ]
  refine wpAnyT_one (i := 19) (by kernel_rfl) rfl (fun K hK => ?_)
  go_simp
  ((with_reducible refine (mulW_c (HX2.out.grown HG.out) HU2.out (Nat.le_trans lNx (by decide)) (Nat.le_trans lDy (by decide))).mono ?_); rintro e W1 ⟨p1, rfl, hv, hg⟩; have HG := Lib.hid (gr_trans HG.out hg); (try have HU1 := Lib.hid (HU1.out.grown hg)); (try have HU2 := Lib.hid (HU2.out.grown hg)); (try have HM1 := Lib.hid (HM1.out.grown hg)); (try have HM2 := Lib.hid (HM2.out.grown hg)); have x0 := (HX1.out.grown HG.out).i.c0; have x1 := (HX1.out.grown HG.out).i.c1; have y0 := (HY1.out.grown HG.out).i.c0; have y1 := (HY1.out.grown HG.out).i.c1; have HM1 := Lib.hid hv; clear hv hg)
  refine hK.out _ _ ?sk19 ?nk19
  case sk19 => exact ⟨x0, x1, y0, y1⟩
  clear hK K
  try simp only [Act.put, List.setIfInBounds_toArray, List.set_cons_zero, List.set_cons_succ]
  refine wpAnyT_one (i := 21) (by kernel_rfl) rfl (fun K hK => ?_)
  go_simp
  ((with_reducible refine (below_c (HX1.out.grown HG.out) (HX3.out.grown HG.out)).mono ?_); rintro e W1 ⟨u1, rfl, hv, hg⟩; have HG := Lib.hid (gr_trans HG.out hg); (try have HU1 := Lib.hid (HU1.out.grown hg)); (try have HU2 := Lib.hid (HU2.out.grown hg)); (try have HM1 := Lib.hid (HM1.out.grown hg)); (try have HM2 := Lib.hid (HM2.out.grown hg)); have x0 := (HX1.out.grown HG.out).i.c0; have x1 := (HX1.out.grown HG.out).i.c1; have y0 := (HY1.out.grown HG.out).i.c0; have y1 := (HY1.out.grown HG.out).i.c1; have HU1 := Lib.hid hv; clear hv hg)
  refine hK.out _ _ ?sk21 ?nk21
  case sk21 => exact ⟨x0, x1, y0, y1⟩
  clear hK K
  try simp only [Act.put, List.setIfInBounds_toArray, List.set_cons_zero, List.set_cons_succ]
  refine wpAnyT_one (i := 27) (by kernel_rfl) rfl (fun K hK => ?_)
  go_simp
  ((with_reducible refine (mulW_c HU1.out (HY2.out.grown HG.out) (Nat.le_trans lDx (by decide)) (Nat.le_trans lNy (by decide))).mono ?_); rintro e W1 ⟨p2, rfl, hv, hg⟩; have HG := Lib.hid (gr_trans HG.out hg); (try have HU1 := Lib.hid (HU1.out.grown hg)); (try have HU2 := Lib.hid (HU2.out.grown hg)); (try have HM1 := Lib.hid (HM1.out.grown hg)); (try have HM2 := Lib.hid (HM2.out.grown hg)); have x0 := (HX1.out.grown HG.out).i.c0; have x1 := (HX1.out.grown HG.out).i.c1; have y0 := (HY1.out.grown HG.out).i.c0; have y1 := (HY1.out.grown HG.out).i.c1; have HM2 := Lib.hid hv; clear hv hg)
  refine hK.out _ _ ?sk27 ?nk27
  case sk27 => exact ⟨x0, x1, y0, y1⟩
  clear hK K
  try simp only [Act.put, List.setIfInBounds_toArray, List.set_cons_zero, List.set_cons_succ]
  refine wpAnyT_last (i := 28) (by kernel_rfl) (by decide) rfl (fun K hK => ?_)
  go_simp
  ((with_reducible refine (rset_c (HZ.out.grown HG.out) HM1.out HM2.out (Nat.mul_ne_zero (dd_ne Dx) HNY.out) lN lD).mono ?_); rintro e W9 ⟨rfl, hr, hg⟩; have HR := Lib.hid hr; have HGB := Lib.hid hg; clear hr hg)
  refine hK.out _ _ ?_
  clear hK K
  try simp only [Act.put, List.setIfInBounds_toArray, List.set_cons_zero, List.set_cons_succ]
  refine wpAnyT_last (i := 29) (by kernel_rfl) (by decide) rfl (fun K hK => ?_)
  go_simp
  refine hK.out _ _ ?_
  clear hK K
  try simp only [Act.put, List.setIfInBounds_toArray, List.set_cons_zero, List.set_cons_succ]
  refine wpAnyT_done (by kernel_rfl) ?_ _
  go_wp2_with fail
  go_ret
  obtain ⟨c, hc, e1, e2⟩ := HV.out
  have hr := HR.out
  try rw [bne_eq] at hr
  refine ⟨_, HG.out, rfl, ?_, HGB.out⟩
  rw [e1, e2]
  first
    | exact hr.scale hc
    | (have hb : (bx != false) = bx := by cases bx <;> rfl
       rw [hb]; exact hr.scale hc)
end Go.Proofs.Ytcfkhhnkboealaa
