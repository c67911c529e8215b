/- Big floats of 400 bits by their values: products. Big floats of 400 bits by their values: quotients. -/
import Derived.Test.YtcfkhhnkboealaaDoorFbf
import Derived.Test.YtcfkhhnkboealaaDoorTake
namespace Go.Proofs.YtcfkhhnkboealaaDoor
open Go.RowKit
set_option linter.unusedVariables false
set_option linter.unusedSimpArgs false
set_option maxRecDepth 100000
set_option maxHeartbeats 4000000
theorem bl_mul {A B L M : Nat} (h1 : bl A ≤ L) (h2 : bl B ≤ M) : bl (A * B) ≤ L + M := by
  apply bl_le_of
  rw [Nat.pow_add]
  have a := Nat.lt_of_lt_of_le (bl_lt A) (Nat.pow_le_pow_right (show 0 < 2 by decide) h1)
  have b := Nat.lt_of_lt_of_le (bl_lt B) (Nat.pow_le_pow_right (show 0 < 2 by decide) h2)
  exact Nat.mul_lt_mul'' a b
theorem sq_mul (a b : Bool) (x y : Rat) : sq (a != b) (x * y) = sq a x * sq b y := by cases a <;> cases b <;> simp [sq] <;> grind
theorem fmul_c {g gx gy m n : Nat} {r s : Rat} {w : World} (hT : TB w) (hz : FZ w g) (hx : FV w gx r) (hy : FV w gy s) (hr : Sz m r) (hs : Sz n s) (hmn : m + n ≤ 90000) :
    Calls Tryd.prog 54 #[.pointer (some ⟨g, 0, none⟩), .pointer (some ⟨gx, 0, none⟩), .pointer (some ⟨gy, 0, none⟩)] w (RetFV g (r * s) w) := by
  obtain ⟨bz, vz, Ez, fz, hZ⟩ := hz
  obtain ⟨bx, vx, E, A, hx1, hx2, hx3, rfl, hx5, hx6, hx7⟩ := hx.fig hr
  obtain ⟨by', vy, F, B, hy1, hy2, hy3, rfl, hy5, hy6, hy7⟩ := hy.fig hs
  have HZ := Lib.hid hZ
  have HX1 := Lib.hid hx1
  have HX2 := Lib.hid hx2
  have HY1 := Lib.hid hy1
  have HY2 := Lib.hid hy2
  have HB := Lib.hid (And.intro hx3 hy3)
  have HT := Lib.hid hT
  have HL : RowKit.Hid ((digs (A * B)).length ≤ 3000) := Lib.hid (Nat.le_trans (bl_digs (bl_mul hx3 hy3)) (by decide))
  have HV : RowKit.Hid (sq (bx != by') (((A * B : Nat) : Rat) * pw (E + F)) = sq bx ((A : Rat) * pw E) * sq by' ((B : Rat) * pw F)) := Lib.hid (by
    rw [← sq_mul, cast_mul, pw_add]; congr 1; grind)
  have x0 := hx1.at'.c0
  have x1 := hx1.at'.c1
  have x2 := hx1.at'.c2
  have x4 := hx1.at'.c4
  have y0 := hy1.at'.c0
  have y1 := hy1.at'.c1
  have y2 := hy1.at'.c2
  have y4 := hy1.at'.c4
  clear hx hr hy hs hx1 hx2 hx3 hx5 hy1 hy2 hy3 hy5 hZ hT
  go_enter Tryd.func54, Tryd.ntmps54
  go_upto_region 2 with (first
    | (go_at_call 56; go_loud ((with_reducible refine (fwide_c HZ.out).mono ?_); rintro e1 w1 ⟨rfl, rfl⟩))
    | fail)
  have HG : RowKit.Hid (Grown w1 w1.drew) := Lib.hid (gr_drew1 (Grown.refl w1))
  have HG0 := HG
  refine wp_region_T (S := fun w' => w'.cell? ⟨gx, 0, none⟩ = some (.bool bx) ∧ w'.cell? ⟨gx, 1, none⟩ = some vx ∧ w'.cell? ⟨gx, 2, none⟩ = some (.int .i64 E) ∧ w'.cell? ⟨gx, 4, none⟩ = some (.bool false) ∧ w'.cell? ⟨gy, 0, none⟩ = some (.bool by') ∧ w'.cell? ⟨gy, 1, none⟩ = some vy ∧ w'.cell? ⟨gy, 2, none⟩ = some (.int .i64 F) ∧ w'.cell? ⟨gy, 4, none⟩ = some (.bool false)) (T := [38, 39]) (by kernel_rfl) ⟨x0, x1, x2, x4, y0, y1, y2, y4⟩ (fun hHeld => ?_)
  refine wpAnyT_take (i := 0) (v := ?_) rfl (by kernel_rfl) (by kernel_rfl) (by kernel_rfl) (by kernel_rfl) (by kernel_rfl) (fun _ _ _ h => h) (Or.inl ⟨by kernel_rfl, ?yk0⟩) hHeld ?rk0
  case yk0 => ((intro w hSw; (try dsimp only at hSw); go_simp); first | done | with_reducible rfl)
  try simp only [Act.put, List.setIfInBounds_toArray, List.set_cons_zero, List.set_cons_succ]
  refine wpAnyT_take (i := 1) (v := ?_) rfl (by kernel_rfl) (by kernel_rfl) (by kernel_rfl) (by kernel_rfl) (by kernel_rfl) (fun _ _ _ h => h) (Or.inl ⟨by kernel_rfl, ?yk1⟩) hHeld ?rk1
  case yk1 => ((intro w hSw; (try dsimp only at hSw); go_simp); first | done | with_reducible rfl)
  try simp only [Act.put, List.setIfInBounds_toArray, List.set_cons_zero, List.set_cons_succ]
  refine wpAnyT_take (i := 2) (v := ?_) rfl (by kernel_rfl) (by kernel_rfl) (by kernel_rfl) (by kernel_rfl) (by kernel_rfl) (fun _ _ _ h => h) (Or.inl ⟨by kernel_rfl, ?yk2⟩) hHeld ?rk2
  case yk2 => ((intro w hSw; (try dsimp only at hSw); go_simp); first | done | with_reducible rfl)
  try simp only [Act.put, List.setIfInBounds_toArray, List.set_cons_zero, List.set_cons_succ]
  refine wpAnyT_take (i := 3) (v := ?_) rfl (by kernel_rfl) (by kernel_rfl) (by kernel_rfl) (by kernel_rfl) (by kernel_rfl) (fun _ _ _ h => h) (Or.inl ⟨by kernel_rfl, ?yk3⟩) hHeld ?rk3
  case yk3 => ((intro w hSw; (try dsimp only at hSw); go_simp); first | done | with_reducible rfl)
  try simp only [Act.put, List.setIfInBounds_toArray, List.set_cons_zero, List.set_cons_succ]
  refine wpAnyT_take (i := 4) (v := ?_) rfl (by kernel_rfl) (by kernel_rfl) (by kernel_rfl) (by kernel_rfl) (by kernel_rfl) (fun _ _ _ h => h) (Or.inl ⟨by kernel_rfl, ?yk4⟩) hHeld ?rk4
  case yk4 => ((intro w hSw; (try dsimp only at hSw); go_simp); first | done | with_reducible rfl)
  try simp only [Act.put, List.setIfInBounds_toArray, List.set_cons_zero, List.set_cons_succ]
  refine wpAnyT_take (i := 5) (v := ?_) rfl (by kernel_rfl) (by kernel_rfl) (by kernel_rfl) (by kernel_rfl) (by kernel_rfl) (fun _ _ _ h => h) (Or.inl ⟨by kernel_rfl, ?yk5⟩) hHeld ?rk5
  case yk5 => ((intro w hSw; (try dsimp only at hSw); go_simp); first | done | with_reducible rfl)
  try simp only [Act.put, List.setIfInBounds_toArray, List.set_cons_zero, List.set_cons_succ]
  refine wpAnyT_take (i := 6) (v := ?_) rfl (by kernel_rfl) (by kernel_rfl) (by kernel_rfl) (by kernel_rfl) (by kernel_rfl) (fun _ _ _ h => h) (Or.inl ⟨by kernel_rfl, ?yk6⟩) hHeld ?rk6
  case yk6 => ((intro w hSw; (try dsimp only at hSw); go_simp); first | done | with_reducible rfl)
  try simp only [Act.put, List.setIfInBounds_toArray, List.set_cons_zero, List.set_cons_succ]
  refine wpAnyT_take (i := 7) (v := ?_) rfl (by kernel_rfl) (by kernel_rfl) (by kernel_rfl) (by kernel_rfl) (by kernel_rfl) (fun _ _ _ h => h) (Or.inl ⟨by kernel_rfl, ?yk7⟩) hHeld ?rk7
  case yk7 => ((intro w hSw; (try dsimp only at hSw); go_simp); first | done | with_reducible rfl)
  try simp only [Act.put, List.setIfInBounds_toArray, List.set_cons_zero, List.set_cons_succ]
  refine wpAnyT_take (i := 8) (v := ?_) rfl (by kernel_rfl) (by kernel_rfl) (by kernel_rfl) (by kernel_rfl) (by kernel_rfl) (fun _ _ _ h => h) (Or.inl ⟨by kernel_rfl, ?yk8⟩) hHeld ?rk8
  case yk8 => ((intro w hSw; (try dsimp only at hSw); go_simp); first | done | with_reducible rfl)
  try simp only [Act.put, List.setIfInBounds_toArray, List.set_cons_zero, List.set_cons_succ]
  refine wpAnyT_take (i := 9) (v := ?_) rfl (by kernel_rfl) (by kernel_rfl) (by kernel_rfl) (by kernel_rfl) (by kernel_rfl) (fun _ _ _ h => h) (Or.inl ⟨by kernel_rfl, ?yk9⟩) hHeld ?rk9
  case yk9 => ((intro w hSw; (try dsimp only at hSw); go_simp); first | done | with_reducible rfl)
  try simp only [Act.put, List.setIfInBounds_toArray, List.set_cons_zero, List.set_cons_succ]
  refine wpAnyT_take (i := 10) (v := ?_) rfl (by kernel_rfl) (by kernel_rfl) (by kernel_rfl) (by kernel_rfl) (by kernel_rfl) (fun _ _ _ h => h) (Or.inl ⟨by kernel_rfl, ?yk10⟩) hHeld ?rk10
  case yk10 => ((intro w hSw; (try dsimp only at hSw); go_simp); first | done | with_reducible rfl)
  try simp only [Act.put, List.setIfInBounds_toArray, List.set_cons_zero, List.set_cons_succ]
  refine wpAnyT_take (i := 11) (v := ?_) rfl (by kernel_rfl) (by kernel_rfl) (by kernel_rfl) (by kernel_rfl) (by kernel_rfl) (fun _ _ _ h => h) (Or.inl ⟨by kernel_rfl, ?yk11⟩) hHeld ?rk11
  case yk11 => ((intro w hSw; (try dsimp only at hSw); go_simp); first | done | with_reducible rfl)
  try simp only [Act.put, List.setIfInBounds_toArray, List.set_cons_zero, List.set_cons_succ]
  refine wpAnyT_take (i := 12) (v := ?_) rfl (by kernel_rfl) (by kernel_rfl) (by kernel_rfl) (by kernel_rfl) (by kernel_rfl) (fun _ _ _ h => h) (Or.inl ⟨by kernel_rfl, ?yk12⟩) hHeld ?rk12
  case yk12 => ((intro w hSw; (try dsimp only at hSw); go_simp); first | done | with_reducible rfl)
  try simp only [Act.put, List.setIfInBounds_toArray, List.set_cons_zero, List.set_cons_succ]
  refine wpAnyT_take (i := 13) (v := ?_) rfl (by kernel_rfl) (by kernel_rfl) (by kernel_rfl) (by kernel_rfl) (by kernel_rfl) (fun _ _ _ h => h) (Or.inl ⟨by kernel_rfl, ?yk13⟩) hHeld ?rk13
  case yk13 => ((intro w hSw; (try dsimp only at hSw); go_simp); first | done | with_reducible rfl)
  try simp only [Act.put, List.setIfInBounds_toArray, List.set_cons_zero, List.set_cons_succ]
  refine wpAnyT_take (i := 14) (v := ?_) rfl (by kernel_rfl) (by kernel_rfl) (by kernel_rfl) (by kernel_rfl) (by kernel_rfl) (fun _ _ _ h => h) (Or.inl ⟨by kernel_rfl, ?yk14⟩) hHeld ?rk14
  case yk14 => ((intro w hSw; (try dsimp only at hSw); go_simp); first | done | with_reducible rfl)
  try simp only [Act.put, List.setIfInBounds_toArray, List.set_cons_zero, List.set_cons_succ]
  refine wpAnyT_take (i := 15) (v := ?_) rfl (by kernel_rfl) (by kernel_rfl) (by kernel_rfl) (by kernel_rfl) (by kernel_rfl) (fun _ _ _ h => h) (Or.inl ⟨by kernel_rfl, ?yk15⟩) hHeld ?rk15
  case yk15 => ((intro w hSw; (try dsimp only at hSw); go_simp); first | done | with_reducible rfl)
  try simp only [Act.put, List.setIfInBounds_toArray, List.set_cons_zero, List.set_cons_succ]
  refine wpAnyT_take (i := 16) (v := ?_) rfl (by kernel_rfl) (by kernel_rfl) (by kernel_rfl) (by kernel_rfl) (by kernel_rfl) (fun _ _ _ h => h) (Or.inl ⟨by kernel_rfl, ?yk16⟩) hHeld ?rk16
  case yk16 => ((intro w hSw; (try dsimp only at hSw); go_simp); first | done | with_reducible rfl)
  try simp only [Act.put, List.setIfInBounds_toArray, List.set_cons_zero, List.set_cons_succ]
  refine wpAnyT_take (i := 17) (v := ?_) rfl (by kernel_rfl) (by kernel_rfl) (by kernel_rfl) (by kernel_rfl) (by kernel_rfl) (fun _ _ _ h => h) (Or.inl ⟨by kernel_rfl, ?yk17⟩) hHeld ?rk17
  case yk17 => ((intro w hSw; (try dsimp only at hSw); go_simp); first | done | with_reducible rfl)
  try simp only [Act.put, List.setIfInBounds_toArray, List.set_cons_zero, List.set_cons_succ]
  refine wpAnyT_take (i := 19) (v := ?_) rfl (by kernel_rfl) (by kernel_rfl) (by kernel_rfl) (by kernel_rfl) (by kernel_rfl) (fun _ _ _ h => h) (Or.inl ⟨by kernel_rfl, ?yk19⟩) hHeld ?rk19
  case yk19 => ((intro w hSw; (try dsimp only at hSw); go_simp); first | done | with_reducible rfl)
  try simp only [Act.put, List.setIfInBounds_toArray, List.set_cons_zero, List.set_cons_succ]
  refine wpAnyT_take (i := 20) (v := ?_) rfl (by kernel_rfl) (by kernel_rfl) (by kernel_rfl) (by kernel_rfl) (by kernel_rfl) (fun _ _ _ h => h) (Or.inl ⟨by kernel_rfl, ?yk20⟩) hHeld ?rk20
  case yk20 => ((intro w hSw; (try dsimp only at hSw); go_simp); first | done | with_reducible rfl)
  try simp only [Act.put, List.setIfInBounds_toArray, List.set_cons_zero, List.set_cons_succ]
  refine wpAnyT_take (i := 21) (v := ?_) rfl (by kernel_rfl) (by kernel_rfl) (by kernel_rfl) (by kernel_rfl) (by kernel_rfl) (fun _ _ _ h => h) (Or.inl ⟨by kernel_rfl, ?yk21⟩) hHeld ?rk21
  case yk21 => ((intro w hSw; (try dsimp only at hSw); go_simp); first | done | with_reducible rfl)
  try simp only [Act.put, List.setIfInBounds_toArray, List.set_cons_zero, List.set_cons_succ]
  refine wpAnyT_take (i := 22) (v := ?_) rfl (by kernel_rfl) (by kernel_rfl) (by kernel_rfl) (by kernel_rfl) (by kernel_rfl) (fun _ _ _ h => h) (Or.inl ⟨by kernel_rfl, ?yk22⟩) hHeld ?rk22
  case yk22 => ((intro w hSw; (try dsimp only at hSw); go_simp); first | done | with_reducible rfl)
  try simp only [Act.put, List.setIfInBounds_toArray, List.set_cons_zero, List.set_cons_succ]
  refine wpAnyT_take (i := 23) (v := ?_) rfl (by kernel_rfl) (by kernel_rfl) (by kernel_rfl) (by kernel_rfl) (by kernel_rfl) (fun _ _ _ h => h) (Or.inl ⟨by kernel_rfl, ?yk23⟩) hHeld ?rk23
  case yk23 => ((intro w hSw; (try dsimp only at hSw); go_simp); first | done | with_reducible rfl)
  try simp only [Act.put, List.setIfInBounds_toArray, List.set_cons_zero, List.set_cons_succ]
  refine wpAnyT_take (i := 24) (v := ?_) rfl (by kernel_rfl) (by kernel_rfl) (by kernel_rfl) (by kernel_rfl) (by kernel_rfl) (fun _ _ _ h => h) (Or.inl ⟨by kernel_rfl, ?yk24⟩) hHeld ?rk24
  case yk24 => ((intro w hSw; (try dsimp only at hSw); go_simp); first | done | with_reducible rfl)
  try simp only [Act.put, List.setIfInBounds_toArray, List.set_cons_zero, List.set_cons_succ]
  refine wpAnyT_take (i := 25) (v := ?_) rfl (by kernel_rfl) (by kernel_rfl) (by kernel_rfl) (by kernel_rfl) (by kernel_rfl) (fun _ _ _ h => h) (Or.inl ⟨by kernel_rfl, ?yk25⟩) hHeld ?rk25
  case yk25 => ((intro w hSw; (try dsimp only at hSw); go_simp); first | done | with_reducible rfl)
  try simp only [Act.put, List.setIfInBounds_toArray, List.set_cons_zero, List.set_cons_succ]
  refine wpAnyT_take (i := 26) (v := ?_) rfl (by kernel_rfl) (by kernel_rfl) (by kernel_rfl) (by kernel_rfl) (by kernel_rfl) (fun _ _ _ h => h) (Or.inl ⟨by kernel_rfl, ?yk26⟩) hHeld ?rk26
  case yk26 => ((intro w hSw; (try dsimp only at hSw); go_simp); first | done | with_reducible rfl)
  try simp only [Act.put, List.setIfInBounds_toArray, List.set_cons_zero, List.set_cons_succ]
  refine wpAnyT_take (i := 27) (v := ?_) rfl (by kernel_rfl) (by kernel_rfl) (by kernel_rfl) (by kernel_rfl) (by kernel_rfl) (fun _ _ _ h => h) (Or.inl ⟨by kernel_rfl, ?yk27⟩) hHeld ?rk27
  case yk27 => ((intro w hSw; (try dsimp only at hSw); go_simp); first | done | with_reducible rfl)
  try simp only [Act.put, List.setIfInBounds_toArray, List.set_cons_zero, List.set_cons_succ]
  refine wpAnyT_take (i := 28) (v := ?_) rfl (by kernel_rfl) (by kernel_rfl) (by kernel_rfl) (by kernel_rfl) (by kernel_rfl) (fun _ _ _ h => h) (Or.inl ⟨by kernel_rfl, ?yk28⟩) hHeld ?rk28
  case yk28 => ((intro w hSw; (try dsimp only at hSw); go_simp); first | done | with_reducible rfl)
  try simp only [Act.put, List.setIfInBounds_toArray, List.set_cons_zero, List.set_cons_succ]
  refine wpAnyT_take (i := 29) (v := ?_) rfl (by kernel_rfl) (by kernel_rfl) (by kernel_rfl) (by kernel_rfl) (by kernel_rfl) (fun _ _ _ h => h) (Or.inl ⟨by kernel_rfl, ?yk29⟩) hHeld ?rk29
  case yk29 => ((intro w hSw; (try dsimp only at hSw); go_simp); first | done | with_reducible rfl)
  try simp only [Act.put, List.setIfInBounds_toArray, List.set_cons_zero, List.set_cons_succ]
  refine wpAnyT_take (i := 30) (v := ?_) rfl (by kernel_rfl) (by kernel_rfl) (by kernel_rfl) (by kernel_rfl) (by kernel_rfl) (fun _ _ _ h => h) (Or.inl ⟨by kernel_rfl, ?yk30⟩) hHeld ?rk30
  case yk30 => ((intro w hSw; (try dsimp only at hSw); go_simp); first | done | with_reducible rfl)
  try simp only [Act.put, List.setIfInBounds_toArray, List.set_cons_zero, List.set_cons_succ]
  refine wpAnyT_take (i := 31) (v := ?_) rfl (by kernel_rfl) (by kernel_rfl) (by kernel_rfl) (by kernel_rfl) (by kernel_rfl) (fun _ _ _ h => h) (Or.inl ⟨by kernel_rfl, ?yk31⟩) hHeld ?rk31
  case yk31 => ((intro w hSw; (try dsimp only at hSw); go_simp); first | done | with_reducible rfl)
  try simp only [Act.put, List.setIfInBounds_toArray, List.set_cons_zero, List.set_cons_succ]
  refine wpAnyT_one (i := 18) (by kernel_rfl) rfl (fun K hK => ?_)
  go_simp
  ((with_reducible refine (mulW_c (HX2.out.grown HG.out) (HY2.out.grown HG.out) (Nat.le_trans (bl_digs HB.out.1) (by decide)) (Nat.le_trans (bl_digs HB.out.2) (by decide))).mono ?_); rintro e W1 ⟨p1, rfl, hv, hg⟩; have HG := Lib.hid (gr_trans HG.out hg); have x0 := (HX1.out.grown HG.out).at'.c0; have x1 := (HX1.out.grown HG.out).at'.c1; have x2 := (HX1.out.grown HG.out).at'.c2; have x4 := (HX1.out.grown HG.out).at'.c4; have y0 := (HY1.out.grown HG.out).at'.c0; have y1 := (HY1.out.grown HG.out).at'.c1; have y2 := (HY1.out.grown HG.out).at'.c2; have y4 := (HY1.out.grown HG.out).at'.c4; have HM1 := Lib.hid hv; clear hv hg)
  refine hK.out _ _ ?sk18 ?nk18
  case sk18 => exact ⟨x0, x1, x2, x4, y0, y1, y2, y4⟩
  clear hK K
  try simp only [Act.put, List.setIfInBounds_toArray, List.set_cons_zero, List.set_cons_succ]
  refine wpAnyT_take (i := 32) (v := ?_) rfl (by kernel_rfl) (by kernel_rfl) (by kernel_rfl) (by kernel_rfl) (by kernel_rfl) (fun _ _ _ h => h) (Or.inl ⟨by kernel_rfl, ?yk32⟩) ⟨x0, x1, x2, x4, y0, y1, y2, y4⟩ ?rk32
  case yk32 => ((intro w hSw; (try dsimp only at hSw); go_simp); first | done | with_reducible rfl)
  try simp only [Act.put, List.setIfInBounds_toArray, List.set_cons_zero, List.set_cons_succ]
  refine wpAnyT_take (i := 33) (v := ?_) rfl (by kernel_rfl) (by kernel_rfl) (by kernel_rfl) (by kernel_rfl) (by kernel_rfl) (fun _ _ _ h => h) (Or.inl ⟨by kernel_rfl, ?yk33⟩) ⟨x0, x1, x2, x4, y0, y1, y2, y4⟩ ?rk33
  case yk33 => ((intro w hSw; (try dsimp only at hSw); go_simp); first | done | with_reducible rfl)
  try simp only [Act.put, List.setIfInBounds_toArray, List.set_cons_zero, List.set_cons_succ]
  refine wpAnyT_take (i := 34) (v := ?_) rfl (by kernel_rfl) (by kernel_rfl) (by kernel_rfl) (by kernel_rfl) (by kernel_rfl) (fun _ _ _ h => h) (Or.inl ⟨by kernel_rfl, ?yk34⟩) ⟨x0, x1, x2, x4, y0, y1, y2, y4⟩ ?rk34
  case yk34 => ((intro w hSw; (try dsimp only at hSw); go_simp); first | done | with_reducible rfl)
  try simp only [Act.put, List.setIfInBounds_toArray, List.set_cons_zero, List.set_cons_succ]
  refine wpAnyT_take (i := 35) (v := ?_) rfl (by kernel_rfl) (by kernel_rfl) (by kernel_rfl) (by kernel_rfl) (by kernel_rfl) (fun _ _ _ h => h) (Or.inl ⟨by kernel_rfl, ?yk35⟩) ⟨x0, x1, x2, x4, y0, y1, y2, y4⟩ ?rk35
  case yk35 => ((intro w hSw; (try dsimp only at hSw); go_simp); first | done | with_reducible rfl)
  try simp only [Act.put, List.setIfInBounds_toArray, List.set_cons_zero, List.set_cons_succ]
  refine wpAnyT_take (i := 36) (v := ?_) rfl (by kernel_rfl) (by kernel_rfl) (by kernel_rfl) (by kernel_rfl) (by kernel_rfl) (fun _ _ _ h => h) (Or.inl ⟨by kernel_rfl, ?yk36⟩) ⟨x0, x1, x2, x4, y0, y1, y2, y4⟩ ?rk36
  case yk36 => ((intro w hSw; (try dsimp only at hSw); go_simp); first | done | with_reducible rfl)
  try simp only [Act.put, List.setIfInBounds_toArray, List.set_cons_zero, List.set_cons_succ]
  refine wpAnyT_take (i := 37) (v := ?_) rfl (by kernel_rfl) (by kernel_rfl) (by kernel_rfl) (by kernel_rfl) (by kernel_rfl) (fun _ _ _ h => h) (Or.inl ⟨by kernel_rfl, ?yk37⟩) ⟨x0, x1, x2, x4, y0, y1, y2, y4⟩ ?rk37
  case yk37 => ((intro w hSw; (try dsimp only at hSw); go_simp); first | done | with_reducible rfl)
  try simp only [Act.put, List.setIfInBounds_toArray, List.set_cons_zero, List.set_cons_succ]
  refine wpAnyT_last (i := 38) (by kernel_rfl) (by decide) rfl (fun K hK => ?_)
  go_simp
  (have hEF : IntKind.i64.wrap (E + F) = E + F := IntWalk.i64_in _ ⟨by omega, by omega⟩; (try rw [hEF]); (with_reducible refine (fset_c (HT.out.grown HG.out).at' (HT.out.grown HG.out).lt (HZ.out.grown HG.out) HM1.out (by omega) (by omega) HL.out).mono ?_); intro e2 w5 h2; have h3 := h2.val; obtain ⟨r', k1, rfl, k2, k3⟩ := h3; have HR := Lib.hid (And.intro k1 (And.intro k2 k3)); clear k1 k2 k3 h2)
  refine hK.out _ _ ?_
  clear hK K
  try simp only [Act.put, List.setIfInBounds_toArray, List.set_cons_zero, List.set_cons_succ]
  refine wpAnyT_last (i := 39) (by kernel_rfl) (by decide) rfl (fun K hK => ?_)
  go_simp
  refine hK.out _ _ ?_
  clear hK K
  try simp only [Act.put, List.setIfInBounds_toArray, List.set_cons_zero, List.set_cons_succ]
  refine wpAnyT_done (by kernel_rfl) ?_ _
  go_wp2_with fail
  go_ret
  have hr := HR.out
  rw [bne_eq] at hr
  rw [HV.out] at hr
  exact ⟨r', hr.1, rfl, hr.2.1, (GrB.of HG.out).trans hr.2.2⟩
end Go.Proofs.YtcfkhhnkboealaaDoor
namespace Go.Proofs.YtcfkhhnkboealaaDoor
open Go.RowKit
set_option linter.unusedVariables false
set_option linter.unusedSimpArgs false
set_option maxRecDepth 100000
set_option maxHeartbeats 4000000
/-- a quotient's figure, and one digit more that tells whether something is left. -/
theorem quo_val {A B k na nb : Nat} (hna : bl A = na) (hnb : bl B = nb) (hB : B ≠ 0) (hk : (k : Int) = 402 + (nb : Int) - (na : Int)) {q : Nat} (hq : q = A * 2 ^ k / B * 2 + (if A * 2 ^ k % B = 0 then 0 else 1)) :
    ab ((q : Rat) - (A : Rat) * ((2 ^ k : Nat) : Rat) / (B : Rat) * 2) ≤ u4 * ((A : Rat) * ((2 ^ k : Nat) : Rat) / (B : Rat) * 2) ∧ (digs q).length ≤ 3000 := by
  have hBp : (0 : Rat) < (B : Rat) := by
    have h : ((1 : Nat) : Rat) ≤ (B : Rat) := cast_le.2 (by omega)
    have e : ((1 : Nat) : Rat) = 1 := rfl
    grind
  have hBn : (B : Rat) ≠ 0 := by grind
  obtain ⟨K, hK⟩ : ∃ K : Nat, K = 400 := ⟨_, rfl⟩
  have hlt := bl_lt A
  have hltB := bl_lt B
  have hdm := Nat.div_add_mod (A * 2 ^ k) B
  have hml := Nat.mod_lt (A * 2 ^ k) (Nat.pos_of_ne_zero hB)
  have hsize : q < 2 ^ (K + 5) := by
    have h1 : A * 2 ^ k < 2 ^ (na + k) := by rw [Nat.pow_add, ← hna]; exact Nat.mul_lt_mul_of_pos_right hlt (Nat.two_pow_pos k)
    have h2 := bl_ge hB
    rw [hnb] at h2
    have h3 : A * 2 ^ k / B < 2 ^ (K + 3) := by
      rw [Nat.div_lt_iff_lt_mul (Nat.pos_of_ne_zero hB)]
      refine Nat.lt_of_lt_of_le h1 ?_
      refine Nat.le_trans ?_ (Nat.mul_le_mul_left _ h2)
      rw [← Nat.pow_add]
      have hb1 : 0 < bl B := by
        rcases Nat.eq_zero_or_pos (bl B) with h | h
        · rw [h] at hltB; simp at hltB; exact absurd hltB hB
        · exact h
      exact Nat.pow_le_pow_right (by decide) (by omega)
    rw [hq, show K + 5 = K + 3 + 2 by omega, Nat.pow_add 2 (K + 3)]
    generalize (2 : Nat) ^ (K + 3) = Z at *
    split <;> omega
  refine ⟨?_, Nat.le_trans (bl_digs (bl_le_of hsize)) (by omega)⟩
  by_cases hA : A = 0
  · subst hA
    have : q = 0 := by rw [hq]; simp
    subst this
    have z0 : ((0 : Nat) : Rat) = 0 := rfl
    rw [z0, Rat.zero_mul]
    have e : (0 : Rat) - 0 / (B : Rat) * 2 = 0 := by grind
    have e2 : u4 * (0 / (B : Rat) * 2) = 0 := by grind
    rw [e, e2]
    decide +kernel
  · have h2 := bl_ge hA
    rw [hna] at h2
    have hna1 : 0 < na := by
      rcases Nat.eq_zero_or_pos na with h | h
      · rw [hna, h] at hlt; simp at hlt; exact absurd hlt hA
      · exact h
    -- the quotient is at least 2^401
    have hbig : 2 ^ (K + 1) * B ≤ A * 2 ^ k := by
      have h3 : 2 ^ (K + 1) * B ≤ 2 ^ (K + 1) * 2 ^ nb := Nat.mul_le_mul_left _ (by rw [← hnb]; exact Nat.le_of_lt hltB)
      have h4 : 2 ^ (na - 1) * 2 ^ k ≤ A * 2 ^ k := Nat.mul_le_mul_right _ h2
      refine Nat.le_trans h3 (Nat.le_trans ?_ h4)
      rw [← Nat.pow_add, ← Nat.pow_add]
      exact Nat.pow_le_pow_right (by decide) (by omega)
    obtain ⟨P, hP⟩ : ∃ P, A * 2 ^ k = P := ⟨_, rfl⟩
    have hPr : (A : Rat) * ((2 ^ k : Nat) : Rat) = (P : Rat) := by rw [← cast_mul, hP]
    rw [hP] at hdm hml hbig hq
    rw [hPr]
    generalize P / B = Q at *
    generalize P % B = R at *
    have c1 : B * Q ≤ P := by omega
    have c2 : P ≤ B * Q + B := by omega
    have c3 : R = 0 → B * Q = P := by omega
    have k1 : ab ((q : Rat) - (P : Rat) / (B : Rat) * 2) ≤ 1 := by
      have d1 := cast_le.2 c1
      have d2 := cast_le.2 c2
      rw [cast_mul] at d1
      have e3 : ((B * Q + B : Nat) : Rat) = (B : Rat) * (Q : Rat) + (B : Rat) := by grind
      rw [e3] at d2
      have l1 : (Q : Rat) ≤ (P : Rat) / (B : Rat) := (le_div hBp).2 (by grind)
      have l2 : (P : Rat) / (B : Rat) ≤ (Q : Rat) + 1 := (div_le hBp).2 (by grind)
      by_cases hR : R = 0
      · have e4 : (P : Rat) = (B : Rat) * (Q : Rat) := by rw [← c3 hR, cast_mul]
        rw [if_pos hR] at hq
        have e5 : (q : Rat) = (Q : Rat) * 2 := by rw [hq]; grind
        rw [ab_le, e5]
        have e6 : (P : Rat) / (B : Rat) = (Q : Rat) := by rw [e4]; grind
        rw [e6]; constructor <;> grind
      · rw [if_neg hR] at hq
        have e5 : (q : Rat) = (Q : Rat) * 2 + 1 := by rw [hq]; grind
        rw [ab_le, e5]; constructor <;> grind
    have k2 : 1 ≤ u4 * ((P : Rat) / (B : Rat) * 2) := by
      have d3 := cast_le.2 hbig
      rw [cast_mul, Nat.pow_succ, cast_mul] at d3
      have hu : u4 * ((2 ^ K : Nat) : Rat) = 1 := by unfold u4; have := pw_negnat K; rwa [hK] at this ⊢
      have e2 : ((2 : Nat) : Rat) = 2 := rfl
      rw [e2] at d3
      have l3 : ((2 ^ K : Nat) : Rat) * 2 ≤ (P : Rat) / (B : Rat) := (le_div hBp).2 d3
      have l4 := Rat.mul_le_mul_of_nonneg_left l3 (Rat.le_of_lt u4_pos)
      grind
    exact Rat.le_trans k1 k2
theorem u4_small : u4 ≤ 1 / 4 := by
  have h : u4 ≤ pw (-2) := pw_mono (by decide)
  have e : pw (-2) = 1 / 4 := by decide +kernel
  rw [e] at h; exact h
theorem quo_end {A B k q : Nat} {E F : Int} {bx by' : Bool} {r' : Rat} (hB : B ≠ 0) (hq : ab ((q : Rat) - (A : Rat) * ((2 ^ k : Nat) : Rat) / (B : Rat) * 2) ≤ u4 * ((A : Rat) * ((2 ^ k : Nat) : Rat) / (B : Rat) * 2))
    (h : ab (r' - sq (bx != by') ((q : Rat) * pw (E - F - (k : Int) - 1))) ≤ u4 * ab (sq (bx != by') ((q : Rat) * pw (E - F - (k : Int) - 1)))) :
    ab (r' - sq bx ((A : Rat) * pw E) / sq by' ((B : Rat) * pw F)) ≤ 3 * u4 * ab (sq bx ((A : Rat) * pw E) / sq by' ((B : Rat) * pw F)) := by
  have hBp : (0 : Rat) < (B : Rat) := by
    have h : ((1 : Nat) : Rat) ≤ (B : Rat) := cast_le.2 (by omega)
    have e : ((1 : Nat) : Rat) = 1 := rfl
    grind
  have hBn : (B : Rat) ≠ 0 := by grind
  have p0 := pw_pos (E - F - (k : Int) - 1)
  have pF := pw_pos F
  have e1 : pw E = pw (E - F - (k : Int) - 1) * pw F * ((2 ^ k : Nat) : Rat) * 2 := by
    rw [← pw_nat, ← pw_one, ← pw_add, ← pw_add, ← pw_add]; congr 1; omega
  obtain ⟨t, ht⟩ : ∃ t, (A : Rat) * ((2 ^ k : Nat) : Rat) / (B : Rat) * 2 = t := ⟨_, rfl⟩
  obtain ⟨p, hp⟩ : ∃ p, pw (E - F - (k : Int) - 1) = p := ⟨_, rfl⟩
  rw [ht] at hq
  rw [hp] at h e1 p0
  have e2 : sq bx ((A : Rat) * pw E) / sq by' ((B : Rat) * pw F) = sq (bx != by') (t * p) := by
    have e3 : (A : Rat) * pw E = t * p * ((B : Rat) * pw F) := by rw [e1, ← ht]; grind
    have e4 : (B : Rat) * pw F ≠ 0 := by have := Rat.mul_pos hBp pF; grind
    rw [e3]
    generalize (B : Rat) * pw F = D at *
    cases bx <;> cases by' <;> simp [sq] <;> grind
  have t0 : 0 ≤ t := by
    rw [← ht]
    have := mul_nn (cast_nn A) (Rat.le_of_lt (pow_posQ k))
    have := (le_div (a := 0) (b := (A : Rat) * ((2 ^ k : Nat) : Rat)) hBp).2 (by rw [Rat.zero_mul]; exact this)
    grind
  have q0 := cast_nn q
  have k1 : ab ((q : Rat) * p - t * p) ≤ u4 * (t * p) := by
    have e5 : (q : Rat) * p - t * p = ((q : Rat) - t) * p := by grind
    rw [e5, ab_mul, ab_pos (Rat.le_of_lt p0)]
    have := Rat.mul_le_mul_of_nonneg_right hq (Rat.le_of_lt p0)
    grind
  rw [e2, sq_ab]
  have tp0 := mul_nn t0 (Rat.le_of_lt p0)
  have qp0 := mul_nn q0 (Rat.le_of_lt p0)
  rw [sq_ab, ab_pos qp0] at h
  rw [ab_pos tp0]
  have k2 := ab_tri r' (sq (bx != by') ((q : Rat) * p)) (sq (bx != by') (t * p))
  rw [sq_sub, sq_ab] at k2
  have k3 : (q : Rat) * p ≤ (1 + u4) * (t * p) := by rw [ab_le] at k1; grind
  have k4 := Rat.mul_le_mul_of_nonneg_left k3 (Rat.le_of_lt u4_pos)
  have k5 : u4 * ((1 + u4) * (t * p)) ≤ 2 * u4 * (t * p) := by
    have a := u4_small
    have b := mul_nn (Rat.le_of_lt u4_pos) tp0
    have c := Rat.mul_le_mul_of_nonneg_right a b
    grind
  grind
theorem fquo_c {g gx gy m n : Nat} {r s : Rat} {w : World} (hT : TB w) (hz : FZ w g) (hx : FV w gx r) (hy : FV w gy s) (hr : Sz m r) (hs : Sz n s) (hmn : m + n ≤ 90000) (hs0 : s ≠ 0) :
    Calls Tryd.prog 65 #[.pointer (some ⟨g, 0, none⟩), .pointer (some ⟨gx, 0, none⟩), .pointer (some ⟨gy, 0, none⟩)] w (fun e w' => ∃ r', ab (r' - r / s) ≤ 3 * u4 * ab (r / s) ∧ e = .returned (.pointer (some ⟨g, 0, none⟩)) ∧ FV w' g r' ∧ GrB g w w') := by
  obtain ⟨bz, vz, Ez, fz, hZ⟩ := hz
  obtain ⟨bx, vx, E, A, hx1, hx2, hx3, rfl, hx5, hx6, hx7⟩ := hx.fig hr
  obtain ⟨by', vy, F, B, hy1, hy2, hy3, rfl, hy5, hy6, hy7⟩ := hy.fig hs
  have hB0 : B ≠ 0 := by
    rintro rfl
    apply hs0
    have z0 : ((0 : Nat) : Rat) = 0 := rfl
    rw [z0, Rat.zero_mul]; cases by' <;> simp [sq]
  have HZ := Lib.hid hZ
  have HX1 := Lib.hid hx1
  have HX2 := Lib.hid hx2
  have HY1 := Lib.hid hy1
  have HY2 := Lib.hid hy2
  have HB := Lib.hid (And.intro hx3 hy3)
  have HB0 := Lib.hid hB0
  have HT := Lib.hid hT
  obtain ⟨sy, cy, ey, _, _, _⟩ := HY2.out
  subst ey
  have hlb : ((((digs B).length : Nat) : Int) == 0) = false := by have := lenz (A := B); rw [this]; exact decide_eq_false hB0
  obtain ⟨ly, hly⟩ : ∃ ly, (digs B).length = ly := ⟨_, rfl⟩
  rw [hly] at HY1 HY2 hlb
  obtain ⟨na, hna⟩ : ∃ na, bl A = na := ⟨_, rfl⟩
  obtain ⟨nb, hnb⟩ : ∃ nb, bl B = nb := ⟨_, rfl⟩
  have HN := Lib.hid (And.intro hna hnb)
  have hna2 : na ≤ 401 := by omega
  have hnb2 : nb ≤ 401 := by omega
  have z3 := hZ.at'.c3
  have x1 := hx1.at'.c1
  have y1 : w.cell? ⟨gy, 1, none⟩ = some (.slice sy ly cy) := HY1.out.at'.c1
  obtain ⟨k, hk⟩ : ∃ k : Nat, (k : Int) = 402 + (nb : Int) - (na : Int) := ⟨402 + nb - na, by omega⟩
  have hkb : k ≤ 803 := by omega
  have ew1 : IntKind.i64.wrap 402 = 402 := by decide +kernel
  have ew2 : IntKind.i64.wrap (402 + (nb : Int)) = 402 + (nb : Int) := IntWalk.i64_in _ ⟨by omega, by omega⟩
  have ew3 : IntKind.i64.wrap (402 + (nb : Int) - (na : Int)) = (k : Int) := (IntWalk.i64_in _ ⟨by omega, by omega⟩).trans hk.symm
  have ew4 : (if (k : Int) < 0 then 0 else (k : Int)) = (k : Int) := if_neg (by omega)
  have HK := Lib.hid hk
  clear hk
  clear hx hr hy hs hx1 hx2 hx3 hx5 hy1 hy2 hy3 hy5 hZ hT hs0 hna hnb hB0
  go_enter Tryd.func65, Tryd.ntmps65
  go_upto_region 4 with (first
    | (go_at_call 56; go_loud ((with_reducible refine (fwide_c HZ.out).mono ?_); rintro e1 w1 ⟨rfl, rfl⟩))
    | fail)
  go_region_held3 (fun w' => w'.cell? ⟨g, 3, none⟩ = some (.int .i64 400) ∧ w'.cell? ⟨gx, 1, none⟩ = some vx ∧ w'.cell? ⟨gy, 1, none⟩ = some (.slice sy ly cy)) (first | exact ⟨by assumption, by assumption, by assumption⟩ | go_keep) (first
    | (go_at_call_of 90 (Value.slice sy ly cy); go_loud ((with_reducible refine (bitLen_c (HY2.out.grown (gr_drew1 (Grown.refl _)))).mono ?_); rw [HN.out.2]; rintro e w2 ⟨n2, rfl, rfl⟩))
    | (go_at_call 90; go_loud ((with_reducible refine (bitLen_c (HX2.out.grown (gr_drewN _ (Grown.refl _)))).mono ?_); rw [HN.out.1]; rintro e w3 ⟨n3, rfl, rfl⟩))
    | fail)
  go_upto_region 5 with fail
  generalize eW : w1.drewN _ = W2
  have HG2 : RowKit.Hid (Grown w1 W2) := Lib.hid (by rw [← eW]; exact gr_drewN _ (Grown.refl w1))
  clear eW
  have x1 : W2.cell? ⟨gx, 1, none⟩ = some vx := (HX1.out.grown HG2.out).at'.c1
  have y1 : W2.cell? ⟨gy, 1, none⟩ = some (.slice sy ly cy) := (HY1.out.grown HG2.out).at'.c1
  obtain ⟨q, hq⟩ : ∃ q, q = A * 2 ^ k / B * 2 + (if A * 2 ^ k % B = 0 then 0 else 1) := ⟨_, rfl⟩
  have HQV := Lib.hid (quo_val HN.out.1 HN.out.2 HB0.out HK.out hq)
  obtain ⟨P, hP⟩ : ∃ P, A * 2 ^ k = P := ⟨_, rfl⟩
  have HP := Lib.hid hP
  have HPL : RowKit.Hid ((digs (A * 2 ^ k)).length ≤ 3000) := Lib.hid (Nat.le_trans (bl_digs (bl_mulp (M := 1300) HB.out.1 (by omega))) (by decide))
  rw [hP] at hq
  have HQ := Lib.hid hq
  clear hq hP
  go_region_held3 (fun w' => w'.cell? ⟨gx, 1, none⟩ = some vx ∧ w'.cell? ⟨gy, 1, none⟩ = some (.slice sy ly cy)) (first | exact ⟨by assumption, by assumption⟩ | go_keep) (first
    | (go_at_call 80; go_loud ((with_reducible refine (upW_c (A := A) k (HX2.out.grown (gr_drew1 HG2.out)) (by omega) (Nat.le_trans (bl_digs HB.out.1) (by decide))).mono ?_); rintro e w3 ⟨v3, rfl, hv3, hg3⟩; have HV3 := Lib.hid hv3; have HG3 := Lib.hid (gr_trans (gr_drew1 HG2.out) hg3); have x1 := (HX1.out.grown HG3.out).at'.c1; have y1 := (HY1.out.grown HG3.out).at'.c1; clear hv3 hg3))
    | (go_at_call 99; go_loud ((with_reducible refine (div_c HV3.out (HY2.out.grown HG3.out) HB0.out (Nat.le_trans HPL.out (by decide))).mono ?_); rw [HP.out]; rintro e w4 ⟨vq, vr, rfl, hvq, hvr, hg4⟩; have HVQ := Lib.hid hvq; have HVR := Lib.hid hvr; have HG4 := Lib.hid (gr_trans HG3.out hg4); have x1 := (HX1.out.grown HG4.out).at'.c1; have y1 := (HY1.out.grown HG4.out).at'.c1; clear hvq hvr hg4))
    | fail)
  obtain ⟨sr, cr, er, _, _, _⟩ := HVR.out
  subst er
  have hlr := lenz (A := P % B)
  have hgt : (0 < (digs (P % B)).length) = ¬ (P % B = 0) := by
    by_cases h : P % B = 0
    · rw [h]; simp [digs_zero]
    · have := digs_len_pos h
      simp [h, this]
  clear hlr
  have HQ1 : RowKit.Hid ((digs (P / B)).length ≤ 1000000) := Lib.hid (Nat.le_trans (digs_mono (Nat.div_le_self _ _)) (Nat.le_trans (by rw [← HP.out]; exact HPL.out) (by decide)))
  have HU1 : RowKit.Hid (∀ v W, IsW W v (digs (P / B)) → Calls Tryd.prog 80 #[v, .int .i64 1] W (RetW (P / B * 2 ^ 1) W)) := Lib.hid (fun v W h => upW_c (A := P / B) 1 h (by decide) HQ1.out)
  have HQ2 : RowKit.Hid ((digs (P / B * 2 ^ 1)).length ≤ 100000000) := Lib.hid (Nat.le_trans (digs_len_shift _ 1) (by have := HQ1.out; omega))
  have key : ∃ zr : Bool, decide (P % B = 0) = zr := ⟨_, rfl⟩
  obtain ⟨zr, hzr⟩ := key
  have HZR := Lib.hid hzr
  clear hzr
  cases zr
  all_goals
    first
      | (have hz9 : P % B = 0 := (by simpa using HZR.out)
         rw [hz9] at hgt)
      | (have hz9 : ¬ P % B = 0 := (by simpa using HZR.out)
         have hgt9 : 0 < (digs (P % B)).length := (by rw [hgt]; exact hz9))
    go_upto_region 9 with (first
      | (go_at_call 80; go_loud ((with_reducible refine (HU1.out _ _ HVQ.out).mono ?_); rintro e w5 ⟨v5, rfl, hv5, hg5⟩; have HV5 := Lib.hid hv5; have HG5 := Lib.hid (gr_trans HG4.out hg5); clear hv5 hg5))
      | (go_at_call 94; go_loud ((with_reducible refine (addW_c (HV5.out.grown ((Grown.refl _).alloc _ _)) (isW_one w5 _) HQ2.out (by decide)).mono ?_); rintro e w6 ⟨v6, rfl, hv6, hg6⟩; have HV6 := Lib.hid hv6; have HG6 := Lib.hid (gr_trans HG5.out (gr_trans ((Grown.refl _).alloc _ _) hg6)); clear hv6 hg6))
      | fail)
    first
      | (have HVF : RowKit.Hid (IsW w6 v6 (digs q)) := Lib.hid (by
          have h1 := HV6.out
          have h2 := HQ.out
          rw [if_neg (by simpa using HZR.out)] at h2
          rw [h2]; rwa [Nat.pow_one] at h1)
         have HGF := HG6)
      | (have HVF : RowKit.Hid (IsW w5 v5 (digs q)) := Lib.hid (by
          have h1 := HV5.out
          have h2 := HQ.out
          rw [if_pos (by simpa using HZR.out)] at h2
          rw [h2]; rwa [Nat.pow_one] at h1)
         have HGF := HG5)
    have x0 := (HX1.out.grown HGF.out).at'.c0
    have x2 := (HX1.out.grown HGF.out).at'.c2
    have x4 := (HX1.out.grown HGF.out).at'.c4
    have y0 := (HY1.out.grown HGF.out).at'.c0
    have y2 := (HY1.out.grown HGF.out).at'.c2
    have y4 := (HY1.out.grown HGF.out).at'.c4
    have HZF := Lib.hid (HZ.out.grown HGF.out)
    have HTF := Lib.hid (HT.out.grown HGF.out)
    first
      | generalize w6 = WF at *
      | generalize w5 = WF at *
    have ef1 : IntKind.i64.wrap (E - F) = E - F := IntWalk.i64_in _ ⟨by omega, by omega⟩
    have ef2 : IntKind.i64.wrap (E - F - (k : Int)) = E - F - (k : Int) := IntWalk.i64_in _ ⟨by omega, by omega⟩
    have ef3 : IntKind.i64.wrap (E - F - (k : Int) - 1) = E - F - (k : Int) - 1 := IntWalk.i64_in _ ⟨by omega, by omega⟩
    go_still_tail 33, (by kernel_rfl)
    change wpList _ _ _ _ _ WF.drew
    have HGd : RowKit.Hid (Grown WF WF.drew) := Lib.hid (gr_drew1 (Grown.refl WF))
    have HZd := Lib.hid (HZF.out.grown HGd.out)
    have Hd := Lib.hid (HVF.out.grown HGd.out)
    have HTd := Lib.hid (HTF.out.grown HGd.out)
    generalize eW : WF.drew = WG at *
    go_wp2_with (first
      | (go_at_call 59; go_loud ((with_reducible refine (fset_c HTd.out.at' HTd.out.lt HZd.out Hd.out (by omega) (by omega) HQV.out.2).mono ?_); intro e2 w7 h2; have h3 := h2.val; obtain ⟨r', k1, rfl, k2, k3⟩ := h3))
      | fail)
    go_ret
    rw [bne_eq] at k1
    exact ⟨r', quo_end HB0.out HQV.out.1 k1, rfl, k2, (GrB.of (gr_trans HGF.out HGd.out)).trans k3⟩
end Go.Proofs.YtcfkhhnkboealaaDoor
