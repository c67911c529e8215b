/- Half planes bent to polygons: the slope. -/
import Derived.Test.YtcfkhhnkboealaaZc
import Derived.Test.YtcfkhhnkboealaaTake
namespace Go.Proofs.Ytcfkhhnkboealaa
open Go.RowKit
set_option linter.unusedVariables false
set_option linter.unusedSimpArgs false
set_option maxRecDepth 100000
set_option maxHeartbeats 4000000
/-- a factor of the slope: at the place (x, y), y without its sign. -/
def facX (fs gs : List Nat) (x y j : Nat) : Nat := crealX (fsub x (fs.getD j 0)) y (fsub (gs.getD j 0) 4607182418800017408)
def facY (fs gs : List Nat) (x y j : Nat) : Nat := crealY (fsub x (fs.getD j 0)) y (fsub (gs.getD j 0) 4607182418800017408)
def slopeP (fs gs : List Nat) (x y : Nat) : Nat → Nat × Nat
  | 0 => (facX fs gs x y 0, facY fs gs x y 0)
  | k + 1 => (mulX (slopeP fs gs x y k).1 (slopeP fs gs x y k).2 (facX fs gs x y (k + 1)) (facY fs gs x y (k + 1)), mulY (slopeP fs gs x y k).1 (slopeP fs gs x y k).2 (facX fs gs x y (k + 1)) (facY fs gs x y (k + 1)))
/-- the first factor draws nothing. -/
def numP (fs gs : List Nat) (f : Nat) : Bool := !isN f && !isN (fs.getD 0 0) && !isN (gs.getD 0 0) && !isN (fsub f (fs.getD 0 0)) && !isN (fsub (gs.getD 0 0) 4607182418800017408)
theorem slope_c {w : World} {b cap n b2 c2 x y f g : Nat} {xs fs ys gs : List Nat} (h : FW w b cap xs fs) (hn : xs.length = n) (k : FW w b2 c2 ys gs) (kn : ys.length = n) (h1 : 3 ≤ n) (hx : Rep x f) (hy : Rep y g) (num : numP fs gs f = true) :
    Calls Try.prog 136 #[.slice (some ⟨b, 0, none⟩) n cap, .slice (some ⟨b2, 0, none⟩) n c2, .complex .f64 x y] w (RetCG (slopeP fs gs f (fabs g) (n - 1)).1 (slopeP fs gs f (fabs g) (n - 1)).2 w) := by
  have H := Lib.hid h
  have K := Lib.hid k
  have HN := Lib.hid hn
  have KN := Lib.hid kn
  have hcap := h.lc
  have htop := h.top
  have kcap := k.lc
  have ktop := k.top
  rw [hn] at hcap
  rw [kn] at kcap
  have hb := h.lt
  have kb := k.lt
  have h5 : (0 : Int) < n := by omega
  have h6 : (1 : Int) ≤ n := by omega
  have h7 : 0 < n := by omega
  have c0 := h.cell 0 (by omega)
  have d0 := k.cell 0 (by omega)
  have r0 := h.rep 0 (by omega)
  have s0 := k.rep 0 (by omega)
  obtain ⟨a0, ea0⟩ : ∃ a, xs.getD 0 0 = a := ⟨_, rfl⟩
  obtain ⟨t0, et0⟩ : ∃ a, ys.getD 0 0 = a := ⟨_, rfl⟩
  obtain ⟨fa, efa⟩ : ∃ a, fs.getD 0 0 = a := ⟨_, rfl⟩
  obtain ⟨ga, ega⟩ : ∃ a, gs.getD 0 0 = a := ⟨_, rfl⟩
  have E0 := Lib.hid (And.intro efa ega)
  rw [ea0] at c0
  rw [et0] at d0
  rw [ea0, efa] at r0
  rw [et0, ega] at s0
  unfold numP at num
  rw [efa, ega] at num
  simp only [Bool.and_eq_true, Bool.not_eq_true'] at num
  obtain ⟨⟨⟨⟨m1, m2⟩, m3⟩, m4⟩, m5⟩ := num
  obtain rfl : x = f := hx.eq_of m1
  obtain rfl : a0 = fa := r0.eq_of m2
  obtain rfl : t0 = ga := s0.eq_of m3
  have z1 : fdr .sub x a0 = 0 := fdr_sub m4
  have z2 : fdr .sub t0 4607182418800017408 = 0 := fdr_sub m5
  have z3 : ∀ W, fres .sub x a0 W = fsub x a0 := fun W => (hx.sub r0).eq_of m4
  have z4 : ∀ W, fres .sub t0 4607182418800017408 W = fsub t0 4607182418800017408 := fun W => (s0.sub Rep.cone).eq_of m5
  have R1 : Rep (fsub x a0) (fsub x a0) := self_of (hx.sub r0 (w := w)) m4
  have R2 : Rep (fsub t0 4607182418800017408) (fsub t0 4607182418800017408) := self_of (s0.sub Rep.cone (w := w)) m5
  clear m1 m2 m3 m4 m5
  clear h k hn kn ea0 et0 efa ega
  go_enter Try.func136, Try.ntmps136
  go_upto_region 2 with (first
    | (go_at_call 23; (with_reducible refine (abs_c hy _).mono ?_); rintro e w' ⟨r, n1, rfl, hr, rfl⟩)
    | fail)
  refine wp_region_T (S := fun w' => w'.cell? ⟨b, 0, none⟩ = some (.float .f64 a0) ∧ w'.cell? ⟨b2, 0, none⟩ = some (.float .f64 t0)) (T := [12, 13]) (by kernel_rfl) ⟨c0, d0⟩ (fun hHeld => ?_)
  refine wpAnyT_take (i := 0) (v := ?_) rfl (by kernel_rfl) (by kernel_rfl) (by kernel_rfl) (by kernel_rfl) (by kernel_rfl) (fun _ _ _ h => h) (Or.inl ⟨by kernel_rfl, ?yk0⟩) hHeld ?rk0
  case yk0 => ((intro w hSw; (try dsimp only at hSw); go_simp); first | done | with_reducible rfl | (constructor <;> first | with_reducible rfl | rfl))
  try simp only [Act.put, List.setIfInBounds_toArray, List.set_cons_zero, List.set_cons_succ]
  refine wpAnyT_take (i := 1) (v := ?_) rfl (by kernel_rfl) (by kernel_rfl) (by kernel_rfl) (by kernel_rfl) (by kernel_rfl) (fun _ _ _ h => h) (Or.inl ⟨by kernel_rfl, ?yk1⟩) hHeld ?rk1
  case yk1 => ((intro w hSw; (try dsimp only at hSw); go_simp); first | done | with_reducible rfl | (constructor <;> first | with_reducible rfl | rfl))
  try simp only [Act.put, List.setIfInBounds_toArray, List.set_cons_zero, List.set_cons_succ]
  refine wpAnyT_take (i := 2) (v := ?_) rfl (by kernel_rfl) (by kernel_rfl) (by kernel_rfl) (by kernel_rfl) (by kernel_rfl) (fun _ _ _ h => h) (Or.inl ⟨by kernel_rfl, ?yk2⟩) hHeld ?rk2
  case yk2 => ((intro w hSw; (try dsimp only at hSw); go_simp); first | done | with_reducible rfl | (constructor <;> first | with_reducible rfl | rfl))
  try simp only [Act.put, List.setIfInBounds_toArray, List.set_cons_zero, List.set_cons_succ]
  refine wpAnyT_take (i := 3) (v := ?_) rfl (by kernel_rfl) (by kernel_rfl) (by kernel_rfl) (by kernel_rfl) (by kernel_rfl) (fun _ _ _ h => h) (Or.inl ⟨by kernel_rfl, ?yk3⟩) hHeld ?rk3
  case yk3 => ((intro w hSw; (try dsimp only at hSw); go_simp); first | done | with_reducible rfl | (constructor <;> first | with_reducible rfl | rfl))
  try simp only [Act.put, List.setIfInBounds_toArray, List.set_cons_zero, List.set_cons_succ]
  refine wpAnyT_take (i := 4) (v := ?_) rfl (by kernel_rfl) (by kernel_rfl) (by kernel_rfl) (by kernel_rfl) (by kernel_rfl) (fun _ _ _ h => h) (Or.inl ⟨by kernel_rfl, ?yk4⟩) hHeld ?rk4
  case yk4 => ((intro w hSw; (try dsimp only at hSw); go_simp); first | done | with_reducible rfl | (constructor <;> first | with_reducible rfl | rfl))
  try simp only [Act.put, List.setIfInBounds_toArray, List.set_cons_zero, List.set_cons_succ]
  refine wpAnyT_take (i := 5) (v := ?_) rfl (by kernel_rfl) (by kernel_rfl) (by kernel_rfl) (by kernel_rfl) (by kernel_rfl) (fun _ _ _ h => h) (Or.inl ⟨by kernel_rfl, ?yk5⟩) hHeld ?rk5
  case yk5 => ((intro w hSw; (try dsimp only at hSw); go_simp); first | done | with_reducible rfl | (constructor <;> first | with_reducible rfl | rfl))
  try simp only [Act.put, List.setIfInBounds_toArray, List.set_cons_zero, List.set_cons_succ]
  refine wpAnyT_take (i := 6) (v := ?_) rfl (by kernel_rfl) (by kernel_rfl) (by kernel_rfl) (by kernel_rfl) (by kernel_rfl) (fun _ _ _ h => h) (Or.inl ⟨by kernel_rfl, ?yk6⟩) hHeld ?rk6
  case yk6 => ((intro w hSw; (try dsimp only at hSw); go_simp); first | done | with_reducible rfl | (constructor <;> first | with_reducible rfl | rfl))
  try simp only [Act.put, List.setIfInBounds_toArray, List.set_cons_zero, List.set_cons_succ]
  refine wpAnyT_take (i := 7) (v := ?_) rfl (by kernel_rfl) (by kernel_rfl) (by kernel_rfl) (by kernel_rfl) (by kernel_rfl) (fun _ _ _ h => h) (Or.inl ⟨by kernel_rfl, ?yk7⟩) hHeld ?rk7
  case yk7 => ((intro w hSw; (try dsimp only at hSw); go_simp); first | done | with_reducible rfl | (constructor <;> first | with_reducible rfl | rfl))
  try simp only [Act.put, List.setIfInBounds_toArray, List.set_cons_zero, List.set_cons_succ]
  refine wpAnyT_take (i := 8) (v := ?_) rfl (by kernel_rfl) (by kernel_rfl) (by kernel_rfl) (by kernel_rfl) (by kernel_rfl) (fun _ _ _ h => h) (Or.inl ⟨by kernel_rfl, ?yk8⟩) hHeld ?rk8
  case yk8 => ((intro w hSw; (try dsimp only at hSw); go_simp); first | done | with_reducible rfl | (constructor <;> first | with_reducible rfl | rfl))
  try simp only [Act.put, List.setIfInBounds_toArray, List.set_cons_zero, List.set_cons_succ]
  refine wpAnyT_take (i := 9) (v := ?_) rfl (by kernel_rfl) (by kernel_rfl) (by kernel_rfl) (by kernel_rfl) (by kernel_rfl) (fun _ _ _ h => h) (Or.inl ⟨by kernel_rfl, ?yk9⟩) hHeld ?rk9
  case yk9 => ((intro w hSw; (try dsimp only at hSw); go_simp); first | done | with_reducible rfl | (constructor <;> first | with_reducible rfl | rfl))
  try simp only [Act.put, List.setIfInBounds_toArray, List.set_cons_zero, List.set_cons_succ]
  refine wpAnyT_take (i := 10) (v := ?_) rfl (by kernel_rfl) (by kernel_rfl) (by kernel_rfl) (by kernel_rfl) (by kernel_rfl) (fun _ _ _ h => h) (Or.inl ⟨by kernel_rfl, ?yk10⟩) hHeld ?rk10
  case yk10 => ((intro w hSw; (try dsimp only at hSw); go_simp); first | done | with_reducible rfl | (constructor <;> first | with_reducible rfl | rfl))
  try simp only [Act.put, List.setIfInBounds_toArray, List.set_cons_zero, List.set_cons_succ]
  refine wpAnyT_take (i := 11) (v := ?_) rfl (by kernel_rfl) (by kernel_rfl) (by kernel_rfl) (by kernel_rfl) (by kernel_rfl) (fun _ _ _ h => h) (Or.inl ⟨by kernel_rfl, ?yk11⟩) hHeld ?rk11
  case yk11 => ((intro w hSw; (try dsimp only at hSw); go_simp); first | done | with_reducible rfl | (constructor <;> first | with_reducible rfl | rfl))
  try simp only [Act.put, List.setIfInBounds_toArray, List.set_cons_zero, List.set_cons_succ]
  refine wpAnyT_last (i := 12) (by kernel_rfl) (by decide) rfl (fun K hK => ?_)
  go_simp
  (go_at_call 60; (with_reducible refine (creal_c R1 hr R2 _).mono ?_); rintro e W ⟨u, v, rfl, hu, hv, g1⟩; have G1 := Lib.hid (gr_trans (gr_drewN (n1 + 1) (Grown.refl w)) g1); have HU := Lib.hid (And.intro hu hv); clear g1 hu hv)
  refine hK.out _ _ ?_
  clear hK K
  try simp only [Act.put, List.setIfInBounds_toArray, List.set_cons_zero, List.set_cons_succ]
  refine wpAnyT_last (i := 13) (by kernel_rfl) (by decide) rfl (fun K hK => ?_)
  go_simp
  refine hK.out _ _ ?_
  clear hK K
  try simp only [Act.put, List.setIfInBounds_toArray, List.set_cons_zero, List.set_cons_succ]
  refine wpAnyT_done (by kernel_rfl) ?_ _
  have HU0 : RowKit.Hid (Rep u (slopeP fs gs x (fabs g) 0).1 ∧ Rep v (slopeP fs gs x (fabs g) 0).2) := Lib.hid (by
    rw [slopeP]; unfold facX facY; rw [E0.out.1, E0.out.2]; exact HU.out)
  clear HU r0 s0 c0 d0 E0 z1 z2 z3 z4 R1 R2
  go_wp2
  go_loopw [8, 30] (fun s i wr => ∃ k r t : Nat, k + 1 ≤ n ∧ i = .int .i64 k ∧ s = .complex .f64 r t ∧ RowKit.Hid (Grown w wr) ∧ RowKit.Hid (Rep r (slopeP fs gs x (fabs g) k).1 ∧ Rep t (slopeP fs gs x (fabs g) k).2)) (fun _ i _ => n - (intOf i).toNat)
  case atStart => exact ⟨0, _, _, by omega, rfl, rfl, by first | exact G1 | exact Lib.hid (gr_drewN _ G1.out), HU0⟩
  case round =>
    obtain ⟨k, p, q, hk, rfl, rfl, hgr, hpq⟩ := hrel
    by_cases hlt : k + 1 < n
    · have c1 := H.out.cell (k + 1) (by rw [HN.out]; exact hlt)
      have d1 := K.out.cell (k + 1) (by rw [KN.out]; exact hlt)
      rw [← grown_cell hgr.out hb] at c1
      rw [← grown_cell hgr.out kb] at d1
      have ra := H.out.rep (k + 1) (by rw [HN.out]; exact hlt)
      have rt := K.out.rep (k + 1) (by rw [KN.out]; exact hlt)
      obtain ⟨a1, ea1⟩ : ∃ a, xs.getD (k + 1) 0 = a := ⟨_, rfl⟩
      obtain ⟨t1, et1⟩ : ∃ a, ys.getD (k + 1) 0 = a := ⟨_, rfl⟩
      obtain ⟨fa, efa⟩ : ∃ a, fs.getD (k + 1) 0 = a := ⟨_, rfl⟩
      obtain ⟨ga, ega⟩ : ∃ a, gs.getD (k + 1) 0 = a := ⟨_, rfl⟩
      have E1 := Lib.hid (And.intro efa ega)
      rw [ea1] at c1
      rw [et1] at d1
      rw [ea1, efa] at ra
      rw [et1, ega] at rt
      clear ea1 et1 efa ega
      have c1' : wr.cell? ⟨b, 1 + k, none⟩ = some (.float .f64 a1) := by rw [Nat.add_comm]; exact c1
      have hk1 : ((k : Int) + 1).toNat = k + 1 := by omega
      have hk2 : (k : Int) + 1 < n := by omega
      have hk3 : (k : Int) < ((n - 1 : Nat) : Int) := by omega
      have hk4 : k < n - 1 := by omega
      go_wp2_with (first
        | (go_at_call 60; go_loud ((with_reducible refine (creal_c (hx.sub ra) hr (rt.sub Rep.cone) _).mono ?_); rintro e W2 ⟨u2, v2, rfl, hu2, hv2, g2⟩; have G2 := Lib.hid (gr_trans (gr_drewN _ hgr.out) g2); clear g2))
        | (go_at_call 62; go_loud ((with_reducible refine (cmul_c hpq.out.1 hpq.out.2 hu2 hv2 _).mono ?_); rintro e w' ⟨p2, q2, n2, rfl, hp2, hq2, rfl⟩))
        | fail)
      go_roundw
      case rel =>
        refine ⟨k + 1, _, _, by omega, by go_num, rfl, Lib.hid (gr_drewN _ G2.out), Lib.hid ?_⟩
        rw [slopeP]
        unfold facX facY mulX mulY
        rw [E1.out.1, E1.out.2]
        exact ⟨hp2, hq2⟩
      case measure => simp [intOf]; omega
    · have hkn : k = n - 1 := by omega
      have hk3 : ¬ (k : Int) < ((n - 1 : Nat) : Int) := by omega
      have hk4 : ¬ k < n - 1 := by omega
      go_wp2
      go_ret
      rw [← hkn]
      exact ⟨_, _, rfl, hpq.out.1, hpq.out.2, hgr.out⟩
end Go.Proofs.Ytcfkhhnkboealaa
