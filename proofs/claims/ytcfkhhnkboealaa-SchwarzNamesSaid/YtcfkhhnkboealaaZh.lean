/- Half planes bent to polygons: the corners. -/
import Derived.Test.YtcfkhhnkboealaaZg
namespace Go.Proofs.Ytcfkhhnkboealaa
open Go.RowKit
set_option linter.unusedVariables false
set_option linter.unusedSimpArgs false
set_option maxRecDepth 100000
set_option maxHeartbeats 4000000
def crn (S : Nat → Nat) : Nat → Nat
  | 0 => 0
  | k + 1 => fadd (crn S k) (S k)
theorem RowC.made1 (W : World) (n : Nat) (hn : 0 < n) (F G : Nat → Nat) (f0 : F 0 = 0) (g0 : G 0 = 0) (T : TypeId) : RowC (W.alloc (.cells (madeCells #[.complex .f64 0 0] n) T)) W.heap.size n 1 F G :=
  ⟨by simp, fun j hj => by
    obtain rfl : j = 0 := by omega
    exact ⟨0, 0, cu_new (by simp [madeCells, hn]), by rw [f0]; exact Rep.c0, by rw [g0]; exact Rep.c0⟩, fun j hj => hc_new (by simp [madeCells]; exact hj), fun j => fzn_alloc _ _ _ _⟩
structure CorW (w W : World) (bo n k : Nat) (F G : Nat → Nat) : Prop where
  gr : GrW w W
  row : RowC W bo n k F G
theorem CorW.up {w W W' : World} {bo n k : Nat} {F G : Nat → Nat} (h : CorW w W bo n k F G) (g : GrW W W') : CorW w W' bo n k F G := ⟨h.gr.trans g, h.row.up g⟩
theorem CorW.put {w W : World} {bo n k r s : Nat} {F G : Nat → Nat} (h : CorW w W bo n k F G) (hb : w.heap.size ≤ bo) (hk : k < n) (p : Rep r (F k)) (q : Rep s (G k)) : CorW w (W.setCell ⟨bo, k, none⟩ (.complex .f64 r s)) bo n (k + 1) F G :=
  ⟨h.gr.setCell hb _, h.row.put hk p q⟩
theorem corners_c {w : World} {b cap n b2 c2 m : Nat} {xs fs ys gs : List Nat} (h : FW w b cap xs fs) (hn : xs.length = n) (k : FW w b2 c2 ys gs) (kn : ys.length = n) (h1 : 3 ≤ n) (h2 : n ≤ 16) (m1 : 1 ≤ m) (m2 : m ≤ 16384)
    (hC : Calls Try.prog 79 #[.slice (some ⟨b, 0, none⟩) n cap, .slice (some ⟨b2, 0, none⟩) n c2] w (RetI .i64 0 w)) (SX SY : Nat → Nat)
    (hB : ∀ i, i + 1 < n → ∀ W, GrW w W → Calls Try.prog 138 #[.slice (some ⟨b, 0, none⟩) n cap, .slice (some ⟨b2, 0, none⟩) n c2, .complex .f64 (xs.getD i 0) 0, .complex .f64 (xs.getD (i + 1) 0) 0, .int .i64 m] W (fun e w' => e = .returned (.tuple #[.complex .f64 (SX i) (SY i), .int .i64 0]) ∧ GrW W w'))
    (hS : ∀ i, i + 1 < n → Rep (SX i) (SX i) ∧ Rep (SY i) (SY i)) (hP : ∀ i, i + 1 < n → (fin (crn SX (i + 1)) && fin (crn SY (i + 1))) = true) :
    Calls Try.prog 82 #[.slice (some ⟨b, 0, none⟩) n cap, .slice (some ⟨b2, 0, none⟩) n c2, .int .i64 m] w (fun e w' => ∃ g, e = .returned (.tuple #[.slice (some ⟨g, 0, none⟩) n n, .int .i64 0]) ∧ RowC w' g n n (crn SX) (crn SY) ∧ GrW w w') := by
  have H := Lib.hid h
  have K := Lib.hid k
  have HN := Lib.hid hn
  have hcap := h.lc
  have htop := h.top
  rw [hn] at hcap
  have HC := Lib.hid hC
  have HB := Lib.hid hB
  have HS := Lib.hid hS
  have HP := Lib.hid hP
  have mk := mk_cplx n (by omega)
  have h5 : (1 : Int) ≤ n := by omega
  have h6 : (m : Int) ≤ 16384 := by omega
  have h7 : (1 : Int) ≤ m := by omega
  clear h k hC hB hS hP hn kn
  go_enter Try.func82, Try.ntmps82
  go_upto_region 7 with (first
    | (go_at_call 79; (with_reducible refine HC.out.mono ?_); rintro e w' ⟨d1, rfl, rfl⟩)
    | (go_at_call 137; (with_reducible refine (countYes_c h7 h6 _).mono ?_); rintro e w' ⟨d2, rfl, rfl⟩)
    | fail)
  refine wp_name fun W eW => ?_
  have C0 : RowKit.Hid (CorW w W w.heap.size n 1 (crn SX) (crn SY)) := Lib.hid (by
    rw [eW]
    exact ⟨((GrW.refl w).drewN _).alloc _, RowC.made1 (w.drewN _) n (by omega) _ _ rfl rfl _⟩)
  clear eW mk
  generalize eb : w.heap.size = bo at C0 ⊢
  have hbo : w.heap.size ≤ bo := Nat.le_of_eq eb
  clear eb
  go_wp2
  go_loopw [28] (fun i wr => ∃ k : Nat, k + 1 ≤ n ∧ i = .int .i64 k ∧ RowKit.Hid (CorW w wr bo n (k + 1) (crn SX) (crn SY))) (fun i _ => n - (intOf i).toNat)
  case atStart => exact ⟨0, by omega, rfl, C0⟩
  case round =>
    obtain ⟨k, hk, rfl, HO⟩ := hrel
    clear C0
    by_cases hlt : k + 1 < n
    · have hk1 : ((k : Int) + 1).toNat = k + 1 := by omega
      have hk2 : (k : Int) + 1 < n := by omega
      have hk3 : (k : Int) < ((n - 1 : Nat) : Int) := by omega
      have hk4 : k < n - 1 := by omega
      have hk5 : (k : Int) < n := by omega
      have hk6 : k < n := by omega
      have hk7 : (0 : Int) ≤ (k : Int) + 1 := by omega
      have hwr : IntKind.i64.wrap ((k : Int) + 1) = (k : Int) + 1 := IntWalk.i64_in _ ⟨by omega, by omega⟩
      have hwr2 : wrap64 ((k : Int) + 1) = (k : Int) + 1 := IntWalk.wrap64_in _ ⟨by omega, by omega⟩
      have c0 := (H.out.up HO.out.gr).cell k (by rw [HN.out]; omega)
      have c1 := (H.out.up HO.out.gr).cell (k + 1) (by rw [HN.out]; omega)
      have hbw : b < wr.heap.size := Nat.lt_of_lt_of_le H.out.lt HO.out.gr.size
      have HBk := Lib.hid (HB.out k hlt)
      obtain ⟨x0, ex0⟩ : ∃ x, xs.getD k 0 = x := ⟨_, rfl⟩
      obtain ⟨x1, ex1⟩ : ∃ x, xs.getD (k + 1) 0 = x := ⟨_, rfl⟩
      rw [ex0] at c0 HBk
      rw [ex1] at c1 HBk
      clear ex0 ex1
      go_upto_region 10 with fail
      go_region_held3 (fun w' => w'.cell? ⟨b, k, none⟩ = some (.float .f64 x0) ∧ w'.cell? ⟨b, k + 1, none⟩ = some (.float .f64 x1)) (first | exact ⟨by assumption, by assumption⟩ | go_keep) (first
        | (go_at_call 138; go_loud (refine (HBk.out _ (HO.out.gr.drewN 1)).mono ?_; rintro e w6 ⟨rfl, g6⟩; have C6 := Lib.hid ((HO.out.up ((GrW.refl wr).drewN 1)).up g6); have d0 : w6.cell? ⟨b, k, none⟩ = _ := (g6.cell (a := ⟨b, k, none⟩) hbw).trans c0; have d1 : w6.cell? ⟨b, k + 1, none⟩ = _ := (g6.cell (a := ⟨b, k + 1, none⟩) hbw).trans c1; obtain ⟨r, s, cr, hr, hs⟩ := C6.out.row.done k (by omega); obtain ⟨u1, cu1⟩ := C6.out.row.has (k + 1) hlt; have fz1 := C6.out.row.fz (k + 1); clear g6))
        | fail)
      go_wp2_with (first
        | (go_at_call 124; go_loud ((with_reducible refine (cadd_c hr hs (HS.out k hlt).1 (HS.out k hlt).2 _).mono ?_); rintro e w' ⟨p, q, d3, rfl, hp, hq, rfl⟩))
        | (go_at_call 135; go_loud ((refine (placed_c hp hq _ (HP.out k hlt)).mono ?_); rintro e w' ⟨d4, rfl, rfl⟩))
        | fail)
      all_goals
        go_roundw
        case rel => exact ⟨k + 1, by omega, by go_num, Lib.hid ((C6.out.up ((GrW.refl w6).drewN _)).put hbo hlt hp hq)⟩
        case measure => simp [intOf]; omega
    · have hkn : k + 1 = n := by omega
      have hk3 : ¬ (k : Int) < ((n - 1 : Nat) : Int) := by omega
      have hk4 : ¬ k < n - 1 := by omega
      go_wp2
      go_ret2
      have r := HO.out.row
      rw [hkn] at r
      exact ⟨bo, rfl, r, HO.out.gr⟩
end Go.Proofs.Ytcfkhhnkboealaa
