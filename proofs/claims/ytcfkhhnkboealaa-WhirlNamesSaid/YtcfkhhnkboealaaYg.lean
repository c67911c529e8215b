/- Whirls: circulation, centre. -/
import Derived.Test.YtcfkhhnkboealaaYf
namespace Go.Proofs.Ytcfkhhnkboealaa
open Go.RowKit
set_option linter.unusedVariables false
set_option linter.unusedSimpArgs false
set_option maxRecDepth 100000
set_option maxHeartbeats 4000000
theorem checkNil_c (w : World) : Calls Try.prog 78 #[.slice none 0 0] w (fun e w' => e = .returned (.int .i64 0) ∧ w' = w) := by
  go_enter Try.func78, Try.ntmps78
  go_wp2_with (fail)
  refine wp_loop_rounds 2 ?_
  rw [rounds_succ]
  go_wp2_with (fail)
  go_ret
  exact ⟨rfl, rfl⟩
theorem checkMany_c {v : Option Addr} {n c : Nat} (h : 4096 < n) (w : World) : Calls Try.prog 78 #[.slice v n c] w (fun e w' => e = .returned (.int .i64 4) ∧ w' = w) := by
  have h' : (4096 : Int) < (n : Int) := by omega
  go_enter Try.func78, Try.ntmps78
  go_wp2_with (fail)
  go_ret
  exact ⟨rfl, rfl⟩
theorem checkWild_c {g cap x y t : Nat} {w : World} (h : W1 w g cap x y t) (rx : Rep x x) (ry : Rep y y) (no : (within x 4787326403894837248 && within y 4787326403894837248) = false) :
    Calls Try.prog 78 #[.slice (some ⟨g, 0, none⟩) 1 cap] w (fun e w' => e = .returned (.int .i64 5) ∧ Grown w w') := by
  have h0 := h.c0
  have h1 := h.c1
  have hg := h.lt
  have hcap := h.lc
  have k40 := Rep.c40
  have hc1 : (0 : Int) < (cap : Int) := by omega
  have NO := Lib.hid no
  clear h no
  go_enter Try.func78, Try.ntmps78
  go_wp2_with (fail)
  refine wp_loop_rounds 2 ?_
  rw [rounds_succ]
  go_wp2_with (first
    | (go_at_call 125; (with_reducible refine (cwithin_c rx ry k40 _).mono ?_); rw [NO.out]; rintro e w1 ⟨n1, rfl, rfl⟩)
    | fail)
  go_ret
  exact ⟨rfl, gr_drewN _ ((Grown.refl w).alloc _ _)⟩
theorem turn2_c {g cap x y t x' y' t' T : Nat} {w : World} (h : W2 w g cap x y t x' y' t') (rx : Rep x x) (ry : Rep y y) (rt : Rep t t) (rx' : Rep x' x') (ry' : Rep y' y') (rt' : Rep t' t') (ok : whOk x y t = true) (ok' : whOk x' y' t' = true) (e : fadd t t' = T) (hn : isN T = false) :
    Calls Try.prog 69 #[.slice (some ⟨g, 0, none⟩) 2 cap] w (fun e w' => e = .returned (.tuple #[.float .f64 T, .int .i64 0]) ∧ Grown w w') := by
  have HC := Lib.hid (check2_c h rx ry rt rx' ry' rt' ok ok')
  have HH := Lib.hid h
  clear h
  go_enter Try.func69, Try.ntmps69
  go_wp2_with (first | (go_at_call 78; (with_reducible refine (HC.out).mono ?_); rintro e w' ⟨rfl, g1⟩; have G1 := Lib.hid g1; have H1 := Lib.hid (HH.out.up (GrW.of g1)); clear g1) | (go_at_call 126; (with_reducible refine (total2_c H1.out rt rt' e hn).mono ?_); rintro e w' ⟨rfl, g2⟩; have G2 := Lib.hid g2; clear g2))
  go_ret2
  exact ⟨rfl, gr_trans G1.out G2.out⟩
theorem turnWild_c {g cap x y t : Nat} {w : World} (h : W1 w g cap x y t) (rx : Rep x x) (ry : Rep y y) (no : (within x 4787326403894837248 && within y 4787326403894837248) = false) :
    Calls Try.prog 69 #[.slice (some ⟨g, 0, none⟩) 1 cap] w (fun e w' => e = .returned (.tuple #[.float .f64 0, .int .i64 5]) ∧ Grown w w') := by
  have HC := Lib.hid (checkWild_c h rx ry no)
  clear h
  go_enter Try.func69, Try.ntmps69
  go_wp2_with (first | (go_at_call 78; (with_reducible refine (HC.out).mono ?_); rintro e w' ⟨rfl, g1⟩; have G1 := Lib.hid g1; clear g1))
  go_ret2
  exact ⟨rfl, G1.out⟩
theorem totalNil_c (w : World) : Calls Try.prog 126 #[.slice none 0 0] w (fun e w' => e = .returned (.float .f64 0) ∧ Grown w w') := by
  have hmk := mk_flt0
  go_enter Try.func126, Try.ntmps126
  go_wp2_with (fail)
  refine wp_loop_rounds 2 ?_
  rw [rounds_succ]
  go_wp2_with (first
    | (go_at_call 12; (with_reducible refine (sum_nil _ _ _).mono ?_); rintro e w' ⟨r, n, rfl, hr, rfl⟩; obtain rfl := hr.eq_of (by decide +kernel))
    | fail)
  go_ret
  refine ⟨rfl, ?_⟩
  repeat (first | with_reducible exact Grown.refl _ | with_reducible apply gr_drewN | with_reducible apply Grown.alloc)
theorem turnNil_c (w : World) : Calls Try.prog 69 #[.slice none 0 0] w (fun e w' => e = .returned (.tuple #[.float .f64 0, .int .i64 0]) ∧ Grown w w') := by
  go_enter Try.func69, Try.ntmps69
  go_wp2_with (first | (go_at_call 78; (with_reducible refine (checkNil_c _).mono ?_); rintro e w' ⟨rfl, rfl⟩) | (go_at_call 126; (with_reducible refine (totalNil_c _).mono ?_); rintro e w' ⟨rfl, g2⟩; have G2 := Lib.hid g2; clear g2))
  go_ret2
  exact ⟨rfl, G2.out⟩
theorem psum2_c {g a b c d p q : Nat} {w : World} (hg : g < w.heap.size) (h0 : w.cell? ⟨g, 0, none⟩ = some (.complex .f64 a b)) (h1 : w.cell? ⟨g, 1, none⟩ = some (.complex .f64 c d)) (ra : Rep a a) (rb : Rep b b) (rc : Rep c c) (rd : Rep d d) (e1 : fadd a c = p) (e2 : fadd b d = q) (n1 : isN p = false) (n2 : isN q = false) :
    Calls Try.prog 127 #[.slice (some ⟨g, 0, none⟩) 2 2] w (fun e w' => e = .returned (.complex .f64 p q) ∧ w' = w) := by
  go_enter Try.func127, Try.ntmps127
  go_wp2_with (fail)
  refine wp_loop_rounds 4 ?_
  repeat (rw [rounds_succ]; go_wp2_with (first
    | (go_at_call 124; (with_reducible refine (caddS_c ra rb rc rd _ (by rw [e1]; exact n1) (by rw [e2]; exact n2)).mono ?_); rintro e w1 ⟨rfl, hw1⟩; obtain rfl : w = w1 := hw1.symm)
    | fail))
  go_ret
  exact ⟨by first | rfl | simp, rfl⟩
theorem centre2z_c {g cap x y t x' y' t' T : Nat} {w : World} (h : W2 w g cap x y t x' y' t') (rx : Rep x x) (ry : Rep y y) (rt : Rep t t) (rx' : Rep x' x') (ry' : Rep y' y') (rt' : Rep t' t') (ok : whOk x y t = true) (ok' : whOk x' y' t' = true) (e : fadd t t' = T) (hn : isN T = false) (rT : Rep T T) (hz : feq T 0 = true) :
    Calls Try.prog 70 #[.slice (some ⟨g, 0, none⟩) 2 cap] w (fun e w' => e = .returned (.tuple #[.complex .f64 0 0, .bool false, .int .i64 0]) ∧ Grown w w') := by
  have HC := Lib.hid (check2_c h rx ry rt rx' ry' rt' ok ok')
  have HH := Lib.hid h
  have q := rT.eq' Rep.c0
  rw [hz] at q
  clear h
  go_enter Try.func70, Try.ntmps70
  go_wp2_with (first | (go_at_call 78; (with_reducible refine (HC.out).mono ?_); rintro e w' ⟨rfl, g1⟩; have G1 := Lib.hid g1; have H1 := Lib.hid (HH.out.up (GrW.of g1)); clear g1) | (go_at_call 126; (with_reducible refine (total2_c H1.out rt rt' e hn).mono ?_); rintro e w' ⟨rfl, g2⟩; have G2 := Lib.hid g2; clear g2))
  go_ret3
  exact ⟨rfl, gr_trans G1.out G2.out⟩
end Go.Proofs.Ytcfkhhnkboealaa
