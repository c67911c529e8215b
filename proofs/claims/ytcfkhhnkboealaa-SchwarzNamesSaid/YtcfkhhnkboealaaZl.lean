/- Half planes bent to polygons: a strip, and the corners of the square. -/
import Derived.Test.YtcfkhhnkboealaaZk0
import Derived.Test.YtcfkhhnkboealaaZk1
import Derived.Test.YtcfkhhnkboealaaZk2
import Derived.Test.YtcfkhhnkboealaaZk3
namespace Go.Proofs.Ytcfkhhnkboealaa
open Go.RowKit
set_option linter.unusedVariables false
set_option linter.unusedSimpArgs false
set_option maxRecDepth 100000
set_option maxHeartbeats 4000000
theorem fw3 (w : World) {a b c a' b' c' : Nat} (T : TypeId) (ra : Rep a a') (rb : Rep b b') (rc : Rep c c') : FW (w.alloc (.cells #[.float .f64 a, .float .f64 b, .float .f64 c] T)) w.heap.size 3 [a, b, c] [a', b', c'] :=
  ⟨by simp, Nat.le_refl _, by decide, rfl, fun j hj => by
    match j, hj with
    | 0, _ => exact cu_new rfl
    | 1, _ => exact cu_new rfl
    | 2, _ => exact cu_new rfl, fun j hj => by
    match j, hj with
    | 0, _ => exact ra
    | 1, _ => exact rb
    | 2, _ => exact rc⟩
theorem fw4 (w : World) {a b c d : Nat} (T : TypeId) (ra : Rep a a) (rb : Rep b b) (rc : Rep c c) (rd : Rep d d) : FW (w.alloc (.cells #[.float .f64 a, .float .f64 b, .float .f64 c, .float .f64 d] T)) w.heap.size 4 [a, b, c, d] [a, b, c, d] :=
  ⟨by simp, Nat.le_refl _, by decide, rfl, fun j hj => by
    match j, hj with
    | 0, _ => exact cu_new rfl
    | 1, _ => exact cu_new rfl
    | 2, _ => exact cu_new rfl
    | 3, _ => exact cu_new rfl, fun j hj => by
    match j, hj with
    | 0, _ => exact ra
    | 1, _ => exact rb
    | 2, _ => exact rc
    | 3, _ => exact rd⟩
theorem sO : Rep 4607182418800017408 4607182418800017408 := Rep.self (by decide) (by decide +kernel)
theorem sM : Rep 13830554455654793216 13830554455654793216 := Rep.self (by decide) (by decide +kernel)
theorem sT : Rep 4611686018427387904 4611686018427387904 := Rep.self (by decide) (by decide +kernel)
theorem sH : Rep 4602678819172646912 4602678819172646912 := Rep.self (by decide) (by decide +kernel)
theorem sQ : Rep 4598175219545276416 4598175219545276416 := Rep.self (by decide) (by decide +kernel)
theorem square19_c (w : World) : Calls Try.prog 140 #[] w (fun e w' => ∃ g h, e = .returned (.tuple #[.slice (some ⟨g, 0, none⟩) 4 4, .slice (some ⟨h, 0, none⟩) 4 4]) ∧ FW w' g 4 sqA4 sqA4 ∧ FW w' h 4 sqG4 sqG4 ∧ GrW w w') := by
  go_enter Try.func140, Try.ntmps140
  go_wp2
  have h2 := fw4 (w.alloc (.cells #[.float .f64 13830554455654793216, .float .f64 0, .float .f64 4607182418800017408, .float .f64 4611686018427387904] 25)) 25 sH sH sH sH
  rw [show (w.alloc (.cells #[.float .f64 13830554455654793216, .float .f64 0, .float .f64 4607182418800017408, .float .f64 4611686018427387904] 25)).heap.size = w.heap.size + 1 from size_alloc _ _] at h2
  go_ret2
  exact ⟨_, _, rfl, (fw4 w _ sM Rep.c0 sO sT).up ((GrW.refl _).alloc _), h2, ((GrW.refl w).alloc _).alloc _⟩
theorem stripErr_c {x y t : Nat} (w : World) {v : Int} (hv : ¬ v = 0) (hF : ∀ W, Calls Try.prog 139 #[.complex .f64 x y, .float .f64 t] W (RetI .i64 v W)) : Calls Try.prog 83 #[.complex .f64 x y, .float .f64 t] w (RetCE 0 0 v w) := by
  have HF := Lib.hid hF
  clear hF
  go_enter Try.func83, Try.ntmps83
  go_wp2_with (first | (go_at_call 139; (with_reducible refine (HF.out _).mono ?_); rintro e w' ⟨d1, rfl, rfl⟩))
  go_ret2
  exact ⟨_, rfl, rfl⟩
theorem stripNo_c {x y t : Nat} (rx : Rep x x) (ry : Rep y y) (w : World) (hF : ∀ W, Calls Try.prog 139 #[.complex .f64 x y, .float .f64 t] W (RetI .i64 0 W)) (h1 : Proofs.Ytcfkhhnkboealaa.flt y 0 = false) (h2 : feq x 0 = true) (h3 : feq y 0 = true) : Calls Try.prog 83 #[.complex .f64 x y, .float .f64 t] w (RetCE 0 0 6 w) := by
  have q1 := ry.lt' Rep.c0
  have q2 := rx.eq' Rep.c0
  have q3 := ry.eq' Rep.c0
  rw [h1] at q1
  rw [h2] at q2
  rw [h3] at q3
  have HF := Lib.hid hF
  clear hF h1 h2 h3
  go_enter Try.func83, Try.ntmps83
  go_wp2_with (first | (go_at_call 139; (with_reducible refine (HF.out _).mono ?_); rintro e w' ⟨d1, rfl, rfl⟩))
  go_ret2
  exact ⟨_, rfl, rfl⟩
theorem stripOk_c {x y t : Nat} (rx : Rep x x) (ry : Rep y y) (rt : Rep t t) (w : World) (hF : ∀ W, Calls Try.prog 139 #[.complex .f64 x y, .float .f64 t] W (RetI .i64 0 W)) (h1 : Proofs.Ytcfkhhnkboealaa.flt y 0 = false) (h2 : feq x 0 = false) {p q u a b : Nat} (e1 : clogX x (fabs y) = p) (e2 : clogY x (fabs y) = q) (e3 : fdiv t 4614256656552045848 = u) (e4 : fmul p u = a) (e5 : fmul q u = b) (n1 : isN a = false) (n2 : isN b = false) :
    Calls Try.prog 83 #[.complex .f64 x y, .float .f64 t] w (RetCE a b 0 w) := by
  have q1 := ry.lt' Rep.c0
  have q2 := rx.eq' Rep.c0
  rw [h1] at q1
  rw [h2] at q2
  have HF := Lib.hid hF
  have E := Lib.hid (And.intro e1 (And.intro e2 (And.intro e3 (And.intro e4 e5))))
  have N := Lib.hid (And.intro n1 n2)
  clear hF h1 h2 e1 e2 e3 e4 e5 n1 n2
  go_enter Try.func83, Try.ntmps83
  go_wp2_with (first | (go_at_call 139; (with_reducible refine (HF.out _).mono ?_); rintro e w' ⟨d1, rfl, rfl⟩) | (go_at_call 117; (with_reducible refine (Pi_c _).mono ?_); rintro e w' ⟨r1, r2, d2, rfl, hr1, hr2, rfl⟩) | (go_at_call 23; (with_reducible refine (abs_c ry _).mono ?_); rintro e w' ⟨ya, d3, rfl, hya, rfl⟩) | (go_at_call 57; (with_reducible refine (clog_c rx hya _).mono ?_); rintro e w' ⟨lx, ly, d4, rfl, hlx, hly, rfl⟩) | (go_at_call 48; (with_reducible refine (cscale_c hlx hly (rt.quo hr1) _).mono ?_); rintro e w' ⟨sx, sy, d5, rfl, hsx, hsy, rfl⟩; rw [E.out.1, E.out.2.2.1, E.out.2.2.2.1] at hsx; rw [E.out.2.1, E.out.2.2.1, E.out.2.2.2.2] at hsy; obtain rfl := hsx.eq_of N.out.1; obtain rfl := hsy.eq_of N.out.2))
  go_ret2
  exact ⟨_, rfl, rfl⟩
theorem backNo_c {x y t : Nat} (ry : Rep y y) (rt : Rep t t) (w : World) (hF : ∀ W, Calls Try.prog 139 #[.complex .f64 x y, .float .f64 t] W (RetI .i64 0 W)) (h1 : Proofs.Ytcfkhhnkboealaa.flt y 0 = false) (h2 : Proofs.Ytcfkhhnkboealaa.flt t y = true) : Calls Try.prog 85 #[.complex .f64 x y, .float .f64 t] w (RetCE 0 0 6 w) := by
  have q1 := ry.lt' Rep.c0
  have q2 := ry.gt' rt
  rw [h1] at q1
  rw [h2] at q2
  have HF := Lib.hid hF
  clear hF h1 h2
  go_enter Try.func85, Try.ntmps85
  go_wp2_with (first | (go_at_call 139; (with_reducible refine (HF.out _).mono ?_); rintro e w' ⟨d1, rfl, rfl⟩))
  go_ret2
  exact ⟨_, rfl, rfl⟩
theorem backOk_c {x y t : Nat} (rx : Rep x x) (ry : Rep y y) (rt : Rep t t) (w : World) (hF : ∀ W, Calls Try.prog 139 #[.complex .f64 x y, .float .f64 t] W (RetI .i64 0 W)) (h1 : Proofs.Ytcfkhhnkboealaa.flt y 0 = false) (h2 : Proofs.Ytcfkhhnkboealaa.flt t y = false) {p q u a b : Nat} (e3 : fdiv 4614256656552045848 t = u) (e4 : fmul x u = p) (e5 : fmul y u = q) (e1 : cexpX p q = a) (e2 : cexpY p q = b) (hf : (fin a && fin b) = true) :
    Calls Try.prog 85 #[.complex .f64 x y, .float .f64 t] w (RetCEG a b 0 w) := by
  have q1 := ry.lt' Rep.c0
  have q2 := ry.gt' rt
  rw [h1] at q1
  rw [h2] at q2
  have HF := Lib.hid hF
  have E := Lib.hid (And.intro e1 (And.intro e2 (And.intro e3 (And.intro e4 e5))))
  have FN := Lib.hid hf
  clear hF h1 h2 e1 e2 e3 e4 e5 hf
  go_enter Try.func85, Try.ntmps85
  go_wp2_with (first | (go_at_call 139; (with_reducible refine (HF.out _).mono ?_); rintro e w' ⟨d1, rfl, rfl⟩) | (go_at_call 117; (with_reducible refine (Pi_c _).mono ?_); rintro e w' ⟨r1, r2, d2, rfl, hr1, hr2, rfl⟩) | (go_at_call 48; (with_reducible refine (cscale_c rx ry (hr1.quo rt) _).mono ?_); rintro e w' ⟨sx, sy, d5, rfl, hsx, hsy, rfl⟩; rw [E.out.2.2.1, E.out.2.2.2.1] at hsx; rw [E.out.2.2.1, E.out.2.2.2.2] at hsy) | (go_at_call 58; (with_reducible refine (cexp_c hsx hsy _).mono ?_); rintro e w' ⟨ex, ey, rfl, hex, hey, g1⟩; rw [E.out.1] at hex; rw [E.out.2.1] at hey; have G1 := Lib.hid ((GrW.drewN _ (GrW.refl w)).trans (GrW.of g1)); have FF := FN.out; rw [Bool.and_eq_true] at FF; obtain rfl := hex.eq_of (fin_notN FF.1); obtain rfl := hey.eq_of (fin_notN FF.2); clear g1) | (go_at_call 135; (with_reducible refine (placed_c hex hey _ FN.out).mono ?_); rintro e w' ⟨d6, rfl, rfl⟩))
  go_ret2
  exact ⟨rfl, G1.out.drewN _⟩
end Go.Proofs.Ytcfkhhnkboealaa
