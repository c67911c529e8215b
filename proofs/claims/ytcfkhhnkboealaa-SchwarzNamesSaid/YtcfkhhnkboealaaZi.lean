/- Half planes bent to polygons: strips, and what may not be. -/
import Derived.Test.YtcfkhhnkboealaaZh
namespace Go.Proofs.Ytcfkhhnkboealaa
open Go.RowKit
set_option linter.unusedVariables false
set_option linter.unusedSimpArgs false
set_option maxRecDepth 100000
set_option maxHeartbeats 4000000
@[go_sem] theorem idxP_0 (W : World) (a b c d : Nat) : (Instr.index 147 (.agg #[.complex .f64 a b, .complex .f64 c d]) (.int .i64 0)).run Try.prog W = .ok (.complex .f64 a b) W := by kernel_rfl
@[go_sem] theorem idxP_1 (W : World) (a b c d : Nat) : (Instr.index 147 (.agg #[.complex .f64 a b, .complex .f64 c d]) (.int .i64 1)).run Try.prog W = .ok (.complex .f64 c d) W := by kernel_rfl
/-- a number and an error, after draws alone. -/
def RetCE (a b : Nat) (v : Int) (w : World) (e : Ending) (w' : World) : Prop := ∃ n, e = .returned (.tuple #[.complex .f64 a b, .int .i64 v]) ∧ w' = w.drewN n
def RetCEG (a b : Nat) (v : Int) (w : World) (e : Ending) (w' : World) : Prop := e = .returned (.tuple #[.complex .f64 a b, .int .i64 v]) ∧ GrW w w'
theorem RetCE.g {a b : Nat} {v : Int} {w : World} {e : Ending} {w' : World} (h : RetCE a b v w e w') : RetCEG a b v w e w' := by
  obtain ⟨n, h1, rfl⟩ := h
  exact ⟨h1, (GrW.refl w).drewN n⟩
section
variable {w : World} {b cap n b2 c2 x y : Nat} {xs fs ys gs : List Nat}
theorem slopeErr_c {v : Int} (hv : ¬ v = 0) (hC : Calls Try.prog 79 #[.slice (some ⟨b, 0, none⟩) n cap, .slice (some ⟨b2, 0, none⟩) n c2] w (RetI .i64 0 w)) (hU : ∀ W, Calls Try.prog 134 #[.complex .f64 x y] W (RetI .i64 v W)) :
    Calls Try.prog 80 #[.slice (some ⟨b, 0, none⟩) n cap, .slice (some ⟨b2, 0, none⟩) n c2, .complex .f64 x y] w (RetCE 0 0 v w) := by
  have HC := Lib.hid hC
  have HU := Lib.hid hU
  clear hC hU
  go_enter Try.func80, Try.ntmps80
  go_wp2_with (first | (go_at_call 79; (with_reducible refine (HC.out).mono ?_); rintro e w' ⟨d1, rfl, rfl⟩) | (go_at_call 134; (with_reducible refine (HU.out _).mono ?_); rintro e w' ⟨d2, rfl, rfl⟩))
  go_ret2
  exact ⟨_, rfl, rfl⟩
theorem slopeBad_c (h : FW w b cap xs fs) (hn : xs.length = n) (k : FW w b2 c2 ys gs) (kn : ys.length = n) (h1 : 3 ≤ n) (hC : Calls Try.prog 79 #[.slice (some ⟨b, 0, none⟩) n cap, .slice (some ⟨b2, 0, none⟩) n c2] w (RetI .i64 0 w)) (hU : ∀ W, Calls Try.prog 134 #[.complex .f64 x y] W (RetI .i64 0 W))
    (rx : Rep x x) (ry : Rep y y) (num : numP fs gs x = true) (hf : (fin (slopeP fs gs x (fabs y) (n - 1)).1 && fin (slopeP fs gs x (fabs y) (n - 1)).2) = false) :
    Calls Try.prog 80 #[.slice (some ⟨b, 0, none⟩) n cap, .slice (some ⟨b2, 0, none⟩) n c2, .complex .f64 x y] w (RetCEG 0 0 6 w) := by
  have HC := Lib.hid hC
  have HU := Lib.hid hU
  have H := Lib.hid h
  have K := Lib.hid k
  have HF := Lib.hid hf
  have NUM := Lib.hid num
  clear hC hU h k hf num
  go_enter Try.func80, Try.ntmps80
  go_wp2_with (first | (go_at_call 79; (with_reducible refine (HC.out).mono ?_); rintro e w' ⟨d1, rfl, rfl⟩) | (go_at_call 134; (with_reducible refine (HU.out _).mono ?_); rintro e w' ⟨d2, rfl, rfl⟩) | (go_at_call 136; (with_reducible refine (slope_c (H.out.up ((GrW.refl w).drewN _)) hn (K.out.up ((GrW.refl w).drewN _)) kn h1 rx ry NUM.out).mono ?_); rintro e w' ⟨p, q, rfl, hp, hq, g1⟩; have G1 := Lib.hid ((GrW.drewN _ (GrW.refl w)).trans (GrW.of g1)); clear g1) | (go_at_call 135; (with_reducible refine (placedNo_c hp hq _ HF.out).mono ?_); rintro e w' ⟨d3, rfl, rfl⟩))
  go_ret2
  exact ⟨rfl, G1.out.drewN _⟩
theorem cornersArg_c {m : Int} (h : 16384 < m) (hC : Calls Try.prog 79 #[.slice (some ⟨b, 0, none⟩) n cap, .slice (some ⟨b2, 0, none⟩) n c2] w (RetI .i64 0 w)) :
    Calls Try.prog 82 #[.slice (some ⟨b, 0, none⟩) n cap, .slice (some ⟨b2, 0, none⟩) n c2, .int .i64 m] w (fun e w' => ∃ d, e = .returned (.tuple #[.slice none 0 0, .int .i64 2]) ∧ w' = w.drewN d) := by
  have HC := Lib.hid hC
  clear hC
  go_enter Try.func82, Try.ntmps82
  go_wp2_with (first | (go_at_call 79; (with_reducible refine (HC.out).mono ?_); rintro e w' ⟨d1, rfl, rfl⟩) | (go_at_call 137; (with_reducible refine (countHigh_c h _).mono ?_); rintro e w' ⟨d2, rfl, rfl⟩))
  go_ret2
  exact ⟨_, rfl, rfl⟩
theorem betweenArg_c {m : Int} (h : m < 1) (hC : Calls Try.prog 79 #[.slice (some ⟨b, 0, none⟩) n cap, .slice (some ⟨b2, 0, none⟩) n c2] w (RetI .i64 0 w)) (hU : ∀ W, Calls Try.prog 134 #[.complex .f64 x y] W (RetI .i64 0 W)) :
    Calls Try.prog 81 #[.slice (some ⟨b, 0, none⟩) n cap, .slice (some ⟨b2, 0, none⟩) n c2, .complex .f64 x y, .complex .f64 x y, .int .i64 m] w (RetCE 0 0 2 w) := by
  have HC := Lib.hid hC
  have HU := Lib.hid hU
  clear hC hU
  go_enter Try.func81, Try.ntmps81
  go_wp2_with (first | (go_at_call 79; (with_reducible refine (HC.out).mono ?_); rintro e w' ⟨d1, rfl, rfl⟩))
  refine wp_loop_rounds 4 ?_
  repeat (rw [rounds_succ]; go_wp2_with (first
    | (go_at_call 134; (with_reducible refine (HU.out _).mono ?_); rintro e w' ⟨d2, rfl, rfl⟩)
    | (go_at_call 137; (with_reducible refine (countLow_c h _).mono ?_); rintro e w' ⟨d3, rfl, rfl⟩)
    | fail))
  go_ret2
  exact ⟨_, rfl, rfl⟩
theorem betweenAll_c {m A B : Nat} (m1 : 1 ≤ m) (m2 : m ≤ 16384) (hC : Calls Try.prog 79 #[.slice (some ⟨b, 0, none⟩) n cap, .slice (some ⟨b2, 0, none⟩) n c2] w (RetI .i64 0 w)) (hU : ∀ W, Calls Try.prog 134 #[.complex .f64 x y] W (RetI .i64 0 W))
    (hB : ∀ W, GrW w W → Calls Try.prog 138 #[.slice (some ⟨b, 0, none⟩) n cap, .slice (some ⟨b2, 0, none⟩) n c2, .complex .f64 x y, .complex .f64 x y, .int .i64 m] W (fun e w' => e = .returned (.tuple #[.complex .f64 A B, .int .i64 0]) ∧ GrW W w')) :
    Calls Try.prog 81 #[.slice (some ⟨b, 0, none⟩) n cap, .slice (some ⟨b2, 0, none⟩) n c2, .complex .f64 x y, .complex .f64 x y, .int .i64 m] w (RetCEG A B 0 w) := by
  have HC := Lib.hid hC
  have HU := Lib.hid hU
  have HB := Lib.hid hB
  have h6 : (m : Int) ≤ 16384 := by omega
  have h7 : (1 : Int) ≤ m := by omega
  clear hC hU hB
  go_enter Try.func81, Try.ntmps81
  go_wp2_with (first | (go_at_call 79; (with_reducible refine (HC.out).mono ?_); rintro e w' ⟨d1, rfl, rfl⟩))
  refine wp_loop_rounds 4 ?_
  repeat (rw [rounds_succ]; go_wp2_with (first
    | (go_at_call 134; (with_reducible refine (HU.out _).mono ?_); rintro e w' ⟨d2, rfl, rfl⟩)
    | (go_at_call 137; (with_reducible refine (countYes_c h7 h6 _).mono ?_); rintro e w' ⟨d3, rfl, rfl⟩)
    | (go_at_call 138; go_loud (refine (HB.out _ ((GrW.refl w).drewN _)).mono ?_; rintro e w6 ⟨rfl, g6⟩; have G6 := Lib.hid (((GrW.refl w).drewN _).trans g6); clear g6))
    | fail))
  go_ret2
  exact ⟨rfl, G6.out⟩
end
theorem fitOk_c {x y t f g h : Nat} (hx : Rep x f) (hy : Rep y g) (ht : Rep t h) (w : World) (h1 : (within f 4787326403894837248 && within g 4787326403894837248) = true) (h2 : fle 4427038433705197568 h = true) (h3 : fle h 4787326403894837248 = true) : Calls Try.prog 139 #[.complex .f64 x y, .float .f64 t] w (RetI .i64 0 w) := by
  have c40 : Rep 4427038433705197568 4427038433705197568 := Rep.self (by decide) (by decide +kernel)
  have k40 : Rep 4787326403894837248 4787326403894837248 := Rep.c40
  have q1 := ht.ge' c40
  have q2 := ht.le' k40
  rw [h2] at q1
  rw [h3] at q2
  have H1 := Lib.hid h1
  clear h1 h2 h3
  go_enter Try.func139, Try.ntmps139
  go_wp2_with (first | (go_at_call 125; (with_reducible refine (cwithin_c hx hy k40 _).mono ?_); rw [H1.out]; rintro e w' ⟨n1, rfl, rfl⟩))
  go_ret
  exact RetI.mk _ rfl
theorem fitBad_c {x y t f g h : Nat} (hx : Rep x f) (hy : Rep y g) (ht : Rep t h) (w : World) (h1 : (within f 4787326403894837248 && within g 4787326403894837248) = true) (h2 : fle 4427038433705197568 h = false) : Calls Try.prog 139 #[.complex .f64 x y, .float .f64 t] w (RetI .i64 5 w) := by
  have c40 : Rep 4427038433705197568 4427038433705197568 := Rep.self (by decide) (by decide +kernel)
  have k40 : Rep 4787326403894837248 4787326403894837248 := Rep.c40
  have q1 := ht.ge' c40
  rw [h2] at q1
  have H1 := Lib.hid h1
  clear h1 h2
  go_enter Try.func139, Try.ntmps139
  go_wp2_with (first | (go_at_call 125; (with_reducible refine (cwithin_c hx hy k40 _).mono ?_); rw [H1.out]; rintro e w' ⟨n1, rfl, rfl⟩))
  go_ret
  exact RetI.mk _ rfl
end Go.Proofs.Ytcfkhhnkboealaa
