/- Logarithms on any sheet; what the laws of roots ask of examples. -/
import Derived.Test.YtndknkdfbjfjcaaDoorCxR3
import Derived.Test.YtndknkdfbjfjcaaDoorLaid
namespace Go.Proofs.YtndknkdfbjfjcaaDoor
open Go.RowKit
set_option linter.unusedVariables false
set_option linter.unusedSimpArgs false
set_option maxRecDepth 100000
set_option maxHeartbeats 4000000
theorem tabs {w w' : World} (G : Grown w w') (hT : TabAt w) (ht : 1 < w.heap.size) : TabAt w' ∧ 1 < w'.heap.size := ⟨gr_tab G hT ht, Nat.lt_of_lt_of_le ht G.2.2⟩
def sheetB (f g : Nat) (n : Int) : Bool := fin (clogX f g) && fin (clogY f g) && (decide (-1048576 ≤ n) && decide (n ≤ 1048576))
def sheetY (f g : Nat) (n : Int) : Nat := fadd (clogY f g) (fmul (ofInt n) (fmul 4611686018427387904 4614256656552045848))
section
variable {x y z t f g h k : Nat} (hx : Rep x f) (hy : Rep y g) (w : World)
include hx hy
theorem psheet_yes (n : Int) (h1 : (fin (clogX f g) && fin (clogY f g)) = true) (h2 : -1048576 ≤ n) (h3 : n ≤ 1048576) : Calls Tryd.prog 42 #[.complex .f64 x y, .int .i64 n] w (RetCB (clogX f g) (sheetY f g n) true w) := by
  have H1 := Lib.hid h1
  have HY := Lib.hid (sheetY.eq_1 f g n)
  clear h1
  go_enter Tryd.func42, Tryd.ntmps42
  go_wp2_with (first | (go_at_call 87; (with_reducible refine (clog_c hx hy _).mono ?_); rintro e w' ⟨r, s, n1, rfl, hr, hs, rfl⟩) | (go_at_call 88; (with_reducible refine (cfinite_c hr hs _).mono ?_); rw [H1.out]; rintro e w' ⟨n2, rfl, rfl⟩) | (go_at_call 89; (with_reducible refine (Pi_c _).mono ?_); rintro e w' ⟨p1, p2, n3, rfl, hp1, hp2, rfl⟩))
  go_ret2
  exact RetCB.mk _ hr (by rw [HY.out]; exact hs.add ((ofInt_rep n).mul (Rep.two.mul hp1))) rfl
theorem psheet_no (n : Int) (h1 : (fin (clogX f g) && fin (clogY f g)) = false) : Calls Tryd.prog 42 #[.complex .f64 x y, .int .i64 n] w (RetCB 0 0 false w) := by
  have H1 := Lib.hid h1
  clear h1
  go_enter Tryd.func42, Tryd.ntmps42
  go_wp2_with (first | (go_at_call 87; (with_reducible refine (clog_c hx hy _).mono ?_); rintro e w' ⟨r, s, n1, rfl, hr, hs, rfl⟩) | (go_at_call 88; (with_reducible refine (cfinite_c hr hs _).mono ?_); rw [H1.out]; rintro e w' ⟨n2, rfl, rfl⟩))
  go_ret2
  exact RetCB.mk _ Rep.c0 Rep.c0 rfl
theorem psheet_far (n : Int) (h1 : (fin (clogX f g) && fin (clogY f g)) = true) (h2 : n < -1048576 ∨ 1048576 < n) : Calls Tryd.prog 42 #[.complex .f64 x y, .int .i64 n] w (RetCB 0 0 false w) := by
  have H1 := Lib.hid h1
  clear h1
  rcases h2 with h2 | h2
  all_goals
    go_enter Tryd.func42, Tryd.ntmps42
    go_wp2_with (first | (go_at_call 87; (with_reducible refine (clog_c hx hy _).mono ?_); rintro e w' ⟨r, s, n1, rfl, hr, hs, rfl⟩) | (go_at_call 88; (with_reducible refine (cfinite_c hr hs _).mono ?_); rw [H1.out]; rintro e w' ⟨n2, rfl, rfl⟩))
    go_ret2
    exact RetCB.mk _ Rep.c0 Rep.c0 rfl
theorem psheet_c (n : Int) : Calls Tryd.prog 42 #[.complex .f64 x y, .int .i64 n] w (RetCB (if sheetB f g n then clogX f g else 0) (if sheetB f g n then sheetY f g n else 0) (sheetB f g n) w) := by
  have e : sheetB f g n = (fin (clogX f g) && fin (clogY f g) && (decide (-1048576 ≤ n) && decide (n ≤ 1048576))) := rfl
  cases h1 : fin (clogX f g) && fin (clogY f g)
  · rw [e, h1]; exact psheet_no hx hy w n h1
  · by_cases h2 : -1048576 ≤ n
    · by_cases h3 : n ≤ 1048576
      · rw [e, h1, decide_eq_true h2, decide_eq_true h3]; exact psheet_yes hx hy w n h1 h2 h3
      · rw [e, h1, decide_eq_true h2, decide_eq_false h3]; exact psheet_far hx hy w n h1 (.inr (by omega))
    · rw [e, h1, decide_eq_false h2]; exact psheet_far hx hy w n h1 (.inl (by omega))
theorem rsheet_yes (n : Int) (h1 : (fin (clogX f g) && fin (clogY f g)) = true) (h2 : -1048576 ≤ n) (h3 : n ≤ 1048576) (hT : TabAt w) (htab : 1 < w.heap.size) : Calls Tryd.prog 43 #[.complex .f64 x y, .int .i64 n] w (RetCBG (clogX f g) (sheetY f g n) true w) := by
  have H1 := Lib.hid h1
  have HY := Lib.hid (sheetY.eq_1 f g n)
  have HT := Lib.hid hT
  clear h1 hT
  go_enter Tryd.func43, Tryd.ntmps43
  go_wp2_with (first | (go_at_call 90; (with_reducible refine (refClog_c hx hy _ HT.out htab).mono ?_); rintro e w' ⟨r, s, rfl, hr, hs, hg⟩; have HG := Lib.hid hg; clear hg) | (go_at_call 91; (with_reducible refine (refCFin_c hr hs _).mono ?_); rw [H1.out]; rintro e w' ⟨n2, rfl, rfl⟩) | (go_at_call 92; (with_reducible refine (High_c _).mono ?_); rintro e w' ⟨p1, n3, rfl, hp1, rfl⟩) | (go_at_call 84; (with_reducible refine (refMk_c hr (hs.add ((ofInt_rep n).mul (Rep.two.mul hp1))) _).mono ?_); rintro e w' ⟨r4, r5, n4, rfl, hr4, hr5, rfl⟩))
  go_ret2
  exact ⟨_, _, rfl, hr4, by rw [HY.out]; exact hr5, gr_drewN _ HG.out⟩
theorem rsheet_no (n : Int) (h1 : (fin (clogX f g) && fin (clogY f g)) = false) (hT : TabAt w) (htab : 1 < w.heap.size) : Calls Tryd.prog 43 #[.complex .f64 x y, .int .i64 n] w (RetCBG 0 0 false w) := by
  have H1 := Lib.hid h1
  have HT := Lib.hid hT
  clear h1 hT
  go_enter Tryd.func43, Tryd.ntmps43
  go_wp2_with (first | (go_at_call 90; (with_reducible refine (refClog_c hx hy _ HT.out htab).mono ?_); rintro e w' ⟨r, s, rfl, hr, hs, hg⟩; have HG := Lib.hid hg; clear hg) | (go_at_call 91; (with_reducible refine (refCFin_c hr hs _).mono ?_); rw [H1.out]; rintro e w' ⟨n2, rfl, rfl⟩))
  go_ret2
  exact ⟨_, _, rfl, Rep.c0, Rep.c0, gr_drewN _ HG.out⟩
theorem rsheet_far (n : Int) (h1 : (fin (clogX f g) && fin (clogY f g)) = true) (h2 : n < -1048576 ∨ 1048576 < n) (hT : TabAt w) (htab : 1 < w.heap.size) : Calls Tryd.prog 43 #[.complex .f64 x y, .int .i64 n] w (RetCBG 0 0 false w) := by
  have H1 := Lib.hid h1
  have HT := Lib.hid hT
  clear h1 hT
  rcases h2 with h2 | h2
  all_goals
    go_enter Tryd.func43, Tryd.ntmps43
    go_wp2_with (first | (go_at_call 90; (with_reducible refine (refClog_c hx hy _ HT.out htab).mono ?_); rintro e w' ⟨r, s, rfl, hr, hs, hg⟩; have HG := Lib.hid hg; clear hg) | (go_at_call 91; (with_reducible refine (refCFin_c hr hs _).mono ?_); rw [H1.out]; rintro e w' ⟨n2, rfl, rfl⟩))
    go_ret2
    exact ⟨_, _, rfl, Rep.c0, Rep.c0, gr_drewN _ HG.out⟩
theorem rsheet_c (n : Int) (hT : TabAt w) (htab : 1 < w.heap.size) : Calls Tryd.prog 43 #[.complex .f64 x y, .int .i64 n] w (RetCBG (if sheetB f g n then clogX f g else 0) (if sheetB f g n then sheetY f g n else 0) (sheetB f g n) w) := by
  have e : sheetB f g n = (fin (clogX f g) && fin (clogY f g) && (decide (-1048576 ≤ n) && decide (n ≤ 1048576))) := rfl
  cases h1 : fin (clogX f g) && fin (clogY f g)
  · rw [e, h1]; exact rsheet_no hx hy w n h1 hT htab
  · by_cases h2 : -1048576 ≤ n
    · by_cases h3 : n ≤ 1048576
      · rw [e, h1, decide_eq_true h2, decide_eq_true h3]; exact rsheet_yes hx hy w n h1 h2 h3 hT htab
      · rw [e, h1, decide_eq_true h2, decide_eq_false h3]; exact rsheet_far hx hy w n h1 (.inr (by omega)) hT htab
    · rw [e, h1, decide_eq_false h2]; exact rsheet_far hx hy w n h1 (.inl (by omega)) hT htab
end
end Go.Proofs.YtndknkdfbjfjcaaDoor
