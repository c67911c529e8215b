/- Whirls: may they be, and the step; their ways. -/
import Derived.Test.YtcfkhhnkboealaaYc
namespace Go.Proofs.Ytcfkhhnkboealaa
open Go.RowKit
set_option linter.unusedVariables false
set_option linter.unusedSimpArgs false
set_option maxRecDepth 100000
set_option maxHeartbeats 4000000
theorem GrW.frozen {w w' : World} (h : GrW w w') {a : Addr} (ha : a.block < w.heap.size) : w'.frozen? a = w.frozen? a := by
  unfold World.frozen?
  rw [h.block a.block ha]
theorem frozen_new {w w' : World} (h : Grown w w') {g i : Nat} (hg : w.heap.size ≤ g) : w'.frozen? ⟨g, i, none⟩ = false := by
  rw [h.2.1]
  unfold World.frozen?
  rw [Array.getElem?_eq_none hg]
/-- a list of one whirl, of two. -/
structure W1 (w : World) (g cap x y t : Nat) : Prop where
  lt : g < w.heap.size
  lc : 1 ≤ cap
  top : cap ≤ 9223372036854775807
  c0 : w.cell? ⟨g, 0, none⟩ = some (.complex .f64 x y)
  c1 : w.cell? ⟨g, 1, none⟩ = some (.float .f64 t)
structure W2 (w : World) (g cap x y t x' y' t' : Nat) : Prop where
  lt : g < w.heap.size
  lc : 2 ≤ cap
  top : cap ≤ 9223372036854775807
  c0 : w.cell? ⟨g, 0, none⟩ = some (.complex .f64 x y)
  c1 : w.cell? ⟨g, 1, none⟩ = some (.float .f64 t)
  c2 : w.cell? ⟨g, 2, none⟩ = some (.complex .f64 x' y')
  c3 : w.cell? ⟨g, 3, none⟩ = some (.float .f64 t')
theorem W1.up {w w' : World} {g cap x y t : Nat} (h : W1 w g cap x y t) (k : GrW w w') : W1 w' g cap x y t :=
  ⟨Nat.lt_of_lt_of_le h.lt k.size, h.lc, h.top, (k.cell (a := ⟨g, 0, none⟩) h.lt).trans h.c0, (k.cell (a := ⟨g, 1, none⟩) h.lt).trans h.c1⟩
theorem W2.up {w w' : World} {g cap x y t x' y' t' : Nat} (h : W2 w g cap x y t x' y' t') (k : GrW w w') : W2 w' g cap x y t x' y' t' :=
  ⟨Nat.lt_of_lt_of_le h.lt k.size, h.lc, h.top, (k.cell (a := ⟨g, 0, none⟩) h.lt).trans h.c0, (k.cell (a := ⟨g, 1, none⟩) h.lt).trans h.c1, (k.cell (a := ⟨g, 2, none⟩) h.lt).trans h.c2, (k.cell (a := ⟨g, 3, none⟩) h.lt).trans h.c3⟩
theorem check1_c {g cap x y t : Nat} {w : World} (h : W1 w g cap x y t) (rx : Rep x x) (ry : Rep y y) (rt : Rep t t) (ok : whOk x y t = true) :
    Calls Try.prog 78 #[.slice (some ⟨g, 0, none⟩) 1 cap] w (fun e w' => e = .returned (.int .i64 0) ∧ Grown w w') :=
  checkOk_c g 1 cap (fun _ => x) (fun _ => y) (fun _ => t) w h.lc h.top (by decide) h.lt
    (fun k hk => by
      obtain rfl : k = 0 := by omega
      exact ⟨h.c0, h.c1⟩) (fun k hk => ⟨rx, ry, rt⟩) (fun k hk => ok)
theorem check2_c {g cap x y t x' y' t' : Nat} {w : World} (h : W2 w g cap x y t x' y' t') (rx : Rep x x) (ry : Rep y y) (rt : Rep t t) (rx' : Rep x' x') (ry' : Rep y' y') (rt' : Rep t' t') (ok : whOk x y t = true) (ok' : whOk x' y' t' = true) :
    Calls Try.prog 78 #[.slice (some ⟨g, 0, none⟩) 2 cap] w (fun e w' => e = .returned (.int .i64 0) ∧ Grown w w') :=
  checkOk_c g 2 cap (fun k => if k = 0 then x else x') (fun k => if k = 0 then y else y') (fun k => if k = 0 then t else t') w h.lc h.top (by decide) h.lt
    (fun k hk => by
      rcases (show k = 0 ∨ k = 1 by omega) with rfl | rfl
      · exact ⟨h.c0, h.c1⟩
      · exact ⟨h.c2, h.c3⟩)
    (fun k hk => by
      rcases (show k = 0 ∨ k = 1 by omega) with rfl | rfl
      · exact ⟨rx, ry, rt⟩
      · exact ⟨rx', ry', rt'⟩)
    (fun k hk => by
      rcases (show k = 0 ∨ k = 1 by omega) with rfl | rfl
      · exact ok
      · exact ok')
def stpOk (s : Nat) : Bool := within s 4787326403894837248 && !flt (fabs s) 4427038433705197568
theorem stepped_c {s n cap g : Nat} {w : World} (hC : Calls Try.prog 78 #[.slice (some ⟨g, 0, none⟩) n cap] w (fun e w' => e = .returned (.int .i64 0) ∧ Grown w w')) (rs : Rep s s) (hs : stpOk s = true) :
    Calls Try.prog 122 #[.slice (some ⟨g, 0, none⟩) n cap, .float .f64 s] w (fun e w' => e = .returned (.int .i64 0) ∧ Grown w w') := by
  unfold stpOk at hs
  simp only [Bool.and_eq_true, Bool.not_eq_true'] at hs
  have H1 := Lib.hid hs.1
  have H2 := Lib.hid hs.2
  have cm : Rep 4427038433705197568 4427038433705197568 := Rep.self (by decide) (by decide +kernel)
  have HC := Lib.hid hC
  have k40 := Rep.c40
  clear hs hC
  go_enter Try.func122, Try.ntmps122
  go_wp2_with (first | (go_at_call 78; (with_reducible refine (HC.out).mono ?_); rintro e w' ⟨rfl, g1⟩; have G1 := Lib.hid g1; clear g1) | (go_at_call 132; (with_reducible refine (within_c rs k40 _).mono ?_); rw [H1.out]; rintro e w' ⟨n1, rfl, rfl⟩) | (go_at_call 23; (with_reducible refine (abs_c rs _).mono ?_); rintro e w' ⟨r, n, rfl, hr, rfl⟩; have q := hr.lt' cm; rw [H2.out] at q))
  go_ret
  exact ⟨rfl, gr_drewN _ G1.out⟩
theorem steppedNo_c {s n cap g : Nat} {w : World} (hC : Calls Try.prog 78 #[.slice (some ⟨g, 0, none⟩) n cap] w (fun e w' => e = .returned (.int .i64 0) ∧ Grown w w')) {f : Nat} (rs : Rep s f) (hs : stpOk f = false) :
    Calls Try.prog 122 #[.slice (some ⟨g, 0, none⟩) n cap, .float .f64 s] w (fun e w' => e = .returned (.int .i64 5) ∧ Grown w w') := by
  unfold stpOk at hs
  have cm : Rep 4427038433705197568 4427038433705197568 := Rep.self (by decide) (by decide +kernel)
  have HC := Lib.hid hC
  have k40 := Rep.c40
  cases h1 : within f 4787326403894837248
  · have H1 := Lib.hid h1
    clear hs hC h1
    go_enter Try.func122, Try.ntmps122
    go_wp2_with (first | (go_at_call 78; (with_reducible refine (HC.out).mono ?_); rintro e w' ⟨rfl, g1⟩; have G1 := Lib.hid g1; clear g1) | (go_at_call 132; (with_reducible refine (within_c rs k40 _).mono ?_); rw [H1.out]; rintro e w' ⟨n1, rfl, rfl⟩))
    go_ret
    exact ⟨rfl, gr_drewN _ G1.out⟩
  · rw [h1] at hs
    have h2 : Proofs.Ytcfkhhnkboealaa.flt (fabs f) 4427038433705197568 = true := by simpa using hs
    have H1 := Lib.hid h1
    have H2 := Lib.hid h2
    clear hs hC h1 h2
    go_enter Try.func122, Try.ntmps122
    go_wp2_with (first | (go_at_call 78; (with_reducible refine (HC.out).mono ?_); rintro e w' ⟨rfl, g1⟩; have G1 := Lib.hid g1; clear g1) | (go_at_call 132; (with_reducible refine (within_c rs k40 _).mono ?_); rw [H1.out]; rintro e w' ⟨n1, rfl, rfl⟩) | (go_at_call 23; (with_reducible refine (abs_c rs _).mono ?_); rintro e w' ⟨r, n, rfl, hr, rfl⟩; have q := hr.lt' cm; rw [H2.out] at q))
    go_ret
    exact ⟨rfl, gr_drewN _ G1.out⟩
/-- the answer of the ways: a list of numbers of its own. -/
def RetW1 (a b : Nat) (w : World) (e : Ending) (w' : World) : Prop := ∃ g', e = .returned (.tuple #[.slice (some ⟨g', 0, none⟩) 1 1, .int .i64 0]) ∧ w'.cell? ⟨g', 0, none⟩ = some (.complex .f64 a b) ∧ w.heap.size ≤ g' ∧ g' < w'.heap.size ∧ Grown w w'
def RetW2 (a b c d : Nat) (w : World) (e : Ending) (w' : World) : Prop := ∃ g', e = .returned (.tuple #[.slice (some ⟨g', 0, none⟩) 2 2, .int .i64 0]) ∧ w'.cell? ⟨g', 0, none⟩ = some (.complex .f64 a b) ∧ w'.cell? ⟨g', 1, none⟩ = some (.complex .f64 c d) ∧ w.heap.size ≤ g' ∧ g' < w'.heap.size ∧ Grown w w'
theorem Ways1_c {g cap x y t : Nat} {w : World} (h : W1 w g cap x y t) (rx : Rep x x) (ry : Rep y y) (rt : Rep t t) (ok : whOk x y t = true) :
    Calls Try.prog 64 #[.slice (some ⟨g, 0, none⟩) 1 cap] w (RetW1 0 0 w) := by
  have HC := Lib.hid (check1_c h rx ry rt ok)
  have HH := Lib.hid h
  clear h
  go_enter Try.func64, Try.ntmps64
  go_wp2_with (first | (go_at_call 78; (with_reducible refine (HC.out).mono ?_); rintro e w' ⟨rfl, g1⟩; have G1 := Lib.hid g1; have H1 := Lib.hid (HH.out.up (GrW.of g1)); clear g1) | (go_at_call 121; (with_reducible refine (ways1_c g cap x y t _ H1.out.lc H1.out.top H1.out.lt H1.out.c0 H1.out.c1).mono ?_); rintro e w' ⟨g', rfl, h0, h1, h2, h3⟩; have R := Lib.hid (And.intro h0 (And.intro h1 (And.intro h2 h3))); clear h0 h1 h2 h3))
  go_ret2
  exact ⟨g', rfl, R.out.1, Nat.le_trans G1.out.2.2 R.out.2.1, R.out.2.2.1, gr_trans G1.out R.out.2.2.2⟩
theorem Ways2_c {g cap x y t x' y' t' : Nat} {w : World} (h : W2 w g cap x y t x' y' t') (rx : Rep x x) (ry : Rep y y) (rt : Rep t t) (rx' : Rep x' x') (ry' : Rep y' y') (rt' : Rep t' t') (ok : whOk x y t = true) (ok' : whOk x' y' t' = true)
    (k12 : wvOk x y x' y' t' = true) (k21 : wvOk x' y' x y t = true) :
    Calls Try.prog 64 #[.slice (some ⟨g, 0, none⟩) 2 cap] w (RetW2 (wvX x y x' y' t') (wvY x y x' y' t') (wvX x' y' x y t) (wvY x' y' x y t) w) := by
  have HC := Lib.hid (check2_c h rx ry rt rx' ry' rt' ok ok')
  have HH := Lib.hid h
  clear h
  go_enter Try.func64, Try.ntmps64
  go_wp2_with (first | (go_at_call 78; (with_reducible refine (HC.out).mono ?_); rintro e w' ⟨rfl, g1⟩; have G1 := Lib.hid g1; have H1 := Lib.hid (HH.out.up (GrW.of g1)); clear g1) | (go_at_call 121; (with_reducible refine (ways2_c g cap x y t x' y' t' _ H1.out.lc H1.out.top H1.out.lt H1.out.c0 H1.out.c1 H1.out.c2 H1.out.c3 rx ry rt rx' ry' rt' k12 k21).mono ?_); rintro e w' ⟨g', rfl, h0, h1, h2, h3, h4⟩; have R := Lib.hid (And.intro h0 (And.intro h1 (And.intro h2 (And.intro h3 h4)))); clear h0 h1 h2 h3 h4))
  go_ret2
  exact ⟨g', rfl, R.out.1, R.out.2.1, Nat.le_trans G1.out.2.2 R.out.2.2.1, R.out.2.2.2.1, gr_trans G1.out R.out.2.2.2.2⟩
end Go.Proofs.Ytcfkhhnkboealaa
