/- The law of sines and cosines holds where a float is too great, or none. -/
import Derived.Test.YtcfkhhnkboealaaDoorDmn
namespace Go.Proofs.YtcfkhhnkboealaaDoor
open Go.RowKit
set_option linter.unusedVariables false
set_option linter.unusedSimpArgs false
set_option maxRecDepth 100000
set_option maxHeartbeats 4000000
open Turns Sizes
def RetYes (w : World) (e : Ending) (w' : World) : Prop := e = .returned (.bool true) ∧ Grown w w'
theorem angleTrue_far {x f : Nat} {w : World} (hx : Rep x f) (hf : fit f = false) : Calls Tryd.prog 6 #[.float .f64 x] w (RetYes w) := by
  obtain ⟨t1, t2⟩ := turn_unfit hf
  have q1 : quarterX f = nanB := by unfold quarterX; rw [hf]; exact if_neg (by decide)
  have q2 : quarterN f = 0 := by unfold quarterN; rw [hf]; exact if_neg (by decide)
  have q3 : wrapF f = nanB := by unfold wrapF; rw [hf]; exact if_neg (by decide)
  have HF := Lib.hid hf
  have T1 := Lib.hid t1
  have T2 := Lib.hid t2
  have Q1 := Lib.hid q1
  have Q2 := Lib.hid q2
  have Q3 := Lib.hid q3
  have HC : RowKit.Hid (Rep 4697254411347427328 4697254411347427328) := Lib.hid (Rep.self (by decide) (by decide +kernel))
  have HNN : RowKit.Hid (isN nanB = true) := Lib.hid (by decide +kernel)
  have HG := Lib.hid (Grown.refl w)
  clear t1 t2 q1 q2 q3 hf
  go_enter Tryd.func6, Tryd.ntmps6
  go_wp2_with (first
    | (go_at_call 29; go_loud ((with_reducible refine (alive_c _).mono ?_); rintro e1 w1 ⟨rfl, h2⟩; have HG := Lib.hid (gr_trans HG.out h2); clear h2))
    | (go_at_call 30; go_loud ((with_reducible refine (turn_c hx _).mono ?_); rintro e1 w2 ⟨r, s, rfl, h1, h3, h2⟩; rw [T1.out] at h1; rw [T2.out] at h3; have p1 := h1.none'; have p2 := h3.none'; rw [HNN.out] at p1 p2; have HG := Lib.hid (gr_trans HG.out h2); clear h1 h2 h3))
    | (go_at_call 31; go_loud ((with_reducible refine (quarter_c hx _).mono ?_); rw [Q2.out]; rintro e1 w3 ⟨r, rfl, h1, h2⟩; rw [Q1.out] at h1; have p3 := h1.none'; rw [HNN.out] at p3; have HG := Lib.hid (gr_trans HG.out h2); clear h1 h2))
    | (go_at_call 32; go_loud ((with_reducible refine (wrap_c hx _).mono ?_); rintro e1 w4 ⟨r, rfl, h1, h2⟩; rw [Q3.out] at h1; have p4 := h1.none'; rw [HNN.out] at p4; have HG := Lib.hid (gr_trans HG.out h2); clear h1 h2))
    | (go_at_call 13; go_loud ((with_reducible refine (abs_c hx _).mono ?_); rintro e1 w5 ⟨q, n, rfl, h1, rfl⟩; have p5 := h1.le' HC.out; rw [show fle (fabs f) 4697254411347427328 = false from HF.out] at p5; have HG := Lib.hid (gr_drewN n HG.out); clear h1))
    | fail)
  go_ret
  exact ⟨rfl, HG.out⟩
end Go.Proofs.YtcfkhhnkboealaaDoor
