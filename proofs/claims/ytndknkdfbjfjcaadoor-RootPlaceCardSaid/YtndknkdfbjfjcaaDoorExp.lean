/- Exponentials: what the program's steps come to. No condition. -/
import Derived.Test.YtndknkdfbjfjcaaDoorBd
import Derived.Test.YtndknkdfbjfjcaaDoorLog2
namespace Go.Proofs.YtndknkdfbjfjcaaDoor
open Go.RowKit
set_option linter.unusedVariables false
set_option linter.unusedSimpArgs false
set_option maxRecDepth 100000
set_option maxHeartbeats 4000000

def riseSeq (r : Nat) : Nat → Nat
  | 0 => 4607182418800017408
  | k + 1 => fadd 4607182418800017408 (fdiv (fmul r (riseSeq r k)) (ofInt (13 - (k : Int))))
def expN (f : Nat) : Nat := wholeF (fmul f 4609176140021203710)
def expR (f : Nat) : Nat := fsub (fsub f (fmul (expN f) 4604418534311723008)) (fmul (expN f) 4461442080421002358)
def expF (f : Nat) : Nat := if isN f then nanB else if flt 4649454594685214392 f then infP else if flt f 13873137573428325253 then 0 else scaleF (riseSeq (expR f) 13) (clampN (wInt (expN f)))
theorem Rep.cturned : Rep 4609176140021203710 4609176140021203710 := Rep.self (by decide) (by decide +kernel)
theorem Rep.cgreat : Rep 4649454594685214392 4649454594685214392 := Rep.self (by decide) (by decide +kernel)
theorem Rep.csmall : Rep 13873137573428325253 13873137573428325253 := Rep.self (by decide) (by decide +kernel)
theorem exp_closed : sval 4649454594685214392 ≤ ((2 ^ 10 * U : Nat) : Int) ∧ -((2 ^ 10 * U : Nat) : Int) ≤ sval 13873137573428325253 ∧ 2 ^ 10 * U < mval 9218868437227405312 := by decide +kernel
theorem exp_bd {f : Nat} (hl : f < 18446744073709551616) (h1 : isN f = false) (h2 : flt 4649454594685214392 f = false) (h3 : flt f 13873137573428325253 = false) : Bd f 10 := by
  rw [flt_eq, h1, show isN 4649454594685214392 = false by decide +kernel] at h2
  rw [flt_eq, h1, show isN 13873137573428325253 = false by decide +kernel] at h3
  simp only [Bool.not_false, Bool.true_and, decide_eq_false_iff_not] at h2 h3
  obtain ⟨c1, c2, c3⟩ := exp_closed
  have hm : mval (rung f) ≤ 2 ^ 10 * U := by
    generalize 2 ^ 10 * U = B at *
    generalize sval 4649454594685214392 = G at *
    generalize sval 13873137573428325253 = S at *
    rcases sval_cases f with ⟨_, e⟩ | ⟨_, e⟩ <;> rw [e] at h2 h3 <;> omega
  refine ⟨hl, ?_, hm⟩
  unfold Proofs.YtndknkdfbjfjcaaDoor.fin
  have := mval_lt_iff.1 (Nat.lt_of_le_of_lt hm c3)
  simpa using this
section
variable {x y f g : Nat} (hx : Rep x f) (hy : Rep y g) (w : World)
include hx
theorem rising_c (m : Nat) (hm : m ≤ 13) : Calls Tryd.prog 63 #[.float .f64 x, .int .i64 (14 - (m : Int))] w (RetF (riseSeq f m) w) := by
  go_enter Tryd.func63, Tryd.ntmps63
  go_wp2
  go_loopw [5, 9] (fun t i wr => ∃ k d v : Nat, i = .int .i64 k ∧ k ≤ m ∧ t = .float .f64 v ∧ Rep v (riseSeq f k) ∧ wr = w.drewN d) (fun _ i _ => m - (intOf i).toNat)
  case atStart => exact ⟨0, 0, _, rfl, by omega, rfl, Rep.cone, rfl⟩
  case round =>
    obtain ⟨k, d, v, rfl, hk, rfl, hv, rfl⟩ := hrel
    by_cases hlt : k < m
    · go_wp2
      go_roundw
      case rel =>
        refine ⟨k + 1, _, _, by go_num, by omega, rfl, ?_, rfl⟩
        exact Rep.cone.add ((hx.mul hv).quo (ofInt_rep _))
      case measure => simp [intOf]; omega
    · have hk2 : k = m := by omega
      subst hk2
      go_wp2
      go_ret
      exact RetF.mk _ hv
theorem exp_c : Calls Tryd.prog 10 #[.float .f64 x] w (RetF (expF f) w) := by
  have q1 := hx.none'
  have q2 := hx.gt' Rep.cgreat
  have q3 := hx.lt' Rep.csmall
  cases h1 : isN f
  · cases h2 : flt 4649454594685214392 f
    · cases h3 : flt f 13873137573428325253
      · have HE : RowKit.Hid (expF f = scaleF (riseSeq (expR f) 13) (clampN (wInt (expN f)))) := Lib.hid (by unfold expF; rw [h1, h2, h3, if_neg (by simp), if_neg (by simp), if_neg (by simp)])
        have HB := Lib.hid ((((exp_bd hx.flt h1 h2 h3).mul (Bd.const' (c := 4609176140021203710) (k := 1) (by decide) (by decide +kernel) (by decide +kernel) (by decide)) (by decide)).whole (by decide)).1)
        rw [h1] at q1
        rw [h2] at q2
        rw [h3] at q3
        obtain ⟨m, hm⟩ : ∃ m, m = expN f := ⟨_, rfl⟩
        have HM := Lib.hid hm
        have hmB : Bd m (10 + 1) := by rw [hm]; exact HB.out
        have hmR : Rep m m := Rep.self hmB.lt (nrm_of_not hmB.notN)
        have HMB := Lib.hid hmB
        have hr : ∀ w1 w2 w3 w4, Rep (fres .sub (fres .sub x (fres .mul m 4604418534311723008 w1) w2) (fres .mul m 4461442080421002358 w3) w4) (expR f) := fun w1 w2 w3 w4 => by
          unfold expR; rw [← HM.out]; exact (hx.sub (hmR.mul Rep.cH)).sub (hmR.mul Rep.cL)
        clear h1 h2 h3 hm hmB
        have wb := wInt_bd HMB.out
        have wb2 : -2048 ≤ wInt m ∧ wInt m ≤ 2048 := by
          have : (2 : Nat) ^ (10 + 1) = 2048 := by decide
          omega
        have k4 : ∀ w : World, (convert 23 3 (.float .f64 m)).run Tryd.prog w = .ok (.int .i64 (wInt m)) w := fun w =>
          run_convert_float_int w 23 3 .f64 .i64 _ _ (by kernel_rfl) (by kernel_rfl) (toIntVal_i64 (toInt_wInt HMB.out.fin) (by omega) (by omega))
        clear wb
        go_enter Tryd.func10, Tryd.ntmps10
        go_wp2_with (first | (go_at_call 30; refine (whole_c (hx.mul Rep.cturned) _).mono ?_; rintro e w' ⟨r, n, rfl, hr1, rfl⟩; obtain rfl : m = r := ((hr1.eq_of (by have := HMB.out.notN; rw [HM.out] at this; exact this)).trans HM.out.symm).symm) | (go_at_call 63; refine (rising_c (hr _ _ _ _) _ 13 (by decide)).mono ?_; rintro e w' ⟨r2, n, rfl, hr2, rfl⟩) | (go_at_call 28; refine (scale_c hr2 _ _).mono ?_; rintro e w' ⟨r3, n, rfl, hr3, rfl⟩))
        go_ret
        exact RetF.mk _ (by rw [HE.out, ← HM.out]; exact hr3)
      · have HE : RowKit.Hid (expF f = 0) := Lib.hid (by unfold expF; rw [h1, h2, h3, if_neg (by simp), if_neg (by simp), if_pos rfl])
        rw [h1] at q1
        rw [h2] at q2
        rw [h3] at q3
        go_enter Tryd.func10, Tryd.ntmps10
        go_wp2
        go_ret
        exact RetF.mk0 (by rw [HE.out]; exact Rep.c0)
    · have HE : RowKit.Hid (expF f = infP) := Lib.hid (by unfold expF; rw [h1, h2, if_neg (by simp), if_pos rfl])
      rw [h1] at q1
      rw [h2] at q2
      go_enter Tryd.func10, Tryd.ntmps10
      go_wp2_with (go_at_call 62; refine (inf_c _ _).mono ?_; rw [if_pos (by decide)]; rintro e w' ⟨r, n, rfl, hr, rfl⟩)
      go_ret
      exact RetF.mk _ (by rw [HE.out]; exact hr)
  · have HE : RowKit.Hid (expF f = nanB) := Lib.hid (by unfold expF; rw [h1, if_pos rfl])
    have HF : RowKit.Hid (f = nanB) := Lib.hid (hx.nan_of h1)
    rw [h1] at q1
    go_enter Tryd.func10, Tryd.ntmps10
    go_wp2
    go_ret
    exact RetF.mk0 (by rw [HE.out, ← HF.out]; exact hx)
end
end Go.Proofs.YtndknkdfbjfjcaaDoor
