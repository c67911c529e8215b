/- Sine and cosine together, and wrapped angles: the program's and the document's come to one. No condition. -/
import Derived.Test.YtndknkdfbjfjcaaDoorAng3
namespace Go.Proofs.YtndknkdfbjfjcaaDoor
open Go.RowKit
set_option linter.unusedVariables false
set_option linter.unusedSimpArgs false
set_option maxRecDepth 100000
set_option maxHeartbeats 4000000

theorem fneg_fneg {f : Nat} (hl : f < 18446744073709551616) (hn : nrm f = f) : fneg (fneg f) = f := by
  cases h : isN f
  · have e := fneg_wd hl h
    have hr := (notN_iff f).1 h
    rw [e, wd_neg hr, Bool.not_not, ← num_wd hl]
  · rw [nrm_of h] at hn; rw [← hn]; decide +kernel
def turnS (f : Nat) : Nat :=
  if quarterN f = 0 then sineF (quarterX f) else if quarterN f = 1 then cosF (quarterX f) else if quarterN f = 2 then fneg (sineF (quarterX f)) else fneg (cosF (quarterX f))
def turnC (f : Nat) : Nat :=
  if quarterN f = 0 then cosF (quarterX f) else if quarterN f = 1 then fneg (sineF (quarterX f)) else if quarterN f = 2 then fneg (cosF (quarterX f)) else sineF (quarterX f)
theorem quarterN_cases (f : Nat) : quarterN f = 0 ∨ quarterN f = 1 ∨ quarterN f = 2 ∨ quarterN f = 3 := by
  unfold quarterN
  split
  · split <;> omega
  · omega
theorem sineF_lt (y : Nat) : sineF y < 18446744073709551616 := canon_map_lt _
theorem sineF_nrm (y : Nat) : nrm (sineF y) = sineF y := nrm_fmul _ _
theorem turn_unfit {f : Nat} (h : fit f = false) : turnS f = nanB ∧ turnC f = nanB := by
  have e1 : quarterN f = 0 := by unfold quarterN; rw [if_neg (by rw [h]; simp)]
  have e2 : quarterX f = nanB := by unfold quarterX; rw [if_neg (by rw [h]; simp)]
  unfold turnS turnC
  rw [e1, e2, if_pos rfl, if_pos rfl]
  decide +kernel
section
variable {x y f g : Nat} (hx : Rep x f) (hy : Rep y g) (w : World)
include hx
theorem turn_c : Calls Tryd.prog 81 #[.float .f64 x] w (RetGG (turnS f) (turnC f) w) := by
  have hff := Lib.hid (fneg_fneg (sineF_lt (quarterX f)) (sineF_nrm (quarterX f)))
  have h4 := Lib.hid (quarterN_cases f)
  rcases h4.out with hn | hn | hn | hn
  all_goals
    have HN := Lib.hid hn
    clear hn
    go_enter Tryd.func81, Tryd.ntmps81
    go_wp2_with (first | (go_at_call 121; refine (quarter_c hx _).mono ?_; rw [HN.out]; rintro e w' ⟨r, rfl, hr, hg⟩) | (go_at_call 122; refine (steps_c (by assumption) _).mono ?_; rintro e w' ⟨r1, r2, n, rfl, hr1, hr2, rfl⟩))
    all_goals go_ret2
  · exact ⟨_, _, rfl, by unfold turnS; rw [HN.out, if_pos rfl]; exact hr1, by unfold turnC; rw [HN.out, if_pos rfl]; exact hr2, grown_drewN' _ hg⟩
  · exact ⟨_, _, rfl, by unfold turnS; rw [HN.out, if_neg (by decide), if_pos rfl]; exact hr2, by unfold turnC; rw [HN.out, if_neg (by decide), if_pos rfl]; exact hr1.neg, grown_drewN' _ hg⟩
  · exact ⟨_, _, rfl, by unfold turnS; rw [HN.out, if_neg (by decide), if_neg (by decide), if_pos rfl]; exact hr1.neg, by unfold turnC; rw [HN.out, if_neg (by decide), if_neg (by decide), if_pos rfl]; exact hr2.neg, grown_drewN' _ hg⟩
  · exact ⟨_, _, rfl, by unfold turnS; rw [HN.out, if_neg (by decide), if_neg (by decide), if_neg (by decide)]; exact hr2.neg, by unfold turnC; rw [HN.out, if_neg (by decide), if_neg (by decide), if_neg (by decide), ← hff.out]; exact hr1.neg.neg, grown_drewN' _ hg⟩
theorem refTurn_c : Calls Tryd.prog 83 #[.float .f64 x] w (RetFF (turnS f) (turnC f) w) := by
  cases hf : fit f
  · have HT := Lib.hid (turn_unfit hf)
    go_enter Tryd.func83, Tryd.ntmps83
    go_wp2_with (first | (go_at_call 124; refine (refFit_c hx _).mono ?_; rw [hf]; rintro e w' ⟨n, rfl, rfl⟩) | go_in)
    go_ret2
    exact RetFF.mk _ (by rw [HT.out.1]; exact Rep.nanC) (by rw [HT.out.2]; exact Rep.nanC)
  · have HF := Lib.hid hf
    clear hf
    have h4 := Lib.hid (quarterN_cases f)
    rcases h4.out with hn | hn | hn | hn
    all_goals
      have HN := Lib.hid hn
      clear hn
      go_enter Tryd.func83, Tryd.ntmps83
      go_wp2_with (first | (go_at_call 124; refine (refFit_c hx _).mono ?_; rw [HF.out]; rintro e w' ⟨n, rfl, rfl⟩) | (go_at_call 126; refine (refQuarter_c hx _).mono ?_; rw [HN.out]; rintro e w' ⟨r, n, rfl, hr, rfl⟩) | (go_at_call 127; refine (refSine_c (by assumption) _).mono ?_; rintro e w' ⟨r1, n, rfl, hr1, rfl⟩) | (go_at_call 128; refine (refCosine_c (by assumption) _).mono ?_; rintro e w' ⟨r2, n, rfl, hr2, rfl⟩))
      all_goals go_ret2
    · exact RetFF.mk _ (by unfold turnS; rw [HN.out, if_pos rfl]; exact hr1) (by unfold turnC; rw [HN.out, if_pos rfl]; exact hr2)
    · exact RetFF.mk _ (by unfold turnS; rw [HN.out, if_neg (by decide), if_pos rfl]; exact hr2) (by unfold turnC; rw [HN.out, if_neg (by decide), if_pos rfl]; exact hr1.neg)
    · exact RetFF.mk _ (by unfold turnS; rw [HN.out, if_neg (by decide), if_neg (by decide), if_pos rfl]; exact hr1.neg) (by unfold turnC; rw [HN.out, if_neg (by decide), if_neg (by decide), if_pos rfl]; exact hr2.neg)
    · exact RetFF.mk _ (by unfold turnS; rw [HN.out, if_neg (by decide), if_neg (by decide), if_neg (by decide)]; exact hr2.neg) (by unfold turnC; rw [HN.out, if_neg (by decide), if_neg (by decide), if_neg (by decide)]; exact hr1)
end
end Go.Proofs.YtndknkdfbjfjcaaDoor
