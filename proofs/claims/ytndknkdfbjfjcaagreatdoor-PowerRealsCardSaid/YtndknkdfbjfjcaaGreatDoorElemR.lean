/- The document's exponentials, half sums and half differences are the program's. -/
import Derived.Test.YtndknkdfbjfjcaaGreatDoorElem
import Derived.Test.YtndknkdfbjfjcaaGreatDoorNeib
import Derived.Test.YtndknkdfbjfjcaaGreatDoorWde
import Derived.Test.YtndknkdfbjfjcaaGreatDoorWhole
namespace Go.Proofs.YtndknkdfbjfjcaaGreatDoor
open Go.RowKit
set_option linter.unusedVariables false
set_option linter.unusedSimpArgs false
set_option maxRecDepth 100000
set_option maxHeartbeats 4000000
section
variable {x y f g : Nat} (hx : Rep x f) (hy : Rep y g) (w : World)
include hx
theorem refRest_c : Calls Tryz.prog 40 #[.float .f64 x] w (RetFF (expN f) (expR f) w) := by
  go_enter Tryz.func40, Tryz.ntmps40
  go_wp2_with (first | (go_at_call 77; (with_reducible refine (refWhole_c (hx.mul Rep.cturned) _).mono ?_); rintro e w' ⟨r, n, rfl, hr1, rfl⟩))
  go_ret2
  exact RetFF.mk _ hr1 ((hx.sub (hr1.mul Rep.cH)).sub (hr1.mul Rep.cL))
theorem refRising_c (m : Nat) (hm : m ≤ 13) (j : Int) (hj : j = 14 - (m : Int)) : Calls Tryz.prog 42 #[.float .f64 x, .int .i64 j] w (RetF (riseSeq f m) w) := by
  subst hj
  go_enter Tryz.func42, Tryz.ntmps42
  go_wp2
  go_loopw [5, 6] (fun t i wr => ∃ k d v : Nat, i = .int .i64 (13 - (k : Int)) ∧ k ≤ m ∧ t = .float .f64 v ∧ Rep v (riseSeq f k) ∧ wr = w.drewN d) (fun _ i _ => (intOf i).toNat)
  case atStart => exact ⟨0, 0, _, rfl, by omega, rfl, Rep.cone, rfl⟩
  case round =>
    obtain ⟨k, d, v, rfl, hk, rfl, hv, rfl⟩ := hrel
    by_cases hlt : k < m
    · go_wp2
      go_roundw
      case rel =>
        refine ⟨k + 1, _, _, by congr 1; omega, by omega, rfl, ?_, rfl⟩
        exact Rep.cone.add ((hx.mul hv).quo (ofInt_rep _))
      case measure => simp [intOf]; omega
    · have hk2 : k = m := by omega
      subst hk2
      go_wp2
      go_ret
      exact RetF.mk _ hv
theorem refExp_c (hT : TabAt w) (htab : 1 < w.heap.size) : Calls Tryz.prog 19 #[.float .f64 x] w (RetFG (expF f) w) := by
  have q1 := hx.none'
  have q2 := hx.gt' Rep.cgreat
  have q3 := hx.lt' Rep.csmall
  have HT := Lib.hid hT
  clear hT
  cases h1 : isN f
  · cases h2 : flt 4649454594685214392 f
    · cases h3 : flt f 13873137573428325253
      · have HE : RowKit.Hid (expF f = scaleF (riseSeq (expR f) 13) (clampN (wInt (expN f)))) := Lib.hid (by unfold expF; rw [h1, h2, h3, if_neg (by simp), if_neg (by simp), if_neg (by simp)])
        have HB := Lib.hid ((((exp_bd hx.flt h1 h2 h3).mul (Bd.const' (c := 4609176140021203710) (k := 1) (by decide) (by decide +kernel) (by decide +kernel) (by decide)) (by decide)).whole (by decide)).1)
        rw [h1] at q1
        rw [h2] at q2
        rw [h3] at q3
        obtain ⟨m, hm⟩ : ∃ m, m = expN f := ⟨_, rfl⟩
        have HM := Lib.hid hm
        have hmB : Bd m (10 + 1) := by rw [hm]; exact HB.out
        have hmR : Rep m m := Rep.self hmB.lt (nrm_of_not hmB.notN)
        have HMB := Lib.hid hmB
        clear h1 h2 h3 hm hmB
        have wb := wInt_bd HMB.out
        have wb2 : -2048 ≤ wInt m ∧ wInt m ≤ 2048 := by
          have : (2 : Nat) ^ (10 + 1) = 2048 := by decide
          omega
        have k4 : ∀ w : World, (convert 31 3 (.float .f64 m)).run Tryz.prog w = .ok (.int .i64 (wInt m)) w := fun w =>
          run_convert_float_int w 31 3 .f64 .i64 _ _ (by kernel_rfl) (by kernel_rfl) (toIntVal_i64 (toInt_wInt HMB.out.fin) (by omega) (by omega))
        clear wb
        go_enter Tryz.func19, Tryz.ntmps19
        go_wp2_with (first
          | (go_at_call 40; (with_reducible refine (refRest_c hx _).mono ?_); rintro e w' ⟨r, s, n, rfl, hr1, hs, rfl⟩; obtain rfl : m = r := ((hr1.eq_of (by have := HMB.out.notN; rw [HM.out] at this; exact this)).trans HM.out.symm).symm)
          | (go_at_call 42; (with_reducible refine (refRising_c hs _ 13 (by decide) _ (by decide)).mono ?_); rintro e w' ⟨r2, n, rfl, hr2, rfl⟩)
          | (go_at_call 41; (with_reducible refine (refScale_c _ hr2 (tab_drew _ HT.out) (sz_drew _ htab)).mono ?_); rintro e w' ⟨r3, rfl, hr3, hg3⟩))
        go_ret
        exact ⟨_, rfl, by rw [HE.out, ← HM.out]; exact hr3, gr_trans (gr_drewN _ (Grown.refl w)) hg3⟩
      · have HE : RowKit.Hid (expF f = 0) := Lib.hid (by unfold expF; rw [h1, h2, h3, if_neg (by simp), if_neg (by simp), if_pos rfl])
        rw [h1] at q1
        rw [h2] at q2
        rw [h3] at q3
        go_enter Tryz.func19, Tryz.ntmps19
        go_wp2
        go_ret
        exact ⟨_, rfl, by rw [HE.out]; exact Rep.c0, Grown.refl w⟩
    · have HE : RowKit.Hid (expF f = infP) := Lib.hid (by unfold expF; rw [h1, h2, if_neg (by simp), if_pos rfl])
      rw [h1] at q1
      rw [h2] at q2
      go_enter Tryz.func19, Tryz.ntmps19
      go_wp2_with (first | (go_at_call 34; (refine (inf_c _ _).mono ?_; rw [if_pos (by decide)]; rintro e w' ⟨r, n, rfl, hr, rfl⟩)))
      go_ret
      exact ⟨_, rfl, by rw [HE.out]; exact hr, gr_drewN _ (Grown.refl w)⟩
  · have HE : RowKit.Hid (expF f = nanB) := Lib.hid (by unfold expF; rw [h1, if_pos rfl])
    have HF : RowKit.Hid (f = nanB) := Lib.hid (hx.nan_of h1)
    rw [h1] at q1
    go_enter Tryz.func19, Tryz.ntmps19
    go_wp2
    go_ret
    exact ⟨_, rfl, by rw [HE.out, ← HF.out]; exact hx, Grown.refl w⟩
end
end Go.Proofs.YtndknkdfbjfjcaaGreatDoor
