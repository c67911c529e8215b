/- Quarters, sines and cosines of any float: the program's and the document's come to one. No condition. -/
import Derived.Test.YtndknkdfbjfjcaaDoorAng2
import Derived.Test.YtndknkdfbjfjcaaDoorBd
namespace Go.Proofs.YtndknkdfbjfjcaaDoor
open Go.RowKit
set_option linter.unusedVariables false
set_option linter.unusedSimpArgs false
set_option maxRecDepth 100000
set_option maxHeartbeats 4000000

theorem bits_and3 (n : Int) : bits .and .i64 n 3 = n % 4 := by
  have h3 : (BitVec.ofInt 64 3).toNat = 2 ^ 2 - 1 := by decide
  have key : (BitVec.ofInt 64 n &&& BitVec.ofInt 64 3).toNat = (n % ((2 ^ 64 : Nat) : Int)).toNat % 2 ^ 2 := by
    rw [BitVec.toNat_and, BitVec.toNat_ofInt, h3, Nat.and_two_pow_sub_one_eq_mod]
  show IntKind.i64.wrap ((BitVec.ofInt 64 n &&& BitVec.ofInt 64 3).toNat : Nat) = n % 4
  rw [key, IntKind.wrap_i64]
  omega
def quarterM (f : Nat) : Nat := wholeF (fmul f 4603909380684499075)
def quarterX (f : Nat) : Nat := if fit f then (if feq (quarterM f) 0 then f else lessF f (quarterM f) 4607182418800017408) else nanB
def quarterN (f : Nat) : Int := if fit f then (if feq (quarterM f) 0 then 0 else wInt (quarterM f) % 4) else 0
theorem quarterM_bd {f : Nat} (hl : f < 18446744073709551616) (h : fit f = true) : Bd (quarterM f) 20 :=
  (((fit_bd hl h).mul (Bd.const' (k := 0) (by decide) (by decide +kernel) (by decide +kernel) (by decide)) (by decide)).whole (by decide)).1
theorem Rep.cq : Rep 4603909380684499075 4603909380684499075 := Rep.self (by decide) (by decide +kernel)
theorem Rep.c20 : Rep 4697254411347427328 4697254411347427328 := Rep.self (by decide) (by decide +kernel)
theorem tmod4 (n : Int) : (if n.tmod 4 < 0 then n.tmod 4 + 4 else n.tmod 4) = n % 4 := by
  have h := Int.tmod_eq_emod (a := n) (b := 4)
  split at h <;> split <;> omega
theorem tmod_bd (n : Int) : -4 < n.tmod 4 ∧ n.tmod 4 < 4 := by
  have h := Int.tmod_eq_emod (a := n) (b := 4)
  split at h <;> omega
section
variable {x y f g : Nat} (hx : Rep x f) (hy : Rep y g) (w : World)
include hx
theorem fit_c : Calls Tryd.prog 152 #[.float .f64 x] w (RetB (fit f) w) := by
  go_enter Tryd.func152, Tryd.ntmps152
  go_wp2_with (go_at_call 163; refine (within_c hx Rep.c20 _).mono ?_; rintro e w' ⟨n, rfl, rfl⟩)
  go_ret
  exact RetB.mk _ rfl
theorem refFit_c : Calls Tryd.prog 124 #[.float .f64 x] w (RetB (fit f) w) := by
  have q := Lib.hid (hx.abs.le' Rep.c20)
  go_enter Tryd.func124, Tryd.ntmps124
  go_wp2
  go_ret
  exact RetB.mk0 q.out
theorem quarter_c : Calls Tryd.prog 121 #[.float .f64 x] w (RetGI (quarterX f) (quarterN f) w) := by
  cases hf : fit f
  · have HF := Lib.hid hf
    go_enter Tryd.func121, Tryd.ntmps121
    go_wp2_with (first | (go_at_call 152; refine (fit_c hx _).mono ?_; rintro e w' ⟨n, rfl, rfl⟩) | (go_at_call 102; refine (nan_c _).mono ?_; rintro e w' ⟨r, n, rfl, hr, rfl⟩))
    go_ret2
    exact ⟨_, by unfold quarterN; rw [if_neg (by rw [HF.out]; simp)]; rfl, by unfold quarterX; rw [if_neg (by rw [HF.out]; simp)]; exact hr, grown_drewN _ _⟩
  · have HF := Lib.hid hf
    have HB := Lib.hid (quarterM_bd hx.flt hf)
    obtain ⟨m, hm⟩ : ∃ m, m = quarterM f := ⟨_, rfl⟩
    have HM := Lib.hid hm
    rw [← hm] at HB
    clear hm
    have hmR : Rep m m := Rep.self HB.out.lt (nrm_of_not HB.out.notN)
    have q1 := hmR.eq' Rep.c0
    have hb := wInt_bd HB.out
    rw [show (2 : Nat) ^ 20 = 1048576 by decide] at hb
    have k4 : ∀ w : World, (convert 23 3 (.float .f64 m)).run Tryd.prog w = .ok (.int .i64 (wInt m)) w := fun w =>
      run_convert_float_int w 23 3 .f64 .i64 _ _ (by kernel_rfl) (by kernel_rfl) (toIntVal_i64 (toInt_wInt HB.out.fin) (by omega) (by omega))
    have k5 := bits_and3 (wInt m)
    clear hb
    cases hq : feq m 0
    all_goals
      have HQ := Lib.hid hq
      go_enter Tryd.func121, Tryd.ntmps121
      go_wp2_with (first | (go_at_call 152; refine (fit_c hx _).mono ?_; rintro e w' ⟨n, rfl, rfl⟩) | (go_at_call 30; refine (whole_c (hx.mul Rep.cq) _).mono ?_; rintro e w' ⟨r, n, rfl, hr, rfl⟩; obtain rfl : r = m := (hr.eq_of (by have := HB.out.notN; rw [HM.out] at this; exact this)).trans HM.out.symm) | (go_at_call 154; refine (less_c hx hmR Rep.cone _).mono ?_; rintro e w' ⟨r2, rfl, hr2, hg⟩) | go_in)
      go_ret2
    · exact ⟨_, by unfold quarterN; rw [if_pos HF.out, ← HM.out, if_neg (by rw [HQ.out]; simp)]; rfl, by unfold quarterX; rw [if_pos HF.out, ← HM.out, if_neg (by rw [HQ.out]; simp)]; exact hr2, hg⟩
    · exact ⟨_, by unfold quarterN; rw [if_pos HF.out, ← HM.out, if_pos HQ.out]; rfl, by unfold quarterX; rw [if_pos HF.out, ← HM.out, if_pos HQ.out]; exact hx, grown_drewN _ _⟩
theorem refQuarter_c : Calls Tryd.prog 126 #[.float .f64 x] w (RetFI (quarterX f) (quarterN f) w) := by
  cases hf : fit f
  · have HF := Lib.hid hf
    go_enter Tryd.func126, Tryd.ntmps126
    go_wp2_with (first | (go_at_call 124; refine (refFit_c hx _).mono ?_; rintro e w' ⟨n, rfl, rfl⟩) | go_in)
    go_ret2
    exact RetFI.mk _ (by unfold quarterX; rw [if_neg (by rw [HF.out]; simp)]; exact Rep.nanC) (by unfold quarterN; rw [if_neg (by rw [HF.out]; simp)])
  · have HF := Lib.hid hf
    have HB := Lib.hid (quarterM_bd hx.flt hf)
    obtain ⟨m, hm⟩ : ∃ m, m = quarterM f := ⟨_, rfl⟩
    have HM := Lib.hid hm
    rw [← hm] at HB
    clear hm
    have hmR : Rep m m := Rep.self HB.out.lt (nrm_of_not HB.out.notN)
    have q1 := hmR.eq' Rep.c0
    have hb := wInt_bd HB.out
    rw [show (2 : Nat) ^ 20 = 1048576 by decide] at hb
    have k4 : ∀ w : World, (convert 23 3 (.float .f64 m)).run Tryd.prog w = .ok (.int .i64 (wInt m)) w := fun w =>
      run_convert_float_int w 23 3 .f64 .i64 _ _ (by kernel_rfl) (by kernel_rfl) (toIntVal_i64 (toInt_wInt HB.out.fin) (by omega) (by omega))
    have hb1 : -1048576 ≤ wInt m := by omega
    have hb2 : wInt m ≤ 1048576 := by omega
    have ht := Lib.hid (tmod4 (wInt m))
    obtain ⟨ht1, ht2⟩ := tmod_bd (wInt m)
    clear hb
    cases hq : feq m 0
    all_goals
      have HQ := Lib.hid hq
      go_enter Tryd.func126, Tryd.ntmps126
      go_wp2_with (first | (go_at_call 124; refine (refFit_c hx _).mono ?_; rintro e w' ⟨n, rfl, rfl⟩) | (go_at_call 31; refine (refWhole_c (hx.mul Rep.cq) _).mono ?_; rintro e w' ⟨r, n, rfl, hr, rfl⟩; obtain rfl : r = m := (hr.eq_of (by have := HB.out.notN; rw [HM.out] at this; exact this)).trans HM.out.symm) | (go_at_call 155; refine (refLess_c hx hmR Rep.cone _).mono ?_; rintro e w' ⟨r2, n, rfl, hr2, rfl⟩) | go_in)
      all_goals go_ret2
    · rename_i hneg
      exact RetFI.mk _ (by unfold quarterX; rw [if_pos HF.out, ← HM.out, if_neg (by rw [HQ.out]; simp)]; exact hr2) (by unfold quarterN; rw [if_pos HF.out, ← HM.out, if_neg (by rw [HQ.out]; simp), ← ht.out, if_pos (by assumption)])
    · exact RetFI.mk _ (by unfold quarterX; rw [if_pos HF.out, ← HM.out, if_neg (by rw [HQ.out]; simp)]; exact hr2) (by unfold quarterN; rw [if_pos HF.out, ← HM.out, if_neg (by rw [HQ.out]; simp), ← ht.out, if_neg (by omega)])
    · exact RetFI.mk _ (by unfold quarterX; rw [if_pos HF.out, ← HM.out, if_pos HQ.out]; exact hx) (by unfold quarterN; rw [if_pos HF.out, ← HM.out, if_pos HQ.out])
end
end Go.Proofs.YtndknkdfbjfjcaaDoor
