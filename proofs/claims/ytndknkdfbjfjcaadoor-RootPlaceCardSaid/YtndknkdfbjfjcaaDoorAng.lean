/- Sines, cosines and the core of angles, by their steps: the program's and the document's come to one. No condition. -/
import Derived.Test.YtndknkdfbjfjcaaDoorWhole
namespace Go.Proofs.YtndknkdfbjfjcaaDoor
open Go.RowKit
set_option linter.unusedVariables false
set_option linter.unusedSimpArgs false
set_option maxRecDepth 100000

def one : Nat := 4607182418800017408
def sinSeq (z : Nat) : Nat → Nat
  | 0 => 4607182418800017408
  | j + 1 => fsub 4607182418800017408 (fmul (fdiv z (ofInt (2 * (9 - (j : Int)) * (2 * (9 - (j : Int)) + 1)))) (sinSeq z j))
def cosSeq (z : Nat) : Nat → Nat
  | 0 => 4607182418800017408
  | j + 1 => fsub 4607182418800017408 (fmul (fdiv z (ofInt ((2 * (9 - (j : Int)) - 1) * (2 * (9 - (j : Int)))))) (cosSeq z j))
def sineF (y : Nat) : Nat := fmul y (sinSeq (fmul y y) 9)
def cosF (y : Nat) : Nat := cosSeq (fmul y y) 9
def coreSeq (z : Nat) : Nat → Nat
  | 0 => 0
  | j + 1 => fsub (fdiv 4607182418800017408 (ofInt (2 * (24 - (j : Int)) + 1))) (fmul z (coreSeq z j))
def piH : Nat := 4614256656552045848
def piL : Nat := 4368955796522032135
def farF (t : Nat) : Bool := flt 4601130706800738304 t
def coreU (t : Nat) : Nat := if farF t then fdiv (fsub t 4607182418800017408) (fadd t 4607182418800017408) else t
def coreV (t : Nat) : Nat := fmul (coreU t) (coreSeq (fmul (coreU t) (coreU t)) 25)
def coreF (t : Nat) : Nat := if farF t then fadd (fdiv 4614256656552045848 4616189618054758400) (fadd (coreV t) (fdiv 4368955796522032135 4616189618054758400)) else coreV t

theorem k9_down : ∀ j : Nat, j < 9 → fsub (ofInt (9 - (j : Int))) 4607182418800017408 = ofInt (9 - ((j + 1 : Nat) : Int)) := by decide +kernel
theorem k9_sin : ∀ j : Nat, j < 9 → fmul (fmul 4611686018427387904 (ofInt (9 - (j : Int)))) (fadd (fmul 4611686018427387904 (ofInt (9 - (j : Int)))) 4607182418800017408) = ofInt (2 * (9 - (j : Int)) * (2 * (9 - (j : Int)) + 1)) := by decide +kernel
theorem k9_cos : ∀ j : Nat, j < 9 → fmul (fsub (fmul 4611686018427387904 (ofInt (9 - (j : Int)))) 4607182418800017408) (fmul 4611686018427387904 (ofInt (9 - (j : Int)))) = ofInt ((2 * (9 - (j : Int)) - 1) * (2 * (9 - (j : Int)))) := by decide +kernel
theorem k9_test : ∀ j : Nat, j < 10 → fle 4607182418800017408 (ofInt (9 - (j : Int))) = decide (j < 9) := by decide +kernel
theorem k24_down : ∀ j : Nat, j < 25 → fsub (ofInt (24 - (j : Int))) 4607182418800017408 = ofInt (24 - ((j + 1 : Nat) : Int)) := by decide +kernel
theorem k24_odd : ∀ j : Nat, j < 25 → fadd (fmul 4611686018427387904 (ofInt (24 - (j : Int)))) 4607182418800017408 = ofInt (2 * (24 - (j : Int)) + 1) := by decide +kernel
theorem k24_test : ∀ j : Nat, j < 26 → fle 0 (ofInt (24 - (j : Int))) = decide (j < 25) := by decide +kernel
def m9 (b : Nat) : Nat := ((List.range 11).find? (fun i : Nat => ofInt ((i : Int) - 1) == b)).getD 0
theorem m9_eq : ∀ j : Nat, j < 11 → m9 (ofInt (9 - (j : Int))) = 10 - j := by decide +kernel
def m24 (b : Nat) : Nat := ((List.range 26).find? (fun i : Nat => ofInt ((i : Int) - 1) == b)).getD 0
theorem m24_eq : ∀ j : Nat, j < 26 → m24 (ofInt (24 - (j : Int))) = 25 - j := by decide +kernel
theorem ofInt_self (n : Int) : Rep (ofInt n) (ofInt n) := Rep.self (ofInt_lt n) (nrm_of_not (ofInt_notN n))
theorem ofInt_9 : (4621256167635550208 : Nat) = ofInt 9 := by decide +kernel
theorem ofInt_24 : (4627448617123184640 : Nat) = ofInt 24 := by decide +kernel
theorem Rep.ct : Rep 4601130706800738304 4601130706800738304 := Rep.self (by decide) (by decide +kernel)
theorem Rep.c4 : Rep 4616189618054758400 4616189618054758400 := Rep.self (by decide) (by decide +kernel)
theorem Rep.cpiH : Rep 4614256656552045848 4614256656552045848 := Rep.self (by decide) (by decide +kernel)
theorem Rep.cpiL : Rep 4368955796522032135 4368955796522032135 := Rep.self (by decide) (by decide +kernel)
theorem pi_c (w : World) : Calls Tryd.prog 131 #[] w (RetFF 4614256656552045848 4368955796522032135 w) := by
  go_enter Tryd.func131, Tryd.ntmps131
  go_wp2
  go_ret2
  exact RetFF.mk0 Rep.cpiH Rep.cpiL
theorem Pi_c (w : World) : Calls Tryd.prog 89 #[] w (RetFF 4614256656552045848 4368955796522032135 w) := by
  go_enter Tryd.func89, Tryd.ntmps89
  go_wp2
  go_ret2
  exact RetFF.mk0 Rep.cpiH Rep.cpiL
theorem High_c (w : World) : Calls Tryd.prog 92 #[] w (RetF 4614256656552045848 w) := by
  go_enter Tryd.func92, Tryd.ntmps92
  go_wp2
  go_ret
  exact RetF.mk0 Rep.cpiH
theorem Low_c (w : World) : Calls Tryd.prog 136 #[] w (RetF 4368955796522032135 w) := by
  go_enter Tryd.func136, Tryd.ntmps136
  go_wp2
  go_ret
  exact RetF.mk0 Rep.cpiL
section
variable {x y f g : Nat} (hx : Rep x f) (hy : Rep y g) (w : World)
include hx
theorem steps_c : Calls Tryd.prog 122 #[.float .f64 x] w (RetFF (sineF f) (cosF f) w) := by
  go_enter Tryd.func122, Tryd.ntmps122
  go_wp2
  have hs := hx.mul hx (w := w)
  generalize fres .mul x x w = z at hs ⊢
  generalize fdr .mul x x = d0
  have H9 := Lib.hid ofInt_9
  go_loopw [2, 3, 5] (fun s c k wr => ∃ j d a b : Nat, k = .float .f64 (ofInt (9 - (j : Int))) ∧ j ≤ 9 ∧ s = .float .f64 a ∧ c = .float .f64 b ∧ Rep a (sinSeq (fmul f f) j) ∧ Rep b (cosSeq (fmul f f) j) ∧ wr = w.drewN d) (fun _ _ k _ => m9 (fltOf k))
  case atStart => exact ⟨0, _, _, _, by rw [H9.out]; rfl, by omega, rfl, rfl, Rep.cone, Rep.cone, rfl⟩
  case round =>
    obtain ⟨j, d, a, b, rfl, hj, rfl, rfl, ha, hb, rfl⟩ := hrel
    have hk := ofInt_self (9 - (j : Int))
    have q1 := hk.ge' Rep.cone
    rw [k9_test j (by omega)] at q1
    by_cases hlt : j < 9
    · rw [decide_eq_true hlt] at q1
      have e1 : ∀ w, fres .sub (ofInt (9 - (j : Int))) 4607182418800017408 w = ofInt (9 - ((j + 1 : Nat) : Int)) := fun w => by
        have h := hk.sub Rep.cone (w := w)
        rw [k9_down j hlt] at h
        exact h.eq_of (ofInt_notN _)
      have HS := Lib.hid (k9_sin j hlt)
      have HC := Lib.hid (k9_cos j hlt)
      have HE := Lib.hid e1
      clear e1
      go_wp2
      go_roundw
      case rel =>
        refine ⟨j + 1, _, _, _, by rw [HE.out], by omega, rfl, rfl, ?_, ?_, rfl⟩
        · rw [sinSeq, ← HS.out]
          exact Rep.cone.sub ((hs.quo ((Rep.two.mul hk).mul ((Rep.two.mul hk).add Rep.cone))).mul ha)
        · rw [cosSeq, ← HC.out]
          exact Rep.cone.sub ((hs.quo (((Rep.two.mul hk).sub Rep.cone).mul (Rep.two.mul hk))).mul hb)
      case measure =>
        simp only [fltOf]
        rw [HE.out, m9_eq (j + 1) (by omega), m9_eq j (by omega)]
        omega
    · have hj9 : j = 9 := by omega
      subst hj9
      rw [decide_eq_false hlt] at q1
      go_wp2
      go_ret2
      exact RetFF.mk _ (hx.mul ha) hb
theorem refSine_c : Calls Tryd.prog 127 #[.float .f64 x] w (RetF (sineF f) w) := by
  go_enter Tryd.func127, Tryd.ntmps127
  go_wp2
  have hs := hx.mul hx (w := w)
  generalize fres .mul x x w = z at hs ⊢
  generalize fdr .mul x x = d0
  go_loopw [4, 5] (fun s k wr => ∃ j d a : Nat, k = .int .i64 (9 - (j : Int)) ∧ j ≤ 9 ∧ s = .float .f64 a ∧ Rep a (sinSeq (fmul f f) j) ∧ wr = w.drewN d) (fun _ k _ => (intOf k).toNat)
  case atStart => exact ⟨0, _, _, rfl, by omega, rfl, Rep.cone, rfl⟩
  case round =>
    obtain ⟨j, d, a, rfl, hj, rfl, ha, rfl⟩ := hrel
    by_cases hlt : j < 9
    · have hm : 2 * (9 - (j : Int)) * (2 * (9 - (j : Int)) + 1) ≤ 400 ∧ 0 ≤ 2 * (9 - (j : Int)) * (2 * (9 - (j : Int)) + 1) := by
        have : j = 0 ∨ j = 1 ∨ j = 2 ∨ j = 3 ∨ j = 4 ∨ j = 5 ∨ j = 6 ∨ j = 7 ∨ j = 8 := by omega
        rcases this with rfl | rfl | rfl | rfl | rfl | rfl | rfl | rfl | rfl <;> decide
      go_wp2
      go_roundw
      case rel =>
        refine ⟨j + 1, _, _, ?_, by omega, rfl, ?_, rfl⟩
        · congr 1; omega
        · rw [sinSeq]
          exact Rep.cone.sub ((hs.quo (ofInt_rep _)).mul ha)
      case measure => simp [intOf]; omega
    · have hj9 : j = 9 := by omega
      subst hj9
      go_wp2
      go_ret
      exact RetF.mk _ (hx.mul ha)
theorem refCosine_c : Calls Tryd.prog 128 #[.float .f64 x] w (RetF (cosF f) w) := by
  go_enter Tryd.func128, Tryd.ntmps128
  go_wp2
  have hs := hx.mul hx (w := w)
  generalize fres .mul x x w = z at hs ⊢
  generalize fdr .mul x x = d0
  go_loopw [4, 5] (fun s k wr => ∃ j d a : Nat, k = .int .i64 (9 - (j : Int)) ∧ j ≤ 9 ∧ s = .float .f64 a ∧ Rep a (cosSeq (fmul f f) j) ∧ wr = w.drewN d) (fun _ k _ => (intOf k).toNat)
  case atStart => exact ⟨0, _, _, rfl, by omega, rfl, Rep.cone, rfl⟩
  case round =>
    obtain ⟨j, d, a, rfl, hj, rfl, ha, rfl⟩ := hrel
    by_cases hlt : j < 9
    · have hm : (2 * (9 - (j : Int)) - 1) * (2 * (9 - (j : Int))) ≤ 400 ∧ 0 ≤ (2 * (9 - (j : Int)) - 1) * (2 * (9 - (j : Int))) := by
        have : j = 0 ∨ j = 1 ∨ j = 2 ∨ j = 3 ∨ j = 4 ∨ j = 5 ∨ j = 6 ∨ j = 7 ∨ j = 8 := by omega
        rcases this with rfl | rfl | rfl | rfl | rfl | rfl | rfl | rfl | rfl <;> decide
      go_wp2
      go_roundw
      case rel =>
        refine ⟨j + 1, _, _, ?_, by omega, rfl, ?_, rfl⟩
        · congr 1; omega
        · rw [cosSeq]
          exact Rep.cone.sub ((hs.quo (ofInt_rep _)).mul ha)
      case measure => simp [intOf]; omega
    · have hj9 : j = 9 := by omega
      subst hj9
      go_wp2
      go_ret
      exact RetF.mk _ ha
theorem core_c : Calls Tryd.prog 134 #[.float .f64 x] w (RetF (coreF f) w) := by
  have H24 := Lib.hid ofInt_24
  have q0 := hx.gt' Rep.ct
  cases hf : flt 4601130706800738304 f
  · have HF := Lib.hid hf
    have hU : coreU f = f := by unfold coreU farF; rw [hf, if_neg (by simp)]
    have hCF : coreF f = coreV f := by unfold coreF farF; rw [hf, if_neg (by simp)]
    have HU := Lib.hid hU
    have HCF := Lib.hid hCF
    clear hU hCF
    have hu := hx
    rw [← HU.out] at hu
    go_enter Tryd.func134, Tryd.ntmps134
    go_wp2
    have hs := hu.mul hu (w := w)
    generalize fres .mul x x w = z at hs ⊢
    generalize fdr .mul x x = d0
    go_loopw [8, 9] (fun s k wr => ∃ j d a : Nat, k = .float .f64 (ofInt (24 - (j : Int))) ∧ j ≤ 25 ∧ s = .float .f64 a ∧ Rep a (coreSeq (fmul (coreU f) (coreU f)) j) ∧ wr = w.drewN d) (fun _ k _ => m24 (fltOf k))
    case atStart => exact ⟨0, _, _, by rw [H24.out]; rfl, by omega, rfl, Rep.c0, rfl⟩
    case round =>
      obtain ⟨j, d, a, rfl, hj, rfl, ha, rfl⟩ := hrel
      have hk := ofInt_self (24 - (j : Int))
      have q1 := hk.ge' Rep.c0
      rw [k24_test j (by omega)] at q1
      by_cases hlt : j < 25
      · rw [decide_eq_true hlt] at q1
        have e1 : ∀ w, fres .sub (ofInt (24 - (j : Int))) 4607182418800017408 w = ofInt (24 - ((j + 1 : Nat) : Int)) := fun w => by
          have h := hk.sub Rep.cone (w := w)
          rw [k24_down j hlt] at h
          exact h.eq_of (ofInt_notN _)
        have HS := Lib.hid (k24_odd j hlt)
        have HE := Lib.hid e1
        clear e1
        go_wp2
        go_roundw
        case rel =>
          refine ⟨j + 1, _, _, by rw [HE.out], by omega, rfl, ?_, rfl⟩
          rw [coreSeq, ← HS.out]
          exact (Rep.cone.quo ((Rep.two.mul hk).add Rep.cone)).sub (hs.mul ha)
        case measure =>
          simp only [fltOf]
          rw [HE.out, m24_eq (j + 1) (by omega), m24_eq j (by omega)]
          omega
      · have hj9 : j = 25 := by omega
        subst hj9
        rw [decide_eq_false hlt] at q1
        go_wp2
        go_ret
        exact RetF.mk _ (by rw [HCF.out]; exact (hu.mul ha))
  · have HF := Lib.hid hf
    have hU : coreU f = fdiv (fsub f 4607182418800017408) (fadd f 4607182418800017408) := by unfold coreU farF; rw [hf, if_pos rfl]
    have hCF : coreF f = fadd (fdiv 4614256656552045848 4616189618054758400) (fadd (coreV f) (fdiv 4368955796522032135 4616189618054758400)) := by unfold coreF farF; rw [hf, if_pos rfl]
    have HU := Lib.hid hU
    have HCF := Lib.hid hCF
    clear hU hCF
    have hu0 := (hx.sub Rep.cone (w := w)).quo (hx.add Rep.cone (w := w.drewN (fdr .sub x 4607182418800017408))) (w := w.drewN (fdr .sub x 4607182418800017408 + fdr .add x 4607182418800017408))
    go_enter Tryd.func134, Tryd.ntmps134
    go_wp2
    have hu := hu0
    rw [← HU.out] at hu
    clear hu0
    generalize fres .quo (fres .sub x 4607182418800017408 w) (fres .add x 4607182418800017408 (w.drewN (fdr .sub x 4607182418800017408))) (w.drewN (fdr .sub x 4607182418800017408 + fdr .add x 4607182418800017408)) = u at hu ⊢
    generalize hdd : fdr .sub x 4607182418800017408 + fdr .add x 4607182418800017408 + fdr .quo (fres .sub x 4607182418800017408 w) (fres .add x 4607182418800017408 (w.drewN (fdr .sub x 4607182418800017408))) = dd
    clear hdd
    have hs := hu.mul hu (w := w.drewN dd)
    generalize fres .mul u u (w.drewN dd) = z at hs ⊢
    go_loopw [8, 9] (fun s k wr => ∃ j d a : Nat, k = .float .f64 (ofInt (24 - (j : Int))) ∧ j ≤ 25 ∧ s = .float .f64 a ∧ Rep a (coreSeq (fmul (coreU f) (coreU f)) j) ∧ wr = w.drewN d) (fun _ k _ => m24 (fltOf k))
    case atStart => exact ⟨0, _, _, by rw [H24.out]; rfl, by omega, rfl, Rep.c0, rfl⟩
    case round =>
      obtain ⟨j, d, a, rfl, hj, rfl, ha, rfl⟩ := hrel
      have hk := ofInt_self (24 - (j : Int))
      have q1 := hk.ge' Rep.c0
      rw [k24_test j (by omega)] at q1
      by_cases hlt : j < 25
      · rw [decide_eq_true hlt] at q1
        have e1 : ∀ w, fres .sub (ofInt (24 - (j : Int))) 4607182418800017408 w = ofInt (24 - ((j + 1 : Nat) : Int)) := fun w => by
          have h := hk.sub Rep.cone (w := w)
          rw [k24_down j hlt] at h
          exact h.eq_of (ofInt_notN _)
        have HS := Lib.hid (k24_odd j hlt)
        have HE := Lib.hid e1
        clear e1
        go_wp2
        go_roundw
        case rel =>
          refine ⟨j + 1, _, _, by rw [HE.out], by omega, rfl, ?_, rfl⟩
          rw [coreSeq, ← HS.out]
          exact (Rep.cone.quo ((Rep.two.mul hk).add Rep.cone)).sub (hs.mul ha)
        case measure =>
          simp only [fltOf]
          rw [HE.out, m24_eq (j + 1) (by omega), m24_eq j (by omega)]
          omega
      · have hj9 : j = 25 := by omega
        subst hj9
        rw [decide_eq_false hlt] at q1
        go_wp2
        go_ret
        exact RetF.mk _ (by rw [HCF.out]; exact ((Rep.cpiH.quo Rep.c4).add ((hu.mul ha).add (Rep.cpiL.quo Rep.c4))))
theorem refAngle_c : Calls Tryd.prog 135 #[.float .f64 x] w (RetF (coreF f) w) := by
  have q0 := hx.gt' Rep.ct
  cases hf : flt 4601130706800738304 f
  · have HF := Lib.hid hf
    have hU : coreU f = f := by unfold coreU farF; rw [hf, if_neg (by simp)]
    have hCF : coreF f = coreV f := by unfold coreF farF; rw [hf, if_neg (by simp)]
    have HU := Lib.hid hU
    have HCF := Lib.hid hCF
    clear hU hCF
    have hu := hx
    rw [← HU.out] at hu
    go_enter Tryd.func135, Tryd.ntmps135
    go_wp2
    have hs := hu.mul hu (w := w)
    generalize fres .mul x x w = z at hs ⊢
    generalize fdr .mul x x = d0
    go_loopw [6, 7] (fun s k wr => ∃ j d a : Nat, k = .int .i64 (24 - (j : Int)) ∧ j ≤ 25 ∧ s = .float .f64 a ∧ Rep a (coreSeq (fmul (coreU f) (coreU f)) j) ∧ wr = w.drewN d) (fun _ k _ => (intOf k + 1).toNat)
    case atStart => exact ⟨0, _, _, rfl, by omega, rfl, Rep.c0, rfl⟩
    case round =>
      obtain ⟨j, d, a, rfl, hj, rfl, ha, rfl⟩ := hrel
      by_cases hlt : j < 25
      · go_wp2
        go_roundw
        case rel =>
          refine ⟨j + 1, _, _, ?_, by omega, rfl, ?_, rfl⟩
          · congr 1; omega
          · rw [coreSeq]
            exact (Rep.cone.quo (ofInt_rep _)).sub (hs.mul ha)
        case measure => simp [intOf]; omega
      · have hj9 : j = 25 := by omega
        subst hj9
        go_wp2_with (first | (go_at_call 92; refine (High_c _).mono ?_; rintro e w' ⟨r1, n, rfl, hr1, rfl⟩) | (go_at_call 136; refine (Low_c _).mono ?_; rintro e w' ⟨r2, n, rfl, hr2, rfl⟩))
        go_ret
        exact RetF.mk _ (by rw [HCF.out]; exact (hu.mul ha))
  · have HF := Lib.hid hf
    have hU : coreU f = fdiv (fsub f 4607182418800017408) (fadd f 4607182418800017408) := by unfold coreU farF; rw [hf, if_pos rfl]
    have hCF : coreF f = fadd (fdiv 4614256656552045848 4616189618054758400) (fadd (coreV f) (fdiv 4368955796522032135 4616189618054758400)) := by unfold coreF farF; rw [hf, if_pos rfl]
    have HU := Lib.hid hU
    have HCF := Lib.hid hCF
    clear hU hCF
    have hu0 := (hx.sub Rep.cone (w := w)).quo (hx.add Rep.cone (w := w.drewN (fdr .sub x 4607182418800017408))) (w := w.drewN (fdr .sub x 4607182418800017408 + fdr .add x 4607182418800017408))
    go_enter Tryd.func135, Tryd.ntmps135
    go_wp2
    have hu := hu0
    rw [← HU.out] at hu
    clear hu0
    generalize fres .quo (fres .sub x 4607182418800017408 w) (fres .add x 4607182418800017408 (w.drewN (fdr .sub x 4607182418800017408))) (w.drewN (fdr .sub x 4607182418800017408 + fdr .add x 4607182418800017408)) = u at hu ⊢
    generalize hdd : fdr .sub x 4607182418800017408 + fdr .add x 4607182418800017408 + fdr .quo (fres .sub x 4607182418800017408 w) (fres .add x 4607182418800017408 (w.drewN (fdr .sub x 4607182418800017408))) = dd
    clear hdd
    have hs := hu.mul hu (w := w.drewN dd)
    generalize fres .mul u u (w.drewN dd) = z at hs ⊢
    go_loopw [6, 7] (fun s k wr => ∃ j d a : Nat, k = .int .i64 (24 - (j : Int)) ∧ j ≤ 25 ∧ s = .float .f64 a ∧ Rep a (coreSeq (fmul (coreU f) (coreU f)) j) ∧ wr = w.drewN d) (fun _ k _ => (intOf k + 1).toNat)
    case atStart => exact ⟨0, _, _, rfl, by omega, rfl, Rep.c0, rfl⟩
    case round =>
      obtain ⟨j, d, a, rfl, hj, rfl, ha, rfl⟩ := hrel
      by_cases hlt : j < 25
      · go_wp2
        go_roundw
        case rel =>
          refine ⟨j + 1, _, _, ?_, by omega, rfl, ?_, rfl⟩
          · congr 1; omega
          · rw [coreSeq]
            exact (Rep.cone.quo (ofInt_rep _)).sub (hs.mul ha)
        case measure => simp [intOf]; omega
      · have hj9 : j = 25 := by omega
        subst hj9
        go_wp2_with (first | (go_at_call 92; refine (High_c _).mono ?_; rintro e w' ⟨r1, n, rfl, hr1, rfl⟩) | (go_at_call 136; refine (Low_c _).mono ?_; rintro e w' ⟨r2, n, rfl, hr2, rfl⟩))
        go_ret
        exact RetF.mk _ (by rw [HCF.out]; exact ((hr1.quo Rep.c4).add ((hu.mul ha).add (hr2.quo Rep.c4))))
end
end Go.Proofs.YtndknkdfbjfjcaaDoor
