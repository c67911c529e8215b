/- Wrapped angles: the program's and the document's come to one. No condition. -/
import Derived.Test.YtncmppmkchbejaaAng4
namespace Go.Proofs.Ytncmppmkchbejaa
open Go.RowKit
set_option linter.unusedVariables false
set_option linter.unusedSimpArgs false
set_option maxRecDepth 100000
set_option maxHeartbeats 4000000

def wrapM (f : Nat) : Nat := wholeF (fmul f 4594902181429758083)
def wrapY (f : Nat) : Nat := lessF f (wrapM f) 4616189618054758400
def wrapD (y : Nat) : Nat := fsub (fsub y 4618760256179416344) 4373459396149402631
def wrapA (y : Nat) : Nat := fadd (fadd y 4618760256179416344) 4373459396149402631
def wrapZ (y : Nat) : Nat := if flt 4614256656552045848 y then wrapD y else if fle y 13837628693406821656 then wrapA y else y
def wrapE (z : Nat) : Nat := if flt 4614256656552045848 z || fle z 13837628693406821656 then 4614256656552045848 else z
def wrapF (f : Nat) : Nat := if fit f then (if flt 13837628693406821656 f && fle f 4614256656552045848 then f else wrapE (wrapZ (wrapY f))) else nanB
theorem Rep.cw : Rep 4594902181429758083 4594902181429758083 := Rep.self (by decide) (by decide +kernel)
theorem Rep.cNH : Rep 13837628693406821656 13837628693406821656 := Rep.self (by decide) (by decide +kernel)
theorem Rep.c2H : Rep 4618760256179416344 4618760256179416344 := Rep.self (by decide) (by decide +kernel)
theorem Rep.c2L : Rep 4373459396149402631 4373459396149402631 := Rep.self (by decide) (by decide +kernel)
theorem Bd.mk_c {c k : Nat} (h : (c < 18446744073709551616 ∧ Proofs.Ytncmppmkchbejaa.fin c = true ∧ rung c ≤ 4503599627370496 * (1023 + k) ∧ k ≤ 900)) : Bd c k := Bd.const' h.1 h.2.1 h.2.2.1 h.2.2.2
theorem wrapM_bd {f : Nat} (hl : f < 18446744073709551616) (h : fit f = true) : Bd (wrapM f) 20 :=
  (((fit_bd hl h).mul (Bd.mk_c (k := 0) (by decide +kernel)) (by decide)).whole (by decide)).1
theorem less_bd {f m t : Nat} (hf : Bd f 20) (hm : Bd m 20) (ht : Bd t 2) : Bd (lessF f m t) 26 := by
  have p0 : Bd (piece 0) 1 := Bd.mk_c (by decide +kernel)
  have p1 : Bd (piece 1) 1 := Bd.mk_c (by decide +kernel)
  have p2 : Bd (piece 2) 1 := Bd.mk_c (by decide +kernel)
  have a0 := hm.mul (ht.mul p0 (by decide)) (by decide)
  have a1 := hm.mul (ht.mul p1 (by decide)) (by decide)
  have a2 := hm.mul (ht.mul p2 (by decide)) (by decide)
  have b0 := (hf.mono (show 20 ≤ 23 by decide)).sub a0 (by decide)
  have b1 := b0.sub (a1.mono (show 23 ≤ 24 by decide)) (by decide)
  exact b1.sub (a2.mono (show 23 ≤ 25 by decide)) (by decide)
theorem wrapY_bd {f : Nat} (hl : f < 18446744073709551616) (h : fit f = true) : Bd (wrapY f) 26 :=
  less_bd (fit_bd hl h) (wrapM_bd hl h) (Bd.mk_c (by decide +kernel))
theorem Bd.rep {f k : Nat} (h : Bd f k) : Rep f f := Rep.self h.lt (nrm_of_not h.notN)
theorem Bd.subV {a b k : Nat} (h : Bd a k) (h2 : Bd b k) (hk : k + 1 ≤ 900) (w : World) : fres .sub a b w = fsub a b := (h.rep.sub h2.rep).eq_of (h.sub h2 hk).notN
theorem Bd.addV {a b k : Nat} (h : Bd a k) (h2 : Bd b k) (hk : k + 1 ≤ 900) (w : World) : fres .add a b w = fadd a b := (h.rep.add h2.rep).eq_of (h.add h2 hk).notN
theorem not_gt {y c : Nat} (hy : isN y = false) (hc : isN c = false) : (!flt c y) = fle y c := by
  rw [flt_eq, fle_eq, hy, hc, Bool.eq_iff_iff]; simp
theorem nle {y : Nat} (hy : isN y = false) : flt 13837628693406821656 y = !fle y 13837628693406821656 := by
  rw [← not_gt hy (by decide +kernel), Bool.not_not]
section
variable {x y f g : Nat} (hx : Rep x f) (hy : Rep y g) (w : World)
include hx
theorem wrap_c : Calls Try.prog 13 #[.float .f64 x] w (RetG (wrapF f) w) := by
  cases hf : fit f
  · have HF := Lib.hid hf
    go_enter Try.func13, Try.ntmps13
    go_wp2_with (first | (go_at_call 27; refine (fit_c hx _).mono ?_; rintro e w' ⟨n, rfl, rfl⟩) | go_in)
    go_ret
    exact ⟨_, rfl, (by unfold wrapF; rw [if_neg (by rw [HF.out]; simp)]; exact Rep.nanC), (grown_drewN _ _)⟩
  · have HF := Lib.hid hf
    have q1 := hx.gt' Rep.cNH
    have q2 := hx.le' Rep.cpiH
    have m1 : ∀ w, fres .mul 4611686018427387904 4614256656552045848 w = 4618760256179416344 := fun w => by
      have h := Rep.two.mul Rep.cpiH (w := w)
      rw [show fmul 4611686018427387904 4614256656552045848 = 4618760256179416344 by decide +kernel] at h
      exact h.eq_of (by decide +kernel)
    have m2 : ∀ w, fres .mul 4611686018427387904 4368955796522032135 w = 4373459396149402631 := fun w => by
      have h := Rep.two.mul Rep.cpiL (w := w)
      rw [show fmul 4611686018427387904 4368955796522032135 = 4373459396149402631 by decide +kernel] at h
      exact h.eq_of (by decide +kernel)
    have hxor : 4614256656552045848 ^^^ 9223372036854775808 = 13837628693406821656 := by decide +kernel
    cases h1 : (flt 13837628693406821656 f && fle f 4614256656552045848)
    · have HW : wrapF f = wrapE (wrapZ (wrapY f)) := by unfold wrapF; rw [if_pos hf, h1, if_neg (by simp)]
      have HW' := Lib.hid HW
      clear HW
      have HB := Lib.hid (wrapM_bd hx.flt hf)
      have HY := Lib.hid (wrapY_bd hx.flt hf)
      obtain ⟨m, hm⟩ : ∃ m, m = wrapM f := ⟨_, rfl⟩
      obtain ⟨v, hv⟩ : ∃ v, v = wrapY f := ⟨_, rfl⟩
      have HM := Lib.hid hm
      have HV := Lib.hid hv
      rw [← hm] at HB
      rw [← hv] at HY HW'
      have b1 : Bd 4618760256179416344 26 := Bd.mk_c (by decide +kernel)
      have b2 : Bd 4373459396149402631 27 := Bd.mk_c (by decide +kernel)
      have r1 := HY.out.subV b1 (by decide)
      have r2 := HY.out.addV b1 (by decide)
      have r3 := (HY.out.sub b1 (by decide)).subV b2 (by decide)
      have r4 := (HY.out.add b1 (by decide)).addV b2 (by decide)
      have BD := (HY.out.sub b1 (by decide)).sub b2 (by decide)
      have BA := (HY.out.add b1 (by decide)).add b2 (by decide)
      have e3 := HY.out.rep.gt' Rep.cpiH
      have e5 := BD.rep.gt' Rep.cpiH
      have e7 := BA.rep.gt' Rep.cpiH
      have e4 := HY.out.rep.le' Rep.cNH
      have e6 := BD.rep.le' Rep.cNH
      have e8 := BA.rep.le' Rep.cNH
      have hWZ := Lib.hid (show wrapE (wrapZ v) = wrapE (wrapZ v) from rfl)
      have HBD := Lib.hid BD
      have HBA := Lib.hid BA
      have hmR : Rep m m := HB.out.rep
      have HV2 : RowKit.Hid (lessF f m 4616189618054758400 = v) := Lib.hid (by rw [HV.out, HM.out]; rfl)
      clear hm hv b1 b2 BD BA
      generalize hs1 : fsub v 4618760256179416344 = s1 at r1 r3 e5 e6 HBD
      generalize hs2 : fsub s1 4373459396149402631 = s2 at r3 e5 e6 HBD
      generalize ht1 : fadd v 4618760256179416344 = t1 at r2 r4 e7 e8 HBA
      generalize ht2 : fadd t1 4373459396149402631 = t2 at r4 e7 e8 HBA
      have HD : RowKit.Hid (wrapD v = s2) := Lib.hid (by unfold wrapD; rw [hs1, hs2])
      have HA : RowKit.Hid (wrapA v = t2) := Lib.hid (by unfold wrapA; rw [ht1, ht2])
      clear hs1 hs2 ht1 ht2
      have hvR := Lib.hid HY.out.rep
      have hfin : ∀ z, wrapZ v = z → RowKit.Hid (wrapF f = wrapE z) := fun z hz => Lib.hid (by rw [HW'.out, hz])
      have hab : flt 13837628693406821656 f = false ∨ (flt 13837628693406821656 f = true ∧ fle f 4614256656552045848 = false) := by
        cases ha : flt 13837628693406821656 f
        · exact .inl rfl
        · rw [ha] at h1; exact .inr ⟨rfl, by simpa using h1⟩
      clear h1
      rcases hab with ha | ⟨ha, hb⟩
      all_goals
        rw [ha] at q1
        try rw [hb] at q2
        have ha' := Lib.hid ha
        clear ha
        try clear hb
        cases c1 : flt 4614256656552045848 v <;> cases c2 : fle v 13837628693406821656
        all_goals
          have C1 := Lib.hid c1
          have C2 := Lib.hid c2
          rw [c1] at e3
          rw [c2] at e4
          clear c1 c2
        · have HZ := Lib.hid (hfin v (by unfold wrapZ; rw [if_neg (by rw [C1.out]; simp), if_neg (by rw [C2.out]; simp)])).out
          have HE : RowKit.Hid (wrapF f = v) := Lib.hid (by rw [HZ.out]; unfold wrapE; rw [C1.out, C2.out, if_neg (by simp)])
          go_enter Try.func13, Try.ntmps13
          go_wp2_with (first | (go_at_call 27; refine (fit_c hx _).mono ?_; rw [HF.out]; rintro e w' ⟨n, rfl, rfl⟩) | (go_at_call 29; refine (whole_c (hx.mul Rep.cw) _).mono ?_; rintro e w' ⟨r, n, rfl, hr, rfl⟩; obtain rfl : m = r := ((hr.eq_of (by have := HB.out.notN; rw [HM.out] at this; exact this)).trans HM.out.symm).symm) | (go_at_call 31; refine (less_c hx hmR Rep.c4 _).mono ?_; rintro e w' ⟨r2, rfl, hr2, hg⟩; obtain rfl : v = r2 := ((hr2.eq_of (by rw [HV2.out]; exact HY.out.notN)).trans HV2.out).symm) | go_in)
          go_ret
          exact ⟨_, rfl, (by rw [HE.out]; exact hvR.out), (id hg)⟩
        · have HZ := Lib.hid (hfin t2 (by unfold wrapZ; rw [if_neg (by rw [C1.out]; simp), if_pos C2.out, HA.out])).out
          cases D1 : flt 4614256656552045848 t2 <;> cases D2 : fle t2 13837628693406821656
          · have HE : RowKit.Hid (wrapF f = t2) := Lib.hid (by rw [HZ.out]; unfold wrapE; rw [D1, D2, if_neg (by simp)])
            rw [D1] at e7
            rw [D2] at e8
            clear D1 D2
            go_enter Try.func13, Try.ntmps13
            go_wp2_with (first | (go_at_call 27; refine (fit_c hx _).mono ?_; rw [HF.out]; rintro e w' ⟨n, rfl, rfl⟩) | (go_at_call 29; refine (whole_c (hx.mul Rep.cw) _).mono ?_; rintro e w' ⟨r, n, rfl, hr, rfl⟩; obtain rfl : m = r := ((hr.eq_of (by have := HB.out.notN; rw [HM.out] at this; exact this)).trans HM.out.symm).symm) | (go_at_call 31; refine (less_c hx hmR Rep.c4 _).mono ?_; rintro e w' ⟨r2, rfl, hr2, hg⟩; obtain rfl : v = r2 := ((hr2.eq_of (by rw [HV2.out]; exact HY.out.notN)).trans HV2.out).symm) | go_in)
            go_ret
            exact ⟨_, rfl, (by rw [HE.out]; exact HBA.out.rep), (grown_drewN' _ hg)⟩
          · have HE : RowKit.Hid (wrapF f = 4614256656552045848) := Lib.hid (by rw [HZ.out]; unfold wrapE; rw [D1, D2, if_pos (by simp)])
            rw [D1] at e7
            rw [D2] at e8
            clear D1 D2
            go_enter Try.func13, Try.ntmps13
            go_wp2_with (first | (go_at_call 27; refine (fit_c hx _).mono ?_; rw [HF.out]; rintro e w' ⟨n, rfl, rfl⟩) | (go_at_call 29; refine (whole_c (hx.mul Rep.cw) _).mono ?_; rintro e w' ⟨r, n, rfl, hr, rfl⟩; obtain rfl : m = r := ((hr.eq_of (by have := HB.out.notN; rw [HM.out] at this; exact this)).trans HM.out.symm).symm) | (go_at_call 31; refine (less_c hx hmR Rep.c4 _).mono ?_; rintro e w' ⟨r2, rfl, hr2, hg⟩; obtain rfl : v = r2 := ((hr2.eq_of (by rw [HV2.out]; exact HY.out.notN)).trans HV2.out).symm) | go_in)
            go_ret
            exact ⟨_, rfl, (by rw [HE.out]; exact Rep.cpiH), (grown_drewN' _ hg)⟩
          · have HE : RowKit.Hid (wrapF f = 4614256656552045848) := Lib.hid (by rw [HZ.out]; unfold wrapE; rw [D1, D2, if_pos (by simp)])
            rw [D1] at e7
            rw [D2] at e8
            clear D1 D2
            go_enter Try.func13, Try.ntmps13
            go_wp2_with (first | (go_at_call 27; refine (fit_c hx _).mono ?_; rw [HF.out]; rintro e w' ⟨n, rfl, rfl⟩) | (go_at_call 29; refine (whole_c (hx.mul Rep.cw) _).mono ?_; rintro e w' ⟨r, n, rfl, hr, rfl⟩; obtain rfl : m = r := ((hr.eq_of (by have := HB.out.notN; rw [HM.out] at this; exact this)).trans HM.out.symm).symm) | (go_at_call 31; refine (less_c hx hmR Rep.c4 _).mono ?_; rintro e w' ⟨r2, rfl, hr2, hg⟩; obtain rfl : v = r2 := ((hr2.eq_of (by rw [HV2.out]; exact HY.out.notN)).trans HV2.out).symm) | go_in)
            go_ret
            exact ⟨_, rfl, (by rw [HE.out]; exact Rep.cpiH), (grown_drewN' _ hg)⟩
          · have HE : RowKit.Hid (wrapF f = 4614256656552045848) := Lib.hid (by rw [HZ.out]; unfold wrapE; rw [D1, D2, if_pos (by simp)])
            rw [D1] at e7
            rw [D2] at e8
            clear D1 D2
            go_enter Try.func13, Try.ntmps13
            go_wp2_with (first | (go_at_call 27; refine (fit_c hx _).mono ?_; rw [HF.out]; rintro e w' ⟨n, rfl, rfl⟩) | (go_at_call 29; refine (whole_c (hx.mul Rep.cw) _).mono ?_; rintro e w' ⟨r, n, rfl, hr, rfl⟩; obtain rfl : m = r := ((hr.eq_of (by have := HB.out.notN; rw [HM.out] at this; exact this)).trans HM.out.symm).symm) | (go_at_call 31; refine (less_c hx hmR Rep.c4 _).mono ?_; rintro e w' ⟨r2, rfl, hr2, hg⟩; obtain rfl : v = r2 := ((hr2.eq_of (by rw [HV2.out]; exact HY.out.notN)).trans HV2.out).symm) | go_in)
            go_ret
            exact ⟨_, rfl, (by rw [HE.out]; exact Rep.cpiH), (grown_drewN' _ hg)⟩
        · have HZ := Lib.hid (hfin s2 (by unfold wrapZ; rw [if_pos C1.out, HD.out])).out
          cases D1 : flt 4614256656552045848 s2 <;> cases D2 : fle s2 13837628693406821656
          · have HE : RowKit.Hid (wrapF f = s2) := Lib.hid (by rw [HZ.out]; unfold wrapE; rw [D1, D2, if_neg (by simp)])
            rw [D1] at e5
            rw [D2] at e6
            clear D1 D2
            go_enter Try.func13, Try.ntmps13
            go_wp2_with (first | (go_at_call 27; refine (fit_c hx _).mono ?_; rw [HF.out]; rintro e w' ⟨n, rfl, rfl⟩) | (go_at_call 29; refine (whole_c (hx.mul Rep.cw) _).mono ?_; rintro e w' ⟨r, n, rfl, hr, rfl⟩; obtain rfl : m = r := ((hr.eq_of (by have := HB.out.notN; rw [HM.out] at this; exact this)).trans HM.out.symm).symm) | (go_at_call 31; refine (less_c hx hmR Rep.c4 _).mono ?_; rintro e w' ⟨r2, rfl, hr2, hg⟩; obtain rfl : v = r2 := ((hr2.eq_of (by rw [HV2.out]; exact HY.out.notN)).trans HV2.out).symm) | go_in)
            go_ret
            exact ⟨_, rfl, (by rw [HE.out]; exact HBD.out.rep), (grown_drewN' _ hg)⟩
          · have HE : RowKit.Hid (wrapF f = 4614256656552045848) := Lib.hid (by rw [HZ.out]; unfold wrapE; rw [D1, D2, if_pos (by simp)])
            rw [D1] at e5
            rw [D2] at e6
            clear D1 D2
            go_enter Try.func13, Try.ntmps13
            go_wp2_with (first | (go_at_call 27; refine (fit_c hx _).mono ?_; rw [HF.out]; rintro e w' ⟨n, rfl, rfl⟩) | (go_at_call 29; refine (whole_c (hx.mul Rep.cw) _).mono ?_; rintro e w' ⟨r, n, rfl, hr, rfl⟩; obtain rfl : m = r := ((hr.eq_of (by have := HB.out.notN; rw [HM.out] at this; exact this)).trans HM.out.symm).symm) | (go_at_call 31; refine (less_c hx hmR Rep.c4 _).mono ?_; rintro e w' ⟨r2, rfl, hr2, hg⟩; obtain rfl : v = r2 := ((hr2.eq_of (by rw [HV2.out]; exact HY.out.notN)).trans HV2.out).symm) | go_in)
            go_ret
            exact ⟨_, rfl, (by rw [HE.out]; exact Rep.cpiH), (grown_drewN' _ hg)⟩
          · have HE : RowKit.Hid (wrapF f = 4614256656552045848) := Lib.hid (by rw [HZ.out]; unfold wrapE; rw [D1, D2, if_pos (by simp)])
            rw [D1] at e5
            rw [D2] at e6
            clear D1 D2
            go_enter Try.func13, Try.ntmps13
            go_wp2_with (first | (go_at_call 27; refine (fit_c hx _).mono ?_; rw [HF.out]; rintro e w' ⟨n, rfl, rfl⟩) | (go_at_call 29; refine (whole_c (hx.mul Rep.cw) _).mono ?_; rintro e w' ⟨r, n, rfl, hr, rfl⟩; obtain rfl : m = r := ((hr.eq_of (by have := HB.out.notN; rw [HM.out] at this; exact this)).trans HM.out.symm).symm) | (go_at_call 31; refine (less_c hx hmR Rep.c4 _).mono ?_; rintro e w' ⟨r2, rfl, hr2, hg⟩; obtain rfl : v = r2 := ((hr2.eq_of (by rw [HV2.out]; exact HY.out.notN)).trans HV2.out).symm) | go_in)
            go_ret
            exact ⟨_, rfl, (by rw [HE.out]; exact Rep.cpiH), (grown_drewN' _ hg)⟩
          · have HE : RowKit.Hid (wrapF f = 4614256656552045848) := Lib.hid (by rw [HZ.out]; unfold wrapE; rw [D1, D2, if_pos (by simp)])
            rw [D1] at e5
            rw [D2] at e6
            clear D1 D2
            go_enter Try.func13, Try.ntmps13
            go_wp2_with (first | (go_at_call 27; refine (fit_c hx _).mono ?_; rw [HF.out]; rintro e w' ⟨n, rfl, rfl⟩) | (go_at_call 29; refine (whole_c (hx.mul Rep.cw) _).mono ?_; rintro e w' ⟨r, n, rfl, hr, rfl⟩; obtain rfl : m = r := ((hr.eq_of (by have := HB.out.notN; rw [HM.out] at this; exact this)).trans HM.out.symm).symm) | (go_at_call 31; refine (less_c hx hmR Rep.c4 _).mono ?_; rintro e w' ⟨r2, rfl, hr2, hg⟩; obtain rfl : v = r2 := ((hr2.eq_of (by rw [HV2.out]; exact HY.out.notN)).trans HV2.out).symm) | go_in)
            go_ret
            exact ⟨_, rfl, (by rw [HE.out]; exact Rep.cpiH), (grown_drewN' _ hg)⟩
        · have HZ := Lib.hid (hfin s2 (by unfold wrapZ; rw [if_pos C1.out, HD.out])).out
          cases D1 : flt 4614256656552045848 s2 <;> cases D2 : fle s2 13837628693406821656
          · have HE : RowKit.Hid (wrapF f = s2) := Lib.hid (by rw [HZ.out]; unfold wrapE; rw [D1, D2, if_neg (by simp)])
            rw [D1] at e5
            rw [D2] at e6
            clear D1 D2
            go_enter Try.func13, Try.ntmps13
            go_wp2_with (first | (go_at_call 27; refine (fit_c hx _).mono ?_; rw [HF.out]; rintro e w' ⟨n, rfl, rfl⟩) | (go_at_call 29; refine (whole_c (hx.mul Rep.cw) _).mono ?_; rintro e w' ⟨r, n, rfl, hr, rfl⟩; obtain rfl : m = r := ((hr.eq_of (by have := HB.out.notN; rw [HM.out] at this; exact this)).trans HM.out.symm).symm) | (go_at_call 31; refine (less_c hx hmR Rep.c4 _).mono ?_; rintro e w' ⟨r2, rfl, hr2, hg⟩; obtain rfl : v = r2 := ((hr2.eq_of (by rw [HV2.out]; exact HY.out.notN)).trans HV2.out).symm) | go_in)
            go_ret
            exact ⟨_, rfl, (by rw [HE.out]; exact HBD.out.rep), (grown_drewN' _ hg)⟩
          · have HE : RowKit.Hid (wrapF f = 4614256656552045848) := Lib.hid (by rw [HZ.out]; unfold wrapE; rw [D1, D2, if_pos (by simp)])
            rw [D1] at e5
            rw [D2] at e6
            clear D1 D2
            go_enter Try.func13, Try.ntmps13
            go_wp2_with (first | (go_at_call 27; refine (fit_c hx _).mono ?_; rw [HF.out]; rintro e w' ⟨n, rfl, rfl⟩) | (go_at_call 29; refine (whole_c (hx.mul Rep.cw) _).mono ?_; rintro e w' ⟨r, n, rfl, hr, rfl⟩; obtain rfl : m = r := ((hr.eq_of (by have := HB.out.notN; rw [HM.out] at this; exact this)).trans HM.out.symm).symm) | (go_at_call 31; refine (less_c hx hmR Rep.c4 _).mono ?_; rintro e w' ⟨r2, rfl, hr2, hg⟩; obtain rfl : v = r2 := ((hr2.eq_of (by rw [HV2.out]; exact HY.out.notN)).trans HV2.out).symm) | go_in)
            go_ret
            exact ⟨_, rfl, (by rw [HE.out]; exact Rep.cpiH), (grown_drewN' _ hg)⟩
          · have HE : RowKit.Hid (wrapF f = 4614256656552045848) := Lib.hid (by rw [HZ.out]; unfold wrapE; rw [D1, D2, if_pos (by simp)])
            rw [D1] at e5
            rw [D2] at e6
            clear D1 D2
            go_enter Try.func13, Try.ntmps13
            go_wp2_with (first | (go_at_call 27; refine (fit_c hx _).mono ?_; rw [HF.out]; rintro e w' ⟨n, rfl, rfl⟩) | (go_at_call 29; refine (whole_c (hx.mul Rep.cw) _).mono ?_; rintro e w' ⟨r, n, rfl, hr, rfl⟩; obtain rfl : m = r := ((hr.eq_of (by have := HB.out.notN; rw [HM.out] at this; exact this)).trans HM.out.symm).symm) | (go_at_call 31; refine (less_c hx hmR Rep.c4 _).mono ?_; rintro e w' ⟨r2, rfl, hr2, hg⟩; obtain rfl : v = r2 := ((hr2.eq_of (by rw [HV2.out]; exact HY.out.notN)).trans HV2.out).symm) | go_in)
            go_ret
            exact ⟨_, rfl, (by rw [HE.out]; exact Rep.cpiH), (grown_drewN' _ hg)⟩
          · have HE : RowKit.Hid (wrapF f = 4614256656552045848) := Lib.hid (by rw [HZ.out]; unfold wrapE; rw [D1, D2, if_pos (by simp)])
            rw [D1] at e5
            rw [D2] at e6
            clear D1 D2
            go_enter Try.func13, Try.ntmps13
            go_wp2_with (first | (go_at_call 27; refine (fit_c hx _).mono ?_; rw [HF.out]; rintro e w' ⟨n, rfl, rfl⟩) | (go_at_call 29; refine (whole_c (hx.mul Rep.cw) _).mono ?_; rintro e w' ⟨r, n, rfl, hr, rfl⟩; obtain rfl : m = r := ((hr.eq_of (by have := HB.out.notN; rw [HM.out] at this; exact this)).trans HM.out.symm).symm) | (go_at_call 31; refine (less_c hx hmR Rep.c4 _).mono ?_; rintro e w' ⟨r2, rfl, hr2, hg⟩; obtain rfl : v = r2 := ((hr2.eq_of (by rw [HV2.out]; exact HY.out.notN)).trans HV2.out).symm) | go_in)
            go_ret
            exact ⟨_, rfl, (by rw [HE.out]; exact Rep.cpiH), (grown_drewN' _ hg)⟩
    · have HW : wrapF f = f := by unfold wrapF; rw [if_pos hf, if_pos h1]
      have HW' := Lib.hid HW
      clear HW
      have ha : flt 13837628693406821656 f = true := by cases h : flt 13837628693406821656 f <;> simp [h] at h1 ⊢
      have hb : fle f 4614256656552045848 = true := by cases h : fle f 4614256656552045848 <;> simp [h] at h1 ⊢
      go_enter Try.func13, Try.ntmps13
      go_wp2_with (first | (go_at_call 27; refine (fit_c hx _).mono ?_; rintro e w' ⟨n, rfl, rfl⟩) | go_in)
      go_ret
      exact ⟨_, rfl, (by rw [HW'.out]; exact hx), (grown_drewN _ _)⟩
theorem refWrap_c : Calls Try.prog 14 #[.float .f64 x] w (RetF (wrapF f) w) := by
  cases hf : fit f
  · have HF := Lib.hid hf
    go_enter Try.func14, Try.ntmps14
    go_wp2_with (first | (go_at_call 23; refine (refFit_c hx _).mono ?_; rintro e w' ⟨n, rfl, rfl⟩) | go_in)
    go_ret
    exact RetF.mk _ (by unfold wrapF; rw [if_neg (by rw [HF.out]; simp)]; exact Rep.nanC)
  · have HF := Lib.hid hf
    have q1 := hx.gt' Rep.cNH
    have q2 := hx.le' Rep.cpiH
    have m1 : ∀ w, fres .mul 4611686018427387904 4614256656552045848 w = 4618760256179416344 := fun w => by
      have h := Rep.two.mul Rep.cpiH (w := w)
      rw [show fmul 4611686018427387904 4614256656552045848 = 4618760256179416344 by decide +kernel] at h
      exact h.eq_of (by decide +kernel)
    have m2 : ∀ w, fres .mul 4611686018427387904 4368955796522032135 w = 4373459396149402631 := fun w => by
      have h := Rep.two.mul Rep.cpiL (w := w)
      rw [show fmul 4611686018427387904 4368955796522032135 = 4373459396149402631 by decide +kernel] at h
      exact h.eq_of (by decide +kernel)
    have hxor : 4614256656552045848 ^^^ 9223372036854775808 = 13837628693406821656 := by decide +kernel
    cases h1 : (flt 13837628693406821656 f && fle f 4614256656552045848)
    · have HW : wrapF f = wrapE (wrapZ (wrapY f)) := by unfold wrapF; rw [if_pos hf, h1, if_neg (by simp)]
      have HW' := Lib.hid HW
      clear HW
      have HB := Lib.hid (wrapM_bd hx.flt hf)
      have HY := Lib.hid (wrapY_bd hx.flt hf)
      obtain ⟨m, hm⟩ : ∃ m, m = wrapM f := ⟨_, rfl⟩
      obtain ⟨v, hv⟩ : ∃ v, v = wrapY f := ⟨_, rfl⟩
      have HM := Lib.hid hm
      have HV := Lib.hid hv
      rw [← hm] at HB
      rw [← hv] at HY HW'
      have b1 : Bd 4618760256179416344 26 := Bd.mk_c (by decide +kernel)
      have b2 : Bd 4373459396149402631 27 := Bd.mk_c (by decide +kernel)
      have r1 := HY.out.subV b1 (by decide)
      have r2 := HY.out.addV b1 (by decide)
      have r3 := (HY.out.sub b1 (by decide)).subV b2 (by decide)
      have r4 := (HY.out.add b1 (by decide)).addV b2 (by decide)
      have BD := (HY.out.sub b1 (by decide)).sub b2 (by decide)
      have BA := (HY.out.add b1 (by decide)).add b2 (by decide)
      have e3 := HY.out.rep.gt' Rep.cpiH
      have e5 := BD.rep.gt' Rep.cpiH
      have e7 := BA.rep.gt' Rep.cpiH
      have e4 := (HY.out.rep.gt' Rep.cNH).trans (nle HY.out.notN)
      have e6 := (BD.rep.gt' Rep.cNH).trans (nle BD.notN)
      have e8 := (BA.rep.gt' Rep.cNH).trans (nle BA.notN)
      have hWZ := Lib.hid (show wrapE (wrapZ v) = wrapE (wrapZ v) from rfl)
      have HBD := Lib.hid BD
      have HBA := Lib.hid BA
      have hmR : Rep m m := HB.out.rep
      have HV2 : RowKit.Hid (lessF f m 4616189618054758400 = v) := Lib.hid (by rw [HV.out, HM.out]; rfl)
      clear hm hv b1 b2 BD BA
      generalize hs1 : fsub v 4618760256179416344 = s1 at r1 r3 e5 e6 HBD
      generalize hs2 : fsub s1 4373459396149402631 = s2 at r3 e5 e6 HBD
      generalize ht1 : fadd v 4618760256179416344 = t1 at r2 r4 e7 e8 HBA
      generalize ht2 : fadd t1 4373459396149402631 = t2 at r4 e7 e8 HBA
      have HD : RowKit.Hid (wrapD v = s2) := Lib.hid (by unfold wrapD; rw [hs1, hs2])
      have HA : RowKit.Hid (wrapA v = t2) := Lib.hid (by unfold wrapA; rw [ht1, ht2])
      clear hs1 hs2 ht1 ht2
      have hvR := Lib.hid HY.out.rep
      have hfin : ∀ z, wrapZ v = z → RowKit.Hid (wrapF f = wrapE z) := fun z hz => Lib.hid (by rw [HW'.out, hz])
      have hab : flt 13837628693406821656 f = false ∨ (flt 13837628693406821656 f = true ∧ fle f 4614256656552045848 = false) := by
        cases ha : flt 13837628693406821656 f
        · exact .inl rfl
        · rw [ha] at h1; exact .inr ⟨rfl, by simpa using h1⟩
      clear h1
      rcases hab with ha | ⟨ha, hb⟩
      all_goals
        rw [ha] at q1
        try rw [hb] at q2
        have ha' := Lib.hid ha
        clear ha
        try clear hb
        cases c1 : flt 4614256656552045848 v <;> cases c2 : fle v 13837628693406821656
        all_goals
          have C1 := Lib.hid c1
          have C2 := Lib.hid c2
          rw [c1] at e3
          rw [c2] at e4
          simp only [Bool.not_true, Bool.not_false] at e4
          clear c1 c2
        · have HZ := Lib.hid (hfin v (by unfold wrapZ; rw [if_neg (by rw [C1.out]; simp), if_neg (by rw [C2.out]; simp)])).out
          have HE : RowKit.Hid (wrapF f = v) := Lib.hid (by rw [HZ.out]; unfold wrapE; rw [C1.out, C2.out, if_neg (by simp)])
          go_enter Try.func14, Try.ntmps14
          go_wp2_with (first | (go_at_call 23; refine (refFit_c hx _).mono ?_; rw [HF.out]; rintro e w' ⟨n, rfl, rfl⟩) | (go_at_call 32; refine (refWhole_c (hx.mul Rep.cw) _).mono ?_; rintro e w' ⟨r, n, rfl, hr, rfl⟩; obtain rfl : m = r := ((hr.eq_of (by have := HB.out.notN; rw [HM.out] at this; exact this)).trans HM.out.symm).symm) | (go_at_call 34; refine (refLess_c hx hmR Rep.c4 _).mono ?_; rintro e w' ⟨r2, n2, rfl, hr2, rfl⟩; obtain rfl : v = r2 := ((hr2.eq_of (by rw [HV2.out]; exact HY.out.notN)).trans HV2.out).symm) | go_in)
          go_ret
          exact RetF.mk _ (by rw [HE.out]; exact hvR.out)
        · have HZ := Lib.hid (hfin t2 (by unfold wrapZ; rw [if_neg (by rw [C1.out]; simp), if_pos C2.out, HA.out])).out
          cases D1 : flt 4614256656552045848 t2 <;> cases D2 : fle t2 13837628693406821656
          · have HE : RowKit.Hid (wrapF f = t2) := Lib.hid (by rw [HZ.out]; unfold wrapE; rw [D1, D2, if_neg (by simp)])
            rw [D1] at e7
            rw [D2] at e8
            simp only [Bool.not_true, Bool.not_false] at e8
            clear D1 D2
            go_enter Try.func14, Try.ntmps14
            go_wp2_with (first | (go_at_call 23; refine (refFit_c hx _).mono ?_; rw [HF.out]; rintro e w' ⟨n, rfl, rfl⟩) | (go_at_call 32; refine (refWhole_c (hx.mul Rep.cw) _).mono ?_; rintro e w' ⟨r, n, rfl, hr, rfl⟩; obtain rfl : m = r := ((hr.eq_of (by have := HB.out.notN; rw [HM.out] at this; exact this)).trans HM.out.symm).symm) | (go_at_call 34; refine (refLess_c hx hmR Rep.c4 _).mono ?_; rintro e w' ⟨r2, n2, rfl, hr2, rfl⟩; obtain rfl : v = r2 := ((hr2.eq_of (by rw [HV2.out]; exact HY.out.notN)).trans HV2.out).symm) | go_in)
            go_ret
            exact RetF.mk _ (by rw [HE.out]; exact HBA.out.rep)
          · have HE : RowKit.Hid (wrapF f = 4614256656552045848) := Lib.hid (by rw [HZ.out]; unfold wrapE; rw [D1, D2, if_pos (by simp)])
            rw [D1] at e7
            rw [D2] at e8
            simp only [Bool.not_true, Bool.not_false] at e8
            clear D1 D2
            go_enter Try.func14, Try.ntmps14
            go_wp2_with (first | (go_at_call 23; refine (refFit_c hx _).mono ?_; rw [HF.out]; rintro e w' ⟨n, rfl, rfl⟩) | (go_at_call 32; refine (refWhole_c (hx.mul Rep.cw) _).mono ?_; rintro e w' ⟨r, n, rfl, hr, rfl⟩; obtain rfl : m = r := ((hr.eq_of (by have := HB.out.notN; rw [HM.out] at this; exact this)).trans HM.out.symm).symm) | (go_at_call 34; refine (refLess_c hx hmR Rep.c4 _).mono ?_; rintro e w' ⟨r2, n2, rfl, hr2, rfl⟩; obtain rfl : v = r2 := ((hr2.eq_of (by rw [HV2.out]; exact HY.out.notN)).trans HV2.out).symm) | go_in)
            go_ret
            exact RetF.mk _ (by rw [HE.out]; exact Rep.cpiH)
          · have HE : RowKit.Hid (wrapF f = 4614256656552045848) := Lib.hid (by rw [HZ.out]; unfold wrapE; rw [D1, D2, if_pos (by simp)])
            rw [D1] at e7
            rw [D2] at e8
            simp only [Bool.not_true, Bool.not_false] at e8
            clear D1 D2
            go_enter Try.func14, Try.ntmps14
            go_wp2_with (first | (go_at_call 23; refine (refFit_c hx _).mono ?_; rw [HF.out]; rintro e w' ⟨n, rfl, rfl⟩) | (go_at_call 32; refine (refWhole_c (hx.mul Rep.cw) _).mono ?_; rintro e w' ⟨r, n, rfl, hr, rfl⟩; obtain rfl : m = r := ((hr.eq_of (by have := HB.out.notN; rw [HM.out] at this; exact this)).trans HM.out.symm).symm) | (go_at_call 34; refine (refLess_c hx hmR Rep.c4 _).mono ?_; rintro e w' ⟨r2, n2, rfl, hr2, rfl⟩; obtain rfl : v = r2 := ((hr2.eq_of (by rw [HV2.out]; exact HY.out.notN)).trans HV2.out).symm) | go_in)
            go_ret
            exact RetF.mk _ (by rw [HE.out]; exact Rep.cpiH)
          · have HE : RowKit.Hid (wrapF f = 4614256656552045848) := Lib.hid (by rw [HZ.out]; unfold wrapE; rw [D1, D2, if_pos (by simp)])
            rw [D1] at e7
            rw [D2] at e8
            simp only [Bool.not_true, Bool.not_false] at e8
            clear D1 D2
            go_enter Try.func14, Try.ntmps14
            go_wp2_with (first | (go_at_call 23; refine (refFit_c hx _).mono ?_; rw [HF.out]; rintro e w' ⟨n, rfl, rfl⟩) | (go_at_call 32; refine (refWhole_c (hx.mul Rep.cw) _).mono ?_; rintro e w' ⟨r, n, rfl, hr, rfl⟩; obtain rfl : m = r := ((hr.eq_of (by have := HB.out.notN; rw [HM.out] at this; exact this)).trans HM.out.symm).symm) | (go_at_call 34; refine (refLess_c hx hmR Rep.c4 _).mono ?_; rintro e w' ⟨r2, n2, rfl, hr2, rfl⟩; obtain rfl : v = r2 := ((hr2.eq_of (by rw [HV2.out]; exact HY.out.notN)).trans HV2.out).symm) | go_in)
            go_ret
            exact RetF.mk _ (by rw [HE.out]; exact Rep.cpiH)
        · have HZ := Lib.hid (hfin s2 (by unfold wrapZ; rw [if_pos C1.out, HD.out])).out
          cases D1 : flt 4614256656552045848 s2 <;> cases D2 : fle s2 13837628693406821656
          · have HE : RowKit.Hid (wrapF f = s2) := Lib.hid (by rw [HZ.out]; unfold wrapE; rw [D1, D2, if_neg (by simp)])
            rw [D1] at e5
            rw [D2] at e6
            simp only [Bool.not_true, Bool.not_false] at e6
            clear D1 D2
            go_enter Try.func14, Try.ntmps14
            go_wp2_with (first | (go_at_call 23; refine (refFit_c hx _).mono ?_; rw [HF.out]; rintro e w' ⟨n, rfl, rfl⟩) | (go_at_call 32; refine (refWhole_c (hx.mul Rep.cw) _).mono ?_; rintro e w' ⟨r, n, rfl, hr, rfl⟩; obtain rfl : m = r := ((hr.eq_of (by have := HB.out.notN; rw [HM.out] at this; exact this)).trans HM.out.symm).symm) | (go_at_call 34; refine (refLess_c hx hmR Rep.c4 _).mono ?_; rintro e w' ⟨r2, n2, rfl, hr2, rfl⟩; obtain rfl : v = r2 := ((hr2.eq_of (by rw [HV2.out]; exact HY.out.notN)).trans HV2.out).symm) | go_in)
            go_ret
            exact RetF.mk _ (by rw [HE.out]; exact HBD.out.rep)
          · have HE : RowKit.Hid (wrapF f = 4614256656552045848) := Lib.hid (by rw [HZ.out]; unfold wrapE; rw [D1, D2, if_pos (by simp)])
            rw [D1] at e5
            rw [D2] at e6
            simp only [Bool.not_true, Bool.not_false] at e6
            clear D1 D2
            go_enter Try.func14, Try.ntmps14
            go_wp2_with (first | (go_at_call 23; refine (refFit_c hx _).mono ?_; rw [HF.out]; rintro e w' ⟨n, rfl, rfl⟩) | (go_at_call 32; refine (refWhole_c (hx.mul Rep.cw) _).mono ?_; rintro e w' ⟨r, n, rfl, hr, rfl⟩; obtain rfl : m = r := ((hr.eq_of (by have := HB.out.notN; rw [HM.out] at this; exact this)).trans HM.out.symm).symm) | (go_at_call 34; refine (refLess_c hx hmR Rep.c4 _).mono ?_; rintro e w' ⟨r2, n2, rfl, hr2, rfl⟩; obtain rfl : v = r2 := ((hr2.eq_of (by rw [HV2.out]; exact HY.out.notN)).trans HV2.out).symm) | go_in)
            go_ret
            exact RetF.mk _ (by rw [HE.out]; exact Rep.cpiH)
          · have HE : RowKit.Hid (wrapF f = 4614256656552045848) := Lib.hid (by rw [HZ.out]; unfold wrapE; rw [D1, D2, if_pos (by simp)])
            rw [D1] at e5
            rw [D2] at e6
            simp only [Bool.not_true, Bool.not_false] at e6
            clear D1 D2
            go_enter Try.func14, Try.ntmps14
            go_wp2_with (first | (go_at_call 23; refine (refFit_c hx _).mono ?_; rw [HF.out]; rintro e w' ⟨n, rfl, rfl⟩) | (go_at_call 32; refine (refWhole_c (hx.mul Rep.cw) _).mono ?_; rintro e w' ⟨r, n, rfl, hr, rfl⟩; obtain rfl : m = r := ((hr.eq_of (by have := HB.out.notN; rw [HM.out] at this; exact this)).trans HM.out.symm).symm) | (go_at_call 34; refine (refLess_c hx hmR Rep.c4 _).mono ?_; rintro e w' ⟨r2, n2, rfl, hr2, rfl⟩; obtain rfl : v = r2 := ((hr2.eq_of (by rw [HV2.out]; exact HY.out.notN)).trans HV2.out).symm) | go_in)
            go_ret
            exact RetF.mk _ (by rw [HE.out]; exact Rep.cpiH)
          · have HE : RowKit.Hid (wrapF f = 4614256656552045848) := Lib.hid (by rw [HZ.out]; unfold wrapE; rw [D1, D2, if_pos (by simp)])
            rw [D1] at e5
            rw [D2] at e6
            simp only [Bool.not_true, Bool.not_false] at e6
            clear D1 D2
            go_enter Try.func14, Try.ntmps14
            go_wp2_with (first | (go_at_call 23; refine (refFit_c hx _).mono ?_; rw [HF.out]; rintro e w' ⟨n, rfl, rfl⟩) | (go_at_call 32; refine (refWhole_c (hx.mul Rep.cw) _).mono ?_; rintro e w' ⟨r, n, rfl, hr, rfl⟩; obtain rfl : m = r := ((hr.eq_of (by have := HB.out.notN; rw [HM.out] at this; exact this)).trans HM.out.symm).symm) | (go_at_call 34; refine (refLess_c hx hmR Rep.c4 _).mono ?_; rintro e w' ⟨r2, n2, rfl, hr2, rfl⟩; obtain rfl : v = r2 := ((hr2.eq_of (by rw [HV2.out]; exact HY.out.notN)).trans HV2.out).symm) | go_in)
            go_ret
            exact RetF.mk _ (by rw [HE.out]; exact Rep.cpiH)
        · have HZ := Lib.hid (hfin s2 (by unfold wrapZ; rw [if_pos C1.out, HD.out])).out
          cases D1 : flt 4614256656552045848 s2 <;> cases D2 : fle s2 13837628693406821656
          · have HE : RowKit.Hid (wrapF f = s2) := Lib.hid (by rw [HZ.out]; unfold wrapE; rw [D1, D2, if_neg (by simp)])
            rw [D1] at e5
            rw [D2] at e6
            simp only [Bool.not_true, Bool.not_false] at e6
            clear D1 D2
            go_enter Try.func14, Try.ntmps14
            go_wp2_with (first | (go_at_call 23; refine (refFit_c hx _).mono ?_; rw [HF.out]; rintro e w' ⟨n, rfl, rfl⟩) | (go_at_call 32; refine (refWhole_c (hx.mul Rep.cw) _).mono ?_; rintro e w' ⟨r, n, rfl, hr, rfl⟩; obtain rfl : m = r := ((hr.eq_of (by have := HB.out.notN; rw [HM.out] at this; exact this)).trans HM.out.symm).symm) | (go_at_call 34; refine (refLess_c hx hmR Rep.c4 _).mono ?_; rintro e w' ⟨r2, n2, rfl, hr2, rfl⟩; obtain rfl : v = r2 := ((hr2.eq_of (by rw [HV2.out]; exact HY.out.notN)).trans HV2.out).symm) | go_in)
            go_ret
            exact RetF.mk _ (by rw [HE.out]; exact HBD.out.rep)
          · have HE : RowKit.Hid (wrapF f = 4614256656552045848) := Lib.hid (by rw [HZ.out]; unfold wrapE; rw [D1, D2, if_pos (by simp)])
            rw [D1] at e5
            rw [D2] at e6
            simp only [Bool.not_true, Bool.not_false] at e6
            clear D1 D2
            go_enter Try.func14, Try.ntmps14
            go_wp2_with (first | (go_at_call 23; refine (refFit_c hx _).mono ?_; rw [HF.out]; rintro e w' ⟨n, rfl, rfl⟩) | (go_at_call 32; refine (refWhole_c (hx.mul Rep.cw) _).mono ?_; rintro e w' ⟨r, n, rfl, hr, rfl⟩; obtain rfl : m = r := ((hr.eq_of (by have := HB.out.notN; rw [HM.out] at this; exact this)).trans HM.out.symm).symm) | (go_at_call 34; refine (refLess_c hx hmR Rep.c4 _).mono ?_; rintro e w' ⟨r2, n2, rfl, hr2, rfl⟩; obtain rfl : v = r2 := ((hr2.eq_of (by rw [HV2.out]; exact HY.out.notN)).trans HV2.out).symm) | go_in)
            go_ret
            exact RetF.mk _ (by rw [HE.out]; exact Rep.cpiH)
          · have HE : RowKit.Hid (wrapF f = 4614256656552045848) := Lib.hid (by rw [HZ.out]; unfold wrapE; rw [D1, D2, if_pos (by simp)])
            rw [D1] at e5
            rw [D2] at e6
            simp only [Bool.not_true, Bool.not_false] at e6
            clear D1 D2
            go_enter Try.func14, Try.ntmps14
            go_wp2_with (first | (go_at_call 23; refine (refFit_c hx _).mono ?_; rw [HF.out]; rintro e w' ⟨n, rfl, rfl⟩) | (go_at_call 32; refine (refWhole_c (hx.mul Rep.cw) _).mono ?_; rintro e w' ⟨r, n, rfl, hr, rfl⟩; obtain rfl : m = r := ((hr.eq_of (by have := HB.out.notN; rw [HM.out] at this; exact this)).trans HM.out.symm).symm) | (go_at_call 34; refine (refLess_c hx hmR Rep.c4 _).mono ?_; rintro e w' ⟨r2, n2, rfl, hr2, rfl⟩; obtain rfl : v = r2 := ((hr2.eq_of (by rw [HV2.out]; exact HY.out.notN)).trans HV2.out).symm) | go_in)
            go_ret
            exact RetF.mk _ (by rw [HE.out]; exact Rep.cpiH)
          · have HE : RowKit.Hid (wrapF f = 4614256656552045848) := Lib.hid (by rw [HZ.out]; unfold wrapE; rw [D1, D2, if_pos (by simp)])
            rw [D1] at e5
            rw [D2] at e6
            simp only [Bool.not_true, Bool.not_false] at e6
            clear D1 D2
            go_enter Try.func14, Try.ntmps14
            go_wp2_with (first | (go_at_call 23; refine (refFit_c hx _).mono ?_; rw [HF.out]; rintro e w' ⟨n, rfl, rfl⟩) | (go_at_call 32; refine (refWhole_c (hx.mul Rep.cw) _).mono ?_; rintro e w' ⟨r, n, rfl, hr, rfl⟩; obtain rfl : m = r := ((hr.eq_of (by have := HB.out.notN; rw [HM.out] at this; exact this)).trans HM.out.symm).symm) | (go_at_call 34; refine (refLess_c hx hmR Rep.c4 _).mono ?_; rintro e w' ⟨r2, n2, rfl, hr2, rfl⟩; obtain rfl : v = r2 := ((hr2.eq_of (by rw [HV2.out]; exact HY.out.notN)).trans HV2.out).symm) | go_in)
            go_ret
            exact RetF.mk _ (by rw [HE.out]; exact Rep.cpiH)
    · have HW : wrapF f = f := by unfold wrapF; rw [if_pos hf, if_pos h1]
      have HW' := Lib.hid HW
      clear HW
      have ha : flt 13837628693406821656 f = true := by cases h : flt 13837628693406821656 f <;> simp [h] at h1 ⊢
      have hb : fle f 4614256656552045848 = true := by cases h : fle f 4614256656552045848 <;> simp [h] at h1 ⊢
      go_enter Try.func14, Try.ntmps14
      go_wp2_with (first | (go_at_call 23; refine (refFit_c hx _).mono ?_; rintro e w' ⟨n, rfl, rfl⟩) | go_in)
      go_ret
      exact RetF.mk _ (by rw [HW'.out]; exact hx)
end
end Go.Proofs.Ytncmppmkchbejaa
