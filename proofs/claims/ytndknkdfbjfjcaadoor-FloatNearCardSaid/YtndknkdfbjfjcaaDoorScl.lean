/- The document's power of two times a float, by big numbers: the float of it. -/
import Derived.Test.YtndknkdfbjfjcaaDoorFlp
import Derived.Test.YtndknkdfbjfjcaaDoorPartsB
namespace Go.Proofs.YtndknkdfbjfjcaaDoor
open Go.RowKit
set_option linter.unusedVariables false
set_option linter.unusedSimpArgs false
set_option maxRecDepth 100000
set_option maxHeartbeats 4000000
/-- hands back a float; the world has grown. -/
def RetFG (f : Nat) (w : World) (e : Ending) (w' : World) : Prop := ∃ r, e = .returned (.float .f64 r) ∧ Rep r f ∧ Grown w w'
theorem flNew (w : World) (t : TypeId) : FlAt (w.alloc (.cells #[.bool false, .slice none 0 0, .int .i64 0, .int .i64 0, .bool false] t)) w.heap.size false (.slice none 0 0) 0 0 false :=
  ⟨World.cell?_alloc_new .., World.cell?_alloc_new .., World.cell?_alloc_new .., World.cell?_alloc_new .., World.cell?_alloc_new .., by rw [size_alloc]; exact Nat.lt_succ_self _⟩
theorem clamp_min (n : Int) : (if -5000 < (if n < 5000 then n else 5000) then (if n < 5000 then n else 5000) else -5000) = clampN n := rfl
theorem clamp_bd (n : Int) : -5000 ≤ clampN n ∧ clampN n ≤ 5000 := by unfold clampN; split <;> split <;> omega
theorem div_ok {A k : Nat} (hA : A ≠ 0) (hb : bl A ≤ 53) (hk : 2 ^ k ∣ A) : A / 2 ^ k ≠ 0 ∧ bl (A / 2 ^ k) ≤ 53 ∧ k ≤ 53 := by
  have hd := Nat.div_mul_cancel hk
  have hlt := Nat.lt_of_lt_of_le (bl_lt A) (Nat.pow_le_pow_right (show 0 < 2 by decide) hb)
  refine ⟨fun e => ?_, bl_le_of (Nat.lt_of_le_of_lt (Nat.div_le_self _ _) hlt), ?_⟩
  · rw [e, Nat.zero_mul] at hd; exact hA hd.symm
  · have h1 := Nat.le_of_dvd (Nat.pos_of_ne_zero hA) hk
    have h3 := (Nat.pow_lt_pow_iff_right (show 1 < 2 by decide)).1 (Nat.lt_of_le_of_lt h1 hlt)
    omega
theorem refScaleYes {f : Nat} (n c : Int) (hc : clampN n = c) {w : World} (hl : f < 18446744073709551616) (hf : fin f = true) (h0 : rung f ≠ 0) (hT : TabAt w) (htab : 1 < w.heap.size) :
    Calls Tryd.prog 29 #[.float .f64 f, .int .i64 n] w (RetFG (scaleF f c) w) := by
  have HX : Rep f f := Rep.self hl (nrm_of_not (fin_notN hf))
  have hpl : (fin f && !feq f 0) = true := by rw [hf, feq_zero (fin_notN hf), decide_eq_false h0]; rfl
  have hb := clamp_bd n
  rw [hc] at hb
  have HPL := Lib.hid hpl
  have HT := Lib.hid hT
  have HF := Lib.hid hf
  have HZ0 := Lib.hid h0
  have HL := Lib.hid hl
  have HV := Lib.hid (scale_val hl hf h0 c)
  have HC2 : RowKit.Hid ((if -5000 < (if n < 5000 then n else 5000) then (if n < 5000 then n else 5000) else -5000) = c) := Lib.hid hc
  clear hpl hT hf h0 hl hc
  go_enter Tryd.func29, Tryd.ntmps29
  go_upto_region 4 with (first
    | (go_at_call 74; (with_reducible refine (plain_c HX _).mono ?_); rw [HPL.out]; rintro e w' ⟨n1, rfl, rfl⟩)
    | fail)
  rw [HC2.out]
  have hb1 : -100000 ≤ c := by omega
  have hb2 : c ≤ 100000 := by omega
  go_wp2_with (first
    | (go_at_call 77; go_loud ((with_reducible refine (setFloat_c (w0 := w) (gr_alloc (gr_drewN _ (Grown.refl w)) _ _) (Nat.le_refl _) HT.out htab (flNew (w.drewN n1) _) HL.out HF.out HZ0.out).mono ?_); rintro e w1 ⟨A, E, v, rfl, hI, hv, hz, hg⟩; have HI := Lib.hid hI; have HV1 := Lib.hid hv; have HZ1 := Lib.hid hz; have HG1 := Lib.hid hg; have hlo := hI.lo; have hhi := hI.hi; clear hI hv hz hg))
    | (go_at_call 78; go_loud ((with_reducible refine (setMant_c HG1.out (Nat.le_refl _) HT.out htab HZ1.out HV1.out HI.out.ne HI.out.bl (by omega) (by omega) hb1 hb2).mono ?_); rintro e w2 ⟨k, v2, rfl, hk, hv2, hz2, hg2⟩; have HK := Lib.hid hk; have HD := Lib.hid (div_ok HI.out.ne HI.out.bl hk); have hk53 := HD.out.2.2; have HV2 := Lib.hid hv2; have HZ2 := Lib.hid hz2; have HG2 := Lib.hid hg2; clear hk hv2 hz2 hg2))
    | (go_at_call 79; go_loud ((with_reducible refine (float64_c (w0 := w) HZ2.out HV2.out HD.out.1 HD.out.2.1 (by omega) (by omega)).mono ?_); rintro e w3 ⟨r, rfl, hr, hg3⟩; have HR := Lib.hid hr; have HG3 := Lib.hid (gr_trans HG2.out hg3); clear hr hg3))
    | fail)
  all_goals
    go_ret
    refine ⟨r, rfl, ?_, HG3.out⟩
    have hr := HR.out
    have e := flIs_shift HI.out (n := c) HK.out 0
    rw [Int.add_zero, Int.add_zero] at e
    rw [e, ← HV.out] at hr
    exact hr
theorem refScaleNo {x f : Nat} (n c : Int) {w : World} (hx : Rep x f) (hn : (fin f && !feq f 0) = false) (hf : f < 18446744073709551616) : Calls Tryd.prog 29 #[.float .f64 x, .int .i64 n] w (RetFG (scaleF f c) w) := by
  have HV : RowKit.Hid (scaleF f c = f) := Lib.hid (by
    cases h : fin f
    · exact scale_notfin h c
    · have h2 : feq f 0 = true := by rw [h] at hn; simpa using hn
      rw [feq_zero (fin_notN h)] at h2
      exact scale_nought (fin_notN h) (by simpa using h2) c)
  have HN := Lib.hid hn
  clear hn
  go_enter Tryd.func29, Tryd.ntmps29
  go_wp2_with (first
    | (go_at_call 74; (with_reducible refine (plain_c hx _).mono ?_); rw [HN.out]; rintro e w' ⟨n1, rfl, rfl⟩)
    | fail)
  go_ret
  exact ⟨x, rfl, by rw [HV.out]; exact hx, gr_drewN _ (Grown.refl _)⟩
theorem refScale_c {x f : Nat} (n : Int) {w : World} (hx : Rep x f) (hT : TabAt w) (htab : 1 < w.heap.size) : Calls Tryd.prog 29 #[.float .f64 x, .int .i64 n] w (RetFG (scaleF f (clampN n)) w) := by
  cases h : fin f && !feq f 0
  · exact refScaleNo n _ hx h hx.flt
  · have h1 : fin f = true := by cases h2 : fin f <;> rw [h2] at h <;> simp at h ⊢
    have h3 := hx.eq_of (fin_notN h1)
    subst h3
    refine refScaleYes n _ rfl hx.lt h1 ?_ hT htab
    intro h4
    rw [feq_zero (fin_notN h1), h4] at h
    simp at h
end Go.Proofs.YtndknkdfbjfjcaaDoor
