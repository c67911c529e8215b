/- The document's own parts of a float: halving and doubling come to the same as the library's. No condition. -/
import Derived.Test.YtndknkdfbjfjcaaDoorPartsA
import Derived.Test.YtndknkdfbjfjcaaDoorMid3
namespace Go.Proofs.YtndknkdfbjfjcaaDoor
open Go.RowKit
set_option linter.unusedVariables false
set_option linter.unusedSimpArgs false
set_option maxRecDepth 100000

@[go_sem ↓] theorem conv_ff (b : Nat) (w : World) : (convert 23 23 (.float .f64 b)).run Tryd.prog w = .ok (.float .f64 b) w := by
  refine run_convert_float_float w 23 23 .f64 .f64 b b (by kernel_rfl) (by kernel_rfl) ?_
  simp [floatToFloatBits]

/-! comparisons of a float with a power of two, by rungs -/
theorem fle_c {f c : Nat} (hn : isN f = false) (hc : sgn c = false) (hcn : isN c = false) (h0 : 0 < rung c) : fle c f = (!sgn f && decide (rung c ≤ rung f)) := by
  rw [fle_eq, hn, hcn]
  have e : sval c = ((mval (rung c) : Nat) : Int) := by unfold sval; rw [hc]; rfl
  have := @mval_le_iff (rung c) (rung f)
  have := mval_pos h0
  rw [e, Bool.eq_iff_iff]
  rcases sval_cases f with ⟨a, k⟩ | ⟨a, k⟩ <;> rw [a, k] <;> simp <;> omega
theorem fle_cn {f c : Nat} (hn : isN f = false) (hc : sgn c = true) (hcn : isN c = false) (h0 : 0 < rung c) : fle f c = (sgn f && decide (rung c ≤ rung f)) := by
  rw [fle_eq, hn, hcn]
  have e : sval c = -((mval (rung c) : Nat) : Int) := by unfold sval; rw [hc]; rfl
  have := @mval_le_iff (rung c) (rung f)
  have := mval_pos h0
  rw [e, Bool.eq_iff_iff]
  rcases sval_cases f with ⟨a, k⟩ | ⟨a, k⟩ <;> rw [a, k] <;> simp <;> omega
theorem flt_c {f c : Nat} (hn : isN f = false) (hc : sgn c = false) (hcn : isN c = false) (h0 : 0 < rung c) : flt f c = (sgn f || decide (rung f < rung c)) := by
  rw [flt_eq, hn, hcn]
  have e : sval c = ((mval (rung c) : Nat) : Int) := by unfold sval; rw [hc]; rfl
  have := @mval_lt_iff (rung f) (rung c)
  have := mval_pos h0
  rw [e, Bool.eq_iff_iff]
  rcases sval_cases f with ⟨a, k⟩ | ⟨a, k⟩ <;> rw [a, k] <;> simp <;> omega
theorem flt_cn {f c : Nat} (hn : isN f = false) (hc : sgn c = true) (hcn : isN c = false) (h0 : 0 < rung c) : flt c f = (!sgn f || decide (rung f < rung c)) := by
  rw [flt_eq, hn, hcn]
  have e : sval c = -((mval (rung c) : Nat) : Int) := by unfold sval; rw [hc]; rfl
  have := @mval_lt_iff (rung f) (rung c)
  have := mval_pos h0
  rw [e, Bool.eq_iff_iff]
  rcases sval_cases f with ⟨a, k⟩ | ⟨a, k⟩ <;> rw [a, k] <;> simp <;> omega
theorem Rep.two : Rep 4611686018427387904 4611686018427387904 := Rep.self (by decide) (by decide +kernel)
theorem Rep.half : Rep 4602678819172646912 4602678819172646912 := Rep.self (by decide) (by decide +kernel)
theorem Rep.nhalf : Rep 13826050856027422720 13826050856027422720 := Rep.self (by decide) (by decide +kernel)
theorem Rep.none1 : Rep 13830554455654793216 13830554455654793216 := Rep.self (by decide) (by decide +kernel)

def fltOf : Value → Nat
  | .float _ b => b
  | _ => 0
/-- the parts by halving and doubling -/
def PartRel (s : Bool) (r0 : Nat) (r : Nat) (n : Int) : Prop := (∃ k : Nat, n = k ∧ r + k * 4503599627370496 = r0 ∧ 4602678819172646912 ≤ r) ∨ (∃ j : Nat, n = -(j : Int) ∧ r = dblN j r0)
theorem dblN_big {r : Nat} (h : 4503599627370496 ≤ r) (j : Nat) : dblN j r = r + j * 4503599627370496 := by
  induction j with
  | zero => simp [dblN]
  | succ j ih => rw [dblN, ih]; unfold dbl; rw [if_neg (by omega)]; omega
theorem dblN_add (i j r : Nat) : dblN (i + j) r = dblN i (dblN j r) := by
  induction i with
  | zero => simp [dblN]
  | succ i ih => rw [Nat.succ_add, dblN, ih]; rfl
theorem dbl_gt {r : Nat} (h : 0 < r) : r < dbl r := by unfold dbl; split <;> omega
theorem dblN_mono {r : Nat} (h : 0 < r) (j : Nat) : r ≤ dblN j r ∧ (∀ i, i < j → dblN i r < dblN j r) := by
  induction j with
  | zero => exact ⟨Nat.le_refl _, fun i hi => absurd hi (by omega)⟩
  | succ j ih =>
    have := dbl_gt (show 0 < dblN j r by omega)
    refine ⟨by rw [dblN]; omega, fun i hi => ?_⟩
    rw [dblN]
    by_cases e : i = j
    · rw [e]; omega
    · have := ih.2 i (by omega); omega
theorem dblN52 {r : Nat} (h : 0 < r) (h2 : r < 4503599627370496) : 4503599627370496 ≤ dblN 52 r ∧ dblN 52 r < 4503599627370496 * 54 ∧ rndN (r * 4503599627370496) = dblN 52 r := by
  have e := mval_dblN 52 r
  have e1 : mval r = r := by unfold mval; rw [if_pos h2]
  rw [e1, show (2 : Nat) ^ 52 = 4503599627370496 by decide] at e
  have hlo : 4503599627370496 ≤ dblN 52 r := by
    rcases Nat.lt_or_ge (dblN 52 r) 4503599627370496 with h3 | h3
    · unfold mval at e; rw [if_pos h3] at e; omega
    · exact h3
  have hhi : dblN 52 r < 4503599627370496 * 54 := by
    have h4 : mval (dblN 52 r) < mval (4503599627370496 * 54) := by
      rw [e]
      have : mval (4503599627370496 * 54) = 4503599627370496 * 2 ^ 53 := by decide +kernel
      rw [this, show (2 : Nat) ^ 53 = 9007199254740992 by decide]
      omega
    exact mval_lt_iff.1 h4
  refine ⟨hlo, hhi, ?_⟩
  rw [← e]
  exact rnd_mval (by omega)
/-- where the loops end, the parts are the library's -/
theorem parts_end {f r : Nat} {n : Int} (hl : f < 18446744073709551616) (hf : fin f = true) (h0 : rung f ≠ 0) (h : PartRel (sgn f) (rung f) r n) (h1 : 4602678819172646912 ≤ r) (h2 : r < 4607182418800017408) :
    partF f = wd (sgn f) r ∧ partE f = n := by
  have hr := fin_rung hf
  have hn := fin_notN hf
  have hcond : (feq f 0 || (isInf f 0 || isN f)) = false := by rw [feq_zero hn, isInf0 hn, hf, hn]; simp [h0]
  unfold partF partE
  rw [hcond]
  simp only [Bool.false_eq_true, if_false]
  have key : ∀ g, g < 18446744073709551616 → sgn g = sgn f → isN g = false → nrm (fracB g) = wd (sgn f) (4602678819172646912 + rung g % 4503599627370496) := by
    intro g hg hs hgn
    rw [nrm_of_not (fracB_notN g hg)]
    unfold fracB
    rw [sign_field hg, mant_field, hs]
    unfold wd
    split <;> omega
  cases ht : flt (fabs f) 4503599627370496
  · have hbig : 4503599627370496 ≤ rung f := by
      rw [flt_eq, isN_abs, hn, sval_abs hn, show isN 4503599627370496 = false by decide +kernel, show sval 4503599627370496 = ((mval 4503599627370496 : Nat) : Int) by decide +kernel] at ht
      simp at ht
      exact mval_le_iff.1 (by omega)
    have e1 : normF f = f := by unfold normF; rw [ht]; rfl
    have e2 : normE f = 0 := by unfold normE; rw [ht]; rfl
    rw [e1, e2, key f hl rfl hn, exp_field hl]
    rcases h with ⟨k, rfl, hk, hb⟩ | ⟨j, rfl, hj⟩
    · constructor
      · congr 1; omega
      · omega
    · rw [dblN_big hbig] at hj
      constructor
      · congr 1; omega
      · omega
  · obtain ⟨e1, hsmall⟩ := normF_tiny ht
    have e2 : normE f = -52 := by unfold normE; rw [ht]; rfl
    obtain ⟨d1, d2, d3⟩ := dblN52 (show 0 < rung f by omega) hsmall
    have hD : ∀ j, 52 ≤ j → dblN j (rung f) = dblN 52 (rung f) + (j - 52) * 4503599627370496 := by
      intro j hj
      have e3 : j = (j - 52) + 52 := by omega
      have e4 : dblN j (rung f) = dblN ((j - 52) + 52) (rung f) := by rw [← e3]
      rw [e4, dblN_add, dblN_big d1]
    have hL : ∀ j, j < 52 → dblN j (rung f) < dblN 52 (rung f) := (dblN_mono (show 0 < rung f by omega) 52).2
    rw [d3] at e1
    generalize dblN 52 (rung f) = D at *
    have hle : D ≤ 9218868437227405312 := by omega
    rw [e2, key (normF f) (normF_lt hl) (by rw [e1, wd_sgn hle]) (normF_notN hn), exp_field (normF_lt hl)]
    rw [show rung (normF f) = D by rw [e1, wd_rung hle]]
    rcases h with ⟨k, rfl, hk, hb⟩ | ⟨j, rfl, hj⟩
    · omega
    · have hj52 : 52 ≤ j := by
        rcases Nat.lt_or_ge j 52 with h3 | h3
        · have := hL j h3
          omega
        · exact h3
      rw [hD j hj52] at hj
      constructor
      · rw [show 4602678819172646912 + D % 4503599627370496 = r by omega]
      · omega
theorem le_dblN {r : Nat} (h : 0 < r) (j : Nat) : j ≤ dblN j r := by
  induction j with
  | zero => omega
  | succ j ih =>
    have := dbl_gt (show 0 < dblN j r by have := (dblN_mono h j).1; omega)
    rw [dblN]; omega
theorem part_bd {s : Bool} {r0 r : Nat} {i : Int} (h0 : 0 < r0) (h : PartRel s r0 r i) (hr : r < 4611686018427387904) : -4611686018427387904 ≤ i ∧ (i ≤ 4611686018427387904 ∨ 9218868437227405312 ≤ r0) := by
  rcases h with ⟨k, rfl, h1, h2⟩ | ⟨j, rfl, h1⟩
  · omega
  · have := le_dblN h0 j
    omega
theorem part_next {s : Bool} {r0 r : Nat} {i : Int} (h : PartRel s r0 r i) (hr : r < 4602678819172646912) : PartRel s r0 (dbl r) (i - 1) := by
  rcases h with ⟨k, rfl, h1, h2⟩ | ⟨j, rfl, h1⟩
  · omega
  · exact .inr ⟨j + 1, by omega, by rw [dblN, h1]⟩
theorem parts_plain {f : Nat} (h : (fin f && !feq f 0) = false) : partF f = f ∧ partE f = 0 := by
  unfold partF partE
  cases hn : isN f
  · rw [isInf0 hn]
    have hc : (feq f 0 || (!fin f || false)) = true := by
      cases hf : fin f <;> cases hz : feq f 0 <;> simp [hf, hz] at h ⊢
    rw [hc]; simp
  · simp

section
variable {x y f g : Nat} (hx : Rep x f) (hy : Rep y g) (w : World)
include hx
theorem plain_c : Calls Tryd.prog 74 #[.float .f64 x] w (RetB (fin f && !feq f 0) w) := by
  have h1 := hx.ne' Rep.c0
  cases hf : fin f
  all_goals
    go_enter Tryd.func74, Tryd.ntmps74
    go_wp2_with (go_at_call 113; refine (refFinite_c hx _).mono ?_; rintro e w' ⟨n, rfl, rfl⟩)
    go_ret
  · exact RetB.mk _ rfl
  · exact RetB.mk _ rfl
theorem refParts_c : Calls Tryd.prog 23 #[.float .f64 x] w (RetFI (partF f) (partE f) w) := by
  cases hp : (fin f && !feq f 0)
  · have hq := Lib.hid (parts_plain hp)
    go_enter Tryd.func23, Tryd.ntmps23
    go_wp2_with (go_at_call 74; refine (plain_c hx _).mono ?_; rintro e w' ⟨n, rfl, rfl⟩)
    go_ret2
    exact RetFI.mk _ (by rw [hq.out.1]; exact hx) (by rw [hq.out.2])
  · have hf : fin f = true := by cases h : fin f <;> simp [h] at hp ⊢
    have hz : rung f ≠ 0 := by
      have : feq f 0 = false := by cases h : feq f 0 <;> simp [h] at hp ⊢
      rw [feq_zero (fin_notN hf)] at this; simpa using this
    have HP := Lib.hid (fun r n => @parts_end f r n hx.flt hf hz)
    have HF := Lib.hid hf
    have HZ := Lib.hid hz
    clear hf hz
    go_enter Tryd.func23, Tryd.ntmps23
    go_wp2_with (go_at_call 74; refine (plain_c hx _).mono ?_; rintro e w' ⟨n, rfl, rfl⟩)
    generalize hs : sgn f = s at HP
    have hxw : x = wd s (rung f) := by
      have := hx.eq_of (fin_notN HF.out)
      rw [this]
      have h2 := num_wd hx.flt
      rw [hs] at h2
      exact h2
    have hr0 := fin_rung HF.out
    have hr1 : 0 < rung f := Nat.pos_of_ne_zero HZ.out
    generalize rung f = r0 at HP hxw hr0 hr1 HZ
    subst hxw
    clear hx HZ HF hp hs
    go_loopw [0, 4] (fun a n wr => ∃ r k d : Nat, a = .float .f64 (wd s r) ∧ n = .int .i64 k ∧ r + k * 4503599627370496 = r0 ∧ (k = 0 ∨ 4602678819172646912 ≤ r) ∧ wr = w.drewN d) (fun _ n _ => 3000 - (intOf n).toNat)
    case atStart => exact ⟨r0, 0, _, rfl, rfl, by omega, .inl rfl, rfl⟩
    case round =>
      obtain ⟨r, k, d, rfl, rfl, hrk, hor, rfl⟩ := hrel
      have hkb : (k : Int) < 3000 := by omega
      have hrb : r < 9218868437227405312 := by omega
      have hrep : Rep (wd s r) (wd s r) := Rep.self (wd_lt (by omega)) (nrm_of_not (wd_notN (by omega)))
      have hfin : fin (wd s r) = true := by unfold fin; rw [wd_rung (by omega)]; simp; omega
      have q1 := hrep.ge' Rep.cone
      rw [fle_c (wd_notN (by omega)) (by decide +kernel) (by decide +kernel) (by decide +kernel), wd_sgn (by omega), wd_rung (by omega), show rung 4607182418800017408 = 4607182418800017408 by decide +kernel] at q1
      have q2 := hrep.le' Rep.none1
      rw [fle_cn (wd_notN (by omega)) (by decide +kernel) (by decide +kernel) (by decide +kernel), wd_sgn (by omega), wd_rung (by omega), show rung 13830554455654793216 = 4607182418800017408 by decide +kernel] at q2
      by_cases hb : 4607182418800017408 ≤ r
      · rw [decide_eq_true hb] at q1 q2
        have hd := Lib.hid (fdiv_two hfin (by rw [wd_rung (by omega)]; omega))
        have hle := Lib.hid hb
        have hrk' := Lib.hid hrk
        clear hb hrk hor
        cases s
        all_goals
          simp only [Bool.not_true, Bool.not_false, Bool.true_and, Bool.false_and, Bool.and_true, Bool.and_false] at q1 q2
          go_wp2
          go_roundw
          case rel =>
            have hq := (hrep.quo Rep.two (w := w.drewN d))
            rw [hd.out, wd_sgn (by have := hle.out; omega), wd_rung (by have := hle.out; omega)] at hq
            have he := hq.eq_of (wd_notN (by have := hle.out; omega))
            refine ⟨r - 4503599627370496, k + 1, _, by rw [he], by go_num, by have := hle.out; have := hrk'.out; omega, .inr (by have := hle.out; omega), rfl⟩
          case measure => simp [intOf]; omega
      · rw [decide_eq_false hb] at q1 q2
        have hpr : PartRel s r0 r (k : Int) := by
          rcases hor with h | h
          · exact .inr ⟨0, by omega, by rw [dblN]; omega⟩
          · exact .inl ⟨k, rfl, hrk, by omega⟩
        have hr3 : 0 < r := by
          rcases hor with h | h
          · subst h; omega
          · omega
        have hk0 : (0 : Int) ≤ (k : Int) := by omega
        have HPR := Lib.hid hpr
        have HB := Lib.hid hb
        clear hb hrk hor hpr
        simp only [Bool.and_false] at q1 q2
        go_wp2
        clear q1 q2
        go_loopw [0, 4] (fun a n wr => ∃ (r : Nat) (i : Int) (d : Nat), a = .float .f64 (wd s r) ∧ n = .int .i64 i ∧ PartRel s r0 r i ∧ 0 < r ∧ r < 4607182418800017408 ∧ wr = w.drewN d) (fun a _ _ => 4602678819172646912 - rung (fltOf a))
        case atStart => exact ⟨r, k, d, rfl, rfl, HPR.out, hr3, by have := HB.out; omega, rfl⟩
        case round =>
          obtain ⟨r', i, d', rfl, rfl, hpr', hr4, hr5, rfl⟩ := hrel
          clear HPR HB hrep hfin hkb hrb hr3
          have hrep : Rep (wd s r') (wd s r') := Rep.self (wd_lt (by omega)) (nrm_of_not (wd_notN (by omega)))
          have hfin : fin (wd s r') = true := by unfold fin; rw [wd_rung (by omega)]; simp; omega
          have q1 := hrep.gt' Rep.nhalf
          rw [flt_cn (wd_notN (by omega)) (by decide +kernel) (by decide +kernel) (by decide +kernel), wd_sgn (by omega), wd_rung (by omega), show rung 13826050856027422720 = 4602678819172646912 by decide +kernel] at q1
          have q2 := hrep.lt' Rep.half
          rw [flt_c (wd_notN (by omega)) (by decide +kernel) (by decide +kernel) (by decide +kernel), wd_sgn (by omega), wd_rung (by omega), show rung 4602678819172646912 = 4602678819172646912 by decide +kernel] at q2
          have ib := part_bd hr1 hpr' (by omega)
          by_cases hb2 : r' < 4602678819172646912
          · rw [decide_eq_true hb2] at q1 q2
            simp only [Bool.or_true] at q1 q2
            have hdl : dbl r' < 4607182418800017408 := by unfold dbl; split <;> omega
            have hm := Lib.hid (fmul_two hfin (by rw [wd_rung (by omega)]; omega))
            have hnext := Lib.hid (part_next hpr' hb2)
            have hgt := Lib.hid (dbl_gt hr4)
            have HB2 := Lib.hid hb2
            have HDL := Lib.hid hdl
            have HR5 := Lib.hid hr5
            clear hb2 hpr' hdl hr5
            go_wp2
            go_roundw
            case rel =>
              have hq := (hrep.mul Rep.two (w := w.drewN d'))
              have h5 := HR5.out
              rw [hm.out, wd_sgn (by omega), wd_rung (by omega)] at hq
              have h6 := HDL.out
              have he := hq.eq_of (wd_notN (by omega))
              exact ⟨dbl r', i - 1, _, by rw [he], by go_num, hnext.out, by have := hgt.out; omega, h6, rfl⟩
            case measure =>
              have hq := (hrep.mul Rep.two (w := w.drewN d'))
              have h5 := HR5.out
              rw [hm.out, wd_sgn (by omega), wd_rung (by omega)] at hq
              have h6 := HDL.out
              have he := hq.eq_of (wd_notN (by omega))
              have h7 := hgt.out
              have h8 := HB2.out
              simp only [fltOf]
              rw [he, wd_rung (by omega), wd_rung (by omega)]
              omega
          · rw [decide_eq_false hb2] at q1 q2
            have HE := Lib.hid (HP.out r' i hpr' (by omega) hr5)
            have HX := Lib.hid hrep
            clear hpr' hb2
            cases s
            all_goals
              simp only [Bool.or_false, Bool.not_true, Bool.not_false] at q1 q2
              go_wp2
              go_ret2
              exact RetFI.mk _ (by rw [HE.out.1]; exact HX.out) HE.out.2.symm
end
end Go.Proofs.YtndknkdfbjfjcaaDoor
