/- The law's turn: sine and cosine near to the true ones of the rest. -/
import Derived.Test.YtcfkhhnkboealaaDoorDj
namespace Go.Proofs.YtcfkhhnkboealaaDoor
open Go.RowKit
set_option linter.unusedVariables false
set_option linter.unusedSimpArgs false
set_option maxRecDepth 100000
set_option maxHeartbeats 4000000
open Turns Sizes
theorem mod_four (m : Int) : (-4 < m.tmod 4 ∧ m.tmod 4 < 4) ∧ Int.tmod (Int.tmod m 4 + 4) 4 = m % 4 := by
  have b : -4 < m.tmod 4 ∧ m.tmod 4 < 4 := by
    have h := Int.tmod_eq_emod (a := m) (b := 4)
    split at h <;> omega
  refine ⟨b, ?_⟩
  rw [Int.tmod_eq_emod_of_nonneg (by omega)]
  have h := Int.tmod_eq_emod (a := m) (b := 4)
  split at h <;> omega
theorem two_ne : (2 : Rat) ≠ 0 := by decide +kernel
theorem pi_sz {p : Rat} (h : ab (p - 2 * hp) ≤ tw 103) : Sz 3 p := by
  have hb : 157 / 100 ≤ hp ∧ hp ≤ 158 / 100 ∧ tw 103 ≤ 1 / 1000 := by decide +kernel
  have pp := ab_le.1 h
  generalize hp = H at *
  generalize tw 103 = z at *
  exact Sz.between (a := 3) (b := 4) (by grind) (by grind) (by decide +kernel) (by decide +kernel) (by decide +kernel)
def HalfOk (h : Rat) : Prop := ab (h - hp) ≤ tw 103 ∧ 157 / 100 ≤ h ∧ h ≤ 1571 / 1000
theorem half_sz {h : Rat} {A : Prop} (k : ab (h - hp) ≤ tw 103 ∧ 157 / 100 ≤ h ∧ h ≤ 1571 / 1000 ∧ A) : Sz 2 h := Sz.between k.2.1 k.2.2.1 (by decide +kernel) (by decide +kernel) (by decide +kernel)
theorem half_ne {h : Rat} {A : Prop} (k : ab (h - hp) ≤ tw 103 ∧ 157 / 100 ≤ h ∧ h ≤ 1571 / 1000 ∧ A) : h ≠ 0 := by have := k.2.1; grind
theorem quot_sz {f : Nat} {a h Q : Rat} {A : Prop} (hf : V f a) (k : ab (h - hp) ≤ tw 103 ∧ 157 / 100 ≤ h ∧ h ≤ 1571 / 1000 ∧ A) (hq : ab (Q - a / h) ≤ 3 * u4 * ab (a / h)) : Sz 1110 Q := by
  obtain ⟨u0, u1, u2⟩ := u4_fine
  have s : Sz 2 (1 / h) := by
    have h1 := k.2.1
    have h2 := k.2.2.1
    refine Sz.between (a := 1 / 2) (b := 1) ?_ ?_ (by decide +kernel) (by decide +kernel) (by decide +kernel)
    · rw [le_div (by grind)]; grind
    · rw [div_le (by grind)]; grind
  have e : a / h = a * (1 / h) := by grind
  rw [e] at hq
  exact ((hf.sz.mul s).near hq (by grind)).mono (by omega)
theorem quot_BG {a h Q : Rat} {A : Prop} (ha : ab a ≤ 1048576) (k : ab (h - hp) ≤ tw 103 ∧ 157 / 100 ≤ h ∧ h ≤ 1571 / 1000 ∧ A) (hq : ab (Q - a / h) ≤ 3 * u4 * ab (a / h)) : ab Q ≤ BG := by
  obtain ⟨u0, u1, u2⟩ := u4_fine
  have h1 := k.2.1
  have x1 : ab (a / h) ≤ 1048576 := by
    rw [ab_div, ab_pos (show 0 ≤ h by grind), div_le (by grind)]
    grind
  generalize a / h = X at *
  have k1 := Rat.mul_le_mul_of_nonneg_left x1 (show 0 ≤ 3 * u4 by grind)
  have hB : (1100000 : Rat) ≤ BG := Rat.le_trans (by decide +kernel) BG_big
  have := ab_add (Q - X) X
  rw [show Q - X + X = Q by grind] at this
  grind
theorem int_le {n : Int} {k : Nat} (h : ab (n : Rat) ≤ (k : Rat)) : n.natAbs ≤ k := by
  have z := ab_le.1 h
  have e : ((k : Int) : Rat) = (k : Rat) := Rat.intCast_natCast k
  have e2 : ((-(k : Int) : Int) : Rat) = -(k : Rat) := by rw [Rat.intCast_neg, e]
  have h1 : ((-(k : Int) : Int) : Rat) ≤ (n : Rat) := by rw [e2]; exact z.1
  have h2 : (n : Rat) ≤ ((k : Int) : Rat) := by rw [e]; exact z.2
  have := cast_le'.1 h1
  have := cast_le'.1 h2
  omega
theorem int_one {n : Int} (h : (n : Rat) ≠ 0) : 1 ≤ ab (n : Rat) := by
  have h0 : n ≠ 0 := by intro e; rw [e] at h; exact h rfl
  have e1 : ((1 : Int) : Rat) = 1 := by decide +kernel
  have em : ((-1 : Int) : Rat) = -1 := by decide +kernel
  have a1 := ab_of (n : Rat)
  rcases Int.lt_or_le n 0 with k | k
  · have := cast_le'.2 (show n ≤ -1 by omega)
    rw [em] at this
    generalize (n : Rat) = N at *
    grind
  · have := cast_le'.2 (show (1 : Int) ≤ n by omega)
    rw [e1] at this
    generalize (n : Rat) = N at *
    grind
theorem int_sz {m : Int} (h : ab (m : Rat) ≤ 668003) : Sz 21 (m : Rat) := by
  by_cases h0 : (m : Rat) = 0
  · exact .inl h0
  · exact .inr ⟨Rat.le_trans (by decide +kernel) (int_one h0), Rat.le_trans h (by decide +kernel)⟩
theorem prod_sz {m : Int} {h P : Rat} {A : Prop} (hm : ab (m : Rat) ≤ 668003) (k : ab (h - hp) ≤ tw 103 ∧ 157 / 100 ≤ h ∧ h ≤ 1571 / 1000 ∧ A) (hP : ab (P - (m : Rat) * h) ≤ u4 * ab ((m : Rat) * h)) : Sz 30 P := by
  obtain ⟨u0, u1, u2⟩ := u4_fine
  exact (((int_sz hm).mul (half_sz k)).near hP (by grind)).mono (by omega)
/-- the float's whole number. -/
theorem wInt_of {g : Nat} {m : Int} (h : V g (m : Rat)) : wInt g = m := by
  have hU := U_pos
  have hs := h.size
  have hx := div_self_mul (mval (rung g) : Rat) UQ_ne
  rw [← hs] at hx
  have e : ab (m : Rat) = ((m.natAbs : Nat) : Rat) := (natAbsQ m).symm ▸ rfl
  rw [e, ← cast_mul] at hx
  have hm : m.natAbs * U = mval (rung g) := by exact_mod_cast hx
  have ht : trN (rung g) = m.natAbs := by
    unfold trN
    rw [← hm]; exact Nat.mul_div_cancel _ hU
  have hf := h.form
  rw [← hm, cast_mul] at hf
  have e3 : ((m.natAbs : Nat) : Rat) * (U : Rat) / (U : Rat) = ((m.natAbs : Nat) : Rat) := by have := UQ_ne; grind
  rw [e3, ← sg_cast] at hf
  have hi : m = sg (sgn g) m.natAbs := by exact_mod_cast hf
  unfold wInt
  rw [ht]
  exact hi.symm
theorem same_one {t : Rat} {k : Nat} (h : sg4 k = 1) : ab (t - sg4 k * t) ≤ u4 * ab t := by
  rw [h, show t - 1 * t = 0 by grind, show ab (0 : Rat) = 0 by decide +kernel]
  exact mul_nn u4_fine.1 (ab_nn _)
theorem neg_turn {t o : Rat} {k : Nat} (h : sg4 k = -1) (ho : ab (o - (0 - t)) ≤ u4 * ab (0 - t)) : ab (o - sg4 k * t) ≤ u4 * ab t := by
  have e : ab (0 - t) = ab t := by rw [show 0 - t = -t by grind, ab_neg]
  rw [e] at ho
  rw [h, show -1 * t = 0 - t by grind]
  exact ho
theorem neg_sz {m : Nat} {s n : Rat} (h : Sz m s) (hn : ab (n - (0 - s)) ≤ u4 * ab (0 - s)) : Sz (m + 1) n := by
  obtain ⟨u0, u1, u2⟩ := u4_fine
  have s' : Sz m (0 - s) := by
    rcases h with q | q
    · left; rw [q]; decide +kernel
    · right; rw [show 0 - s = -s by grind, ab_neg]; exact q
  exact s'.near hn (by grind)
/-- what the series leave. -/
def SerOk (y c s : Rat) : Prop := ab (c - (CS y).re) ≤ tw 300 ∧ ab (s - (CS y).im) ≤ tw 300 * ab y ∧ ab c ≤ 4 ∧ ab s ≤ 4
/-- what the turn leaves: sine sa, cosine ca. -/
def RotOk (y : Rat) (m : Int) (sa ca : Rat) : Prop := ∃ c s, ab (c - (CS y).re) ≤ tw 300 ∧ ab (s - (CS y).im) ≤ tw 300 * ab y ∧ ab (ca - (rot (m % 4) c s).1) ≤ tw 300 ∧ ab (sa - (rot (m % 4) c s).2) ≤ tw 300 ∧ (m % 4 = 0 → sa = s)
theorem neg_near {s n : Rat} (hs : ab s ≤ 4) (hn : ab (n - (0 - s)) ≤ u4 * ab (0 - s)) : ab (n - -s) ≤ tw 300 := by
  obtain ⟨u0, u1, u2⟩ := u4_fine
  have e : ab (0 - s) = ab s := by rw [show 0 - s = -s by grind, ab_neg]
  have k := Rat.mul_le_mul_of_nonneg_left hs u0
  have w : 4 * tw 390 ≤ tw 300 := by decide +kernel
  rw [e, show 0 - s = -s by grind] at hn
  generalize tw 300 = z at *
  generalize tw 390 = z9 at *
  grind
theorem same_near (c : Rat) : ab (c - c) ≤ tw 300 := by
  rw [show c - c = 0 by grind, show ab (0 : Rat) = 0 by decide +kernel]; exact Rat.le_of_lt (tw_pos _)
theorem turn_zero {y s c : Rat} {m : Int} (hm : m % 4 = 0) (h : SerOk y c s) : RotOk y m s c := by
  refine ⟨c, s, h.1, h.2.1, ?_, ?_, fun _ => rfl⟩
  · unfold rot; rw [if_pos hm]; exact same_near c
  · unfold rot; rw [if_pos hm]; exact same_near s
theorem turn_one {y s c ns : Rat} {m : Int} (hm : m % 4 = 1) (h : SerOk y c s) (hn : ab (ns - (0 - s)) ≤ u4 * ab (0 - s)) : RotOk y m c ns := by
  refine ⟨c, s, h.1, h.2.1, ?_, ?_, fun k => by omega⟩
  · unfold rot; rw [if_neg (by omega), if_pos hm]; exact neg_near h.2.2.2 hn
  · unfold rot; rw [if_neg (by omega), if_pos hm]; exact same_near c
theorem turn_two {y s c ns nc : Rat} {m : Int} (hm : m % 4 = 2) (h : SerOk y c s) (hn : ab (ns - (0 - s)) ≤ u4 * ab (0 - s)) (hc : ab (nc - (0 - c)) ≤ u4 * ab (0 - c)) : RotOk y m ns nc := by
  refine ⟨c, s, h.1, h.2.1, ?_, ?_, fun k => by omega⟩
  · unfold rot; rw [if_neg (by omega), if_neg (by omega), if_pos hm]; exact neg_near h.2.2.1 hc
  · unfold rot; rw [if_neg (by omega), if_neg (by omega), if_pos hm]; exact neg_near h.2.2.2 hn
theorem turn_three {y s c nc : Rat} {m : Int} (hm : m % 4 = 3) (h : SerOk y c s) (hc : ab (nc - (0 - c)) ≤ u4 * ab (0 - c)) : RotOk y m nc s := by
  refine ⟨c, s, h.1, h.2.1, ?_, ?_, fun k => by omega⟩
  · unfold rot; rw [if_neg (by omega), if_neg (by omega), if_neg (by omega)]; exact same_near s
  · unfold rot; rw [if_neg (by omega), if_neg (by omega), if_neg (by omega)]; exact neg_near h.2.2.1 hc
/-- where the series stand behind k rounds. -/
def TurnAt (w : World) (y : Rat) (gs gc gt gy k : Nat) (wr : World) : Prop :=
  ∃ s c t, TTm u4 y k t ∧ CSm u4 y k c ∧ SSm u4 y k s ∧ (k ≤ 1 → s = 0) ∧ FV wr gs s ∧ FV wr gc c ∧ FV wr gt t ∧ FV wr gy y ∧ Grown w wr ∧ TB wr
def RetTurn (a : Rat) (w : World) (e : Ending) (w' : World) : Prop := ∃ (m : Int) (y : Rat), ab (y - (a - (m : Rat) * hp)) ≤ tw 82 ∧ ab y ≤ 7858 / 10000 ∧ ((m : Rat) = 0 → ab (y - a) ≤ u4 * ab a) ∧ ab (m : Rat) ≤ 668003 ∧
  ∃ (gs gc : Nat) (sa ca : Rat), e = .returned (.tuple #[.pointer (some ⟨gs, 0, none⟩), .pointer (some ⟨gc, 0, none⟩)]) ∧ FV w' gs sa ∧ FV w' gc ca ∧ Grown w w' ∧ Sz 1110 sa ∧ Sz 1110 ca ∧ RotOk y m sa ca
theorem turn_start (y : Rat) : TTm u4 y 0 1 ∧ CSm u4 y 0 0 ∧ SSm u4 y 0 0 := by
  unfold TTm CSm SSm
  have e0 : ((0 : Nat) : Rat) = 0 := rfl
  have z : PSm y 0 = 0 := rfl
  have e1 : ee y 0 = 1 := rfl
  rw [e0, z, e1, Cq.zero_re, Cq.zero_im]
  refine ⟨?_, ?_, ?_⟩
  · rw [show (1 : Rat) - 1 = 0 by decide +kernel, show ab (0 : Rat) = 0 by decide +kernel]; grind
  · rw [show (0 : Rat) - 0 = 0 by decide +kernel, show ab (0 : Rat) = 0 by decide +kernel]; grind
  · rw [show (0 : Rat) - 0 = 0 by decide +kernel, show ab (0 : Rat) = 0 by decide +kernel]; grind
theorem ser_ok {y c s : Rat} (hy : ab y ≤ 8 / 10) (hc : CSm u4 y 70 c) (hs : SSm u4 y 70 s) : SerOk y c s := by
  have u3 : u4 ≤ tw 330 := Rat.le_trans u4_fine.2.2 (by decide +kernel)
  obtain ⟨a, b⟩ := turn_end u4_fine.1 u3 hy hc hs
  have l := (CS_len (y := y) (Rat.le_trans hy (by decide +kernel))).2
  have l' : ab (CS y).re + ab (CS y).im ≤ 21 / 10 := l
  have w : tw 300 ≤ 1 := by decide +kernel
  have n1 := ab_nn (CS y).re
  have n2 := ab_nn (CS y).im
  refine ⟨a, b, ?_, ?_⟩
  · have x := ab_add (c - (CS y).re) (CS y).re
    rw [show c - (CS y).re + (CS y).re = c by grind] at x
    generalize tw 300 = z at *
    grind
  · have x := ab_add (s - (CS y).im) (CS y).im
    rw [show s - (CS y).im + (CS y).im = s by grind] at x
    have k := mul_mono (Rat.le_of_lt (tw_pos 300)) w (ab_nn y) hy
    generalize tw 300 * ab y = z at *
    grind
theorem prod_bound {m : Int} {h P : Rat} (hm : ab (m : Rat) ≤ 668003) (h1 : 157 / 100 ≤ h) (h2 : h ≤ 1571 / 1000) (hP : ab (P - (m : Rat) * h) ≤ u4 * ab ((m : Rat) * h)) : ab P ≤ 1100000 ∧ ((m : Rat) = 0 → P = 0) := by
  obtain ⟨u0, u1, u2⟩ := u4_fine
  have m1 : ab ((m : Rat) * h) ≤ 1050000 := by
    rw [ab_mul, ab_pos (show 0 ≤ h by grind)]
    exact Rat.le_trans (mul_mono (ab_nn _) hm (by grind) h2) (by decide +kernel)
  have k := Rat.mul_le_mul_of_nonneg_left m1 u0
  constructor
  · have x := ab_add (P - (m : Rat) * h) ((m : Rat) * h)
    rw [show P - (m : Rat) * h + (m : Rat) * h = P by grind] at x
    generalize (m : Rat) * h = z at *
    grind
  · intro h0
    rw [h0, Rat.zero_mul, show ab (0 : Rat) = 0 by decide +kernel] at hP
    have := ab_le.1 hP
    grind
theorem far_enough {m : Int} {a h : Rat} (h1 : 157 / 100 ≤ h) (hq : ab (a / h - (m : Rat)) ≤ 5000000001 / 10000000000) (hm : (m : Rat) ≠ 0) : 1 / 2 ≤ ab a := by
  have o := int_one hm
  have x := ab_sub (a / h) (a / h - (m : Rat))
  rw [show a / h - (a / h - (m : Rat)) = (m : Rat) by grind, ab_div, ab_pos (show 0 ≤ h by grind)] at x
  have l : 4 / 10 ≤ ab a / h := by
    generalize (m : Rat) = M at *
    generalize ab a / h = z at *
    grind
  rw [le_div (by grind)] at l
  grind
theorem turn05_c {f : Nat} {a : Rat} {w : World} (hT : TB w) (hV : V f a) (ha : ab a ≤ 1048576) : Calls Tryd.prog 33 #[.float .f64 f] w (RetTurn a w) := by
  have HT := Lib.hid hT
  have HV := Lib.hid hV
  have HA := Lib.hid ha
  have HG := Lib.hid (Grown.refl w)
  have h01 : (((0 : Int)) : Rat) = 0 := rfl
  have h11 : (((1 : Int)) : Rat) = 1 := rfl
  have h21 : (((2 : Int)) : Rat) = 2 := rfl
  have HCA := Lib.hid (And.intro h01 (And.intro h11 h21))
  have S2 : RowKit.Hid (Sz 16 (2 : Rat)) := Lib.hid (Sz.nat (k := 2) (by decide) (by decide))
  have HU : RowKit.Hid (u4 ≤ 1 / 4) := Lib.hid (by have := u4_fine.2.1; grind)
  clear hT hV ha h01 h11 h21
  go_enter Tryd.func33, Tryd.ntmps33
  go_upto_region 2 with (first
    | (go_at_call 37; go_loud ((with_reducible refine (pi05_c HT.out).mono ?_); rintro e1 wa ⟨p, hp1, gp, rfl, h1, h2, h3⟩; have HVP := Lib.hid hp1; have HG := Lib.hid (gr_trans HG.out h2); have HT := Lib.hid (HT.out.grown h2); have HP := Lib.hid h1; clear hp1; clear h1 h2 h3))
    | (go_at_call 35; go_loud ((with_reducible refine (whole05_c 2 HT.out (by decide)).mono ?_); rintro e1 wa ⟨g2, rfl, h1, h2, h3⟩; rw [HCA.out.2.2] at h1; have HG := Lib.hid (gr_trans HG.out h2); have HT := Lib.hid (HT.out.grown h2); (try have HP := Lib.hid (HP.out.grown h2)); have HTW := Lib.hid h1; clear h1 h2 h3))
    | (go_at_call 36; go_loud ((with_reducible refine (quo05_c HT.out HP.out HTW.out (pi_sz HVP.out) S2.out (by decide) two_ne).mono ?_); rintro e1 wa ⟨h, hh1, gh, rfl, h1, h2, h3⟩; have HVH := Lib.hid (half_near HVP.out hh1); have HG := Lib.hid (gr_trans HG.out h2); have HT := Lib.hid (HT.out.grown h2); have HH := Lib.hid h1; clear hh1; clear h1 h2 h3))
    | fail)
  go_upto_region 3 with (first
    | (go_at_call 39; go_loud ((with_reducible refine (real05_c HT.out HV.out.lt HV.out.fin).mono ?_); rintro e1 wa ⟨gx, rfl, h1, h2, h3⟩; rw [HV.out.val] at h1; have HG := Lib.hid (gr_trans HG.out h2); have HT := Lib.hid (HT.out.grown h2); (try have HH := Lib.hid (HH.out.grown h2)); have HX := Lib.hid h1; clear h1 h2 h3))
    | (go_at_call 36; go_loud ((with_reducible refine (quo05_c HT.out HX.out HH.out HV.out.sz (half_sz HVH.out) (by decide) (half_ne HVH.out)).mono ?_); rintro e1 wa ⟨Q, hq1, gq, rfl, h1, h2, h3⟩; have HQ := Lib.hid hq1; have HG := Lib.hid (gr_trans HG.out h2); have HT := Lib.hid (HT.out.grown h2); (try have HH := Lib.hid (HH.out.grown h2)); have HFQ := Lib.hid h1; clear hq1; clear h1 h2 h3))
    | (go_at_call 40; go_loud ((with_reducible refine (f64_c HFQ.out (quot_sz HV.out HVH.out HQ.out) (by decide) (quot_BG HA.out HVH.out HQ.out)).mono ?_); rintro e1 wa ⟨fq, q, c, rfl, hr, hc, hcq, h2⟩; have HRQ := Lib.hid hr; have HVC := Lib.hid hc; have HCQ := Lib.hid hcq; have HG := Lib.hid (gr_trans HG.out h2); have HT := Lib.hid (HT.out.grown h2); (try have HH := Lib.hid (HH.out.grown h2)); clear hr hc hcq h2))
    | fail)
  have HCF := Lib.hid (show ab c ≤ 668002 from by
    obtain ⟨m0, _, m2, _⟩ := round_val HVC.out (show ab c ≤ 1125899906842624 from Rat.le_trans (turn_quot (M := c) HA.out HVH.out.2.1 HQ.out HCQ.out (by rw [show c - c = 0 by grind, show ab (0 : Rat) = 0 by decide +kernel]; decide +kernel)).2.2.2.1 (by decide +kernel))
    exact (turn_quot HA.out HVH.out.2.1 HQ.out HCQ.out m2).2.2.2.1)
  obtain ⟨m, hm1, hm2, _⟩ := round_val HVC.out (Rat.le_trans HCF.out (by decide +kernel))
  obtain ⟨hq1, _, _, _, hmb⟩ := turn_quot HA.out HVH.out.2.1 HQ.out HCQ.out hm2
  have HM1 := Lib.hid hm1
  have HQ1 := Lib.hid hq1
  have HMB := Lib.hid hmb
  have hmi : m.natAbs ≤ 668003 := int_le (k := 668003) (by have e : ((668003 : Nat) : Rat) = 668003 := rfl; rw [e]; exact hmb)
  have hw := wInt_of hm1
  have HW := Lib.hid hw
  have HFQ' := Lib.hid (HRQ.out.eq_of (fin_notN HVC.out.fin))
  obtain rfl : fq = q := HFQ'.out
  have k4 : ∀ w : World, (convert 24 3 (.float .f64 (roundF fq))).run Tryd.prog w = .ok (.int .i64 m) w := fun w => by
    have := run_convert_float_int (P := Tryd.prog) w 24 3 .f64 .i64 _ _ (by kernel_rfl) (by kernel_rfl) (toIntVal_i64 (toInt_wInt hm1.fin) (by omega) (by omega))
    rw [hw] at this; exact this
  have HK4 := Lib.hid k4
  clear hm1 hm2 hq1 hmb hw
  go_upto_region 4 with (first
    | (go_at_call 41; go_loud ((with_reducible refine (round_c HRQ.out HVC.out.fin HVC.out.lt _).mono ?_); rintro e1 wa ⟨r1, n1, rfl, hr1, rfl⟩; obtain rfl : r1 = roundF fq := hr1.eq_of (fin_notN HM1.out.fin); have HG := Lib.hid (gr_drewN n1 HG.out); have HT := Lib.hid (HT.out.grown (gr_drewN n1 (Grown.refl _))); have HH := Lib.hid (HH.out.grown (gr_drewN n1 (Grown.refl _))); clear hr1))
    | (simp only [HK4.out])
    | fail)
  clear k4
  go_upto_region 5 with (first
    | (go_at_call 39; go_loud ((with_reducible refine (real05_c HT.out HV.out.lt HV.out.fin).mono ?_); rintro e1 wa ⟨gx, rfl, h1, h2, h3⟩; rw [HV.out.val] at h1; have HG := Lib.hid (gr_trans HG.out h2); have HT := Lib.hid (HT.out.grown h2); (try have HH := Lib.hid (HH.out.grown h2)); have HX := Lib.hid h1; clear h1 h2 h3))
    | (go_at_call 35; go_loud ((with_reducible refine (whole05_c m HT.out (by omega)).mono ?_); rintro e1 wa ⟨gm, rfl, h1, h2, h3⟩; have HG := Lib.hid (gr_trans HG.out h2); have HT := Lib.hid (HT.out.grown h2); (try have HH := Lib.hid (HH.out.grown h2)); (try have HX := Lib.hid (HX.out.grown h2)); have HMM := Lib.hid h1; clear h1 h2 h3))
    | (go_at_call 42; go_loud ((with_reducible refine (mul05_c HT.out HMM.out HH.out (int_sz HMB.out) (half_sz HVH.out) (by decide)).mono ?_); rintro e1 wa ⟨P, hP, gP, rfl, h1, h2, h3⟩; have HVPm := Lib.hid hP; have HG := Lib.hid (gr_trans HG.out h2); have HT := Lib.hid (HT.out.grown h2); (try have HX := Lib.hid (HX.out.grown h2)); have HPP := Lib.hid h1; clear hP; clear h1 h2 h3))
    | (go_at_call 38; go_loud ((with_reducible refine (sub05_c HT.out HX.out HPP.out HV.out.sz (prod_sz HMB.out HVH.out HVPm.out) (by decide)).mono ?_); rintro e1 wa ⟨y, hy, gy, rfl, h1, h2, h3⟩; have HVY := Lib.hid hy; have HPZ := Lib.hid (HPP.out.grown h2); have HG := Lib.hid (gr_trans HG.out h2); have HT := Lib.hid (HT.out.grown h2); have HY := Lib.hid h1; clear hy; clear h1 h2 h3))
    | fail)
  obtain ⟨b1, b2, b3⟩ := turn_rest HVH.out.1 HVH.out.2.1 HVH.out.2.2.1 HMB.out HQ1.out HVPm.out HVY.out
  obtain ⟨pb, p0⟩ := prod_bound HMB.out HVH.out.2.1 HVH.out.2.2.1 HVPm.out
  have HYZ : RowKit.Hid (Sz 1102 y) := Lib.hid (rest_sz HV.out HPZ.out (prod_sz HMB.out HVH.out HVPm.out) p0 (far_enough HVH.out.2.1 HQ1.out) HA.out pb HVY.out)
  have HY0 : RowKit.Hid ((m : Rat) = 0 → ab (y - a) ≤ u4 * ab a) := Lib.hid (fun h => by
    have := HVY.out
    rw [p0 h, show a - 0 = a by grind] at this; exact this)
  have HYB : RowKit.Hid (ab y ≤ 8 / 10) := Lib.hid (Rat.le_trans b2 (by decide +kernel))
  have HB := Lib.hid (And.intro b1 b2)
  clear b1 b2 b3 pb p0
  go_upto_region 6 with (first
    | (go_at_call 35; go_loud ((with_reducible refine (whole05_c 0 HT.out (by decide)).mono ?_); rintro e1 wa ⟨gs, rfl, h1, h2, h3⟩; rw [HCA.out.1] at h1; have HG := Lib.hid (gr_trans HG.out h2); have HT := Lib.hid (HT.out.grown h2); have HY := Lib.hid (HY.out.grown h2); have HS := Lib.hid h1; clear h1 h2 h3))
    | fail)
  go_upto_region 8 with (first
    | (go_at_call_of 35 (Value.int IntKind.i64 1); go_loud ((with_reducible refine (whole05_c 1 HT.out (by decide)).mono ?_); rintro e1 wa ⟨gt, rfl, h1, h2, h3⟩; rw [HCA.out.2.1] at h1; have HG := Lib.hid (gr_trans HG.out h2); have HT := Lib.hid (HT.out.grown h2); (try have HY := Lib.hid (HY.out.grown h2)); (try have HS := Lib.hid (HS.out.grown h2)); (try have HC := Lib.hid (HC.out.grown h2)); have HM := Lib.hid h1; clear h1 h2 h3))
    | (go_at_call 35; go_loud ((with_reducible refine (whole05_c 0 HT.out (by decide)).mono ?_); rintro e1 wa ⟨gc, rfl, h1, h2, h3⟩; rw [HCA.out.1] at h1; have HG := Lib.hid (gr_trans HG.out h2); have HT := Lib.hid (HT.out.grown h2); have HY := Lib.hid (HY.out.grown h2); have HS := Lib.hid (HS.out.grown h2); have HC := Lib.hid h1; clear h1 h2 h3))
    | fail)
  have HAT0 : RowKit.Hid (TurnAt w y gs gc gt gy 0 _) := Lib.hid ⟨0, 0, 1, (turn_start y).1, (turn_start y).2.1, (turn_start y).2.2, fun _ => rfl, HS.out, HC.out, HM.out, HY.out, HG.out, HT.out⟩
  clear HS HC HM HY HG HT HH HX HPP HPZ HMM HFQ HP HTW
  go_wp2
  go_loopw [9, 10, 11, 12] (fun x1 x2 x3 i wr => ∃ k gs gc gt : Nat, k ≤ 70 ∧ x1 = .pointer (some ⟨gs, 0, none⟩) ∧ x2 = .pointer (some ⟨gc, 0, none⟩) ∧ x3 = .pointer (some ⟨gt, 0, none⟩) ∧ i = .int .i64 (k : Int) ∧ RowKit.Hid (TurnAt w y gs gc gt gy k wr)) (fun _ _ _ i _ => 70 - (intOf i).toNat)
  case atStart => exact ⟨0, gs, gc, gt, by omega, rfl, rfl, rfl, rfl, HAT0⟩
  case round =>
    obtain ⟨k, gs, gc, gt, hk, rfl, rfl, rfl, rfl, HAT⟩ := hrel
    clear HAT0
    obtain ⟨s, c, t, ht, hc, hs, hs0, h1, h2, h3, h4, h5, h6⟩ := HAT.out
    have HTI := Lib.hid ht
    have HCI := Lib.hid hc
    have HSI := Lib.hid hs
    have HS0 := Lib.hid hs0
    have HS := Lib.hid h1
    have HC := Lib.hid h2
    have HM := Lib.hid h3
    have HY := Lib.hid h4
    have HG := Lib.hid h5
    have HT := Lib.hid h6
    have HTZ := Lib.hid (turn_tsz HYZ.out hk ht)
    have HCZ := Lib.hid (turn_csz HYB.out hk hc)
    have HSZ := Lib.hid (turn_ssz HYZ.out HYB.out hk hs hs0)
    have HKC : RowKit.Hid (((((k : Int) + 1 : Int)) : Rat) = ((k + 1 : Nat) : Rat)) := Lib.hid (by rw [show ((k : Int) + 1) = ((k + 1 : Nat) : Int) by omega]; exact Rat.intCast_natCast _)
    clear ht hc hs hs0 h1 h2 h3 h4 h5 h6 HAT
    by_cases hk6 : k < 70
    · rcases (show k % 4 = 0 ∨ k % 4 = 1 ∨ k % 4 = 2 ∨ k % 4 = 3 by omega) with hp4 | hp4 | hp4 | hp4
      · have hpar : k % 2 = 0 := by omega
        have hsg : sg4 k = 1 := by unfold sg4; rw [if_neg (by omega)]
        have hq4 : Int.tmod (k : Int) 4 = 0 := by rw [Int.tmod_eq_emod_of_nonneg (by omega)]; omega
        have hq2 : Int.tmod (k : Int) 2 = 0 := by rw [Int.tmod_eq_emod_of_nonneg (by omega)]; omega
        have hi4 : ((k : Int) % 4) = 0 := by omega
        have hi2 : ((k : Int) % 2) = 0 := by omega
        go_wp2_with (first
          | (go_at_call 76; go_loud ((with_reducible refine (add05_c HT.out HC.out HM.out HCZ.out (turn_osz (k := k) HTZ.out (same_one (t := t) hsg)) (by decide)).mono ?_); rintro e1 wa ⟨c', hc', gc', rfl, h1, h2, h3⟩; have HCN := Lib.hid hc'; have HG := Lib.hid (gr_trans HG.out h2); have HT := Lib.hid (HT.out.grown h2); (try have HS := Lib.hid (HS.out.grown h2)); (try have HC := Lib.hid (HC.out.grown h2)); (try have HM := Lib.hid (HM.out.grown h2)); (try have HY := Lib.hid (HY.out.grown h2)); (try have HO := Lib.hid (HO.out.grown h2)); (try have HZ := Lib.hid (HZ.out.grown h2)); (try have HP1 := Lib.hid (HP1.out.grown h2)); (try have HK := Lib.hid (HK.out.grown h2)); (try have HN := Lib.hid (HN.out.grown h2)); have HN := Lib.hid h1; clear hc'; clear h1 h2 h3))
          | (go_at_call 42; go_loud ((with_reducible refine (mul05_c HT.out HM.out HY.out HTZ.out HYZ.out (by decide)).mono ?_); rintro e1 wa ⟨t1, ht1, g1, rfl, h1, h2, h3⟩; have HT1 := Lib.hid ht1; have HG := Lib.hid (gr_trans HG.out h2); have HT := Lib.hid (HT.out.grown h2); (try have HS := Lib.hid (HS.out.grown h2)); (try have HC := Lib.hid (HC.out.grown h2)); (try have HM := Lib.hid (HM.out.grown h2)); (try have HY := Lib.hid (HY.out.grown h2)); (try have HO := Lib.hid (HO.out.grown h2)); (try have HZ := Lib.hid (HZ.out.grown h2)); (try have HP1 := Lib.hid (HP1.out.grown h2)); (try have HK := Lib.hid (HK.out.grown h2)); (try have HN := Lib.hid (HN.out.grown h2)); have HP1 := Lib.hid h1; clear ht1; clear h1 h2 h3))
          | (go_at_call 35; go_loud ((with_reducible refine (whole05_c ((k : Int) + 1) HT.out (by omega)).mono ?_); rintro e1 wa ⟨gk, rfl, h1, h2, h3⟩; rw [HKC.out] at h1; have HG := Lib.hid (gr_trans HG.out h2); have HT := Lib.hid (HT.out.grown h2); (try have HS := Lib.hid (HS.out.grown h2)); (try have HC := Lib.hid (HC.out.grown h2)); (try have HM := Lib.hid (HM.out.grown h2)); (try have HY := Lib.hid (HY.out.grown h2)); (try have HO := Lib.hid (HO.out.grown h2)); (try have HZ := Lib.hid (HZ.out.grown h2)); (try have HP1 := Lib.hid (HP1.out.grown h2)); (try have HK := Lib.hid (HK.out.grown h2)); (try have HN := Lib.hid (HN.out.grown h2)); have HK := Lib.hid h1; clear h1 h2 h3))
          | (go_at_call 36; go_loud ((with_reducible refine (quo05_c HT.out HP1.out HK.out ((HTZ.out.mul HYZ.out).near HT1.out HU.out) (Sz.nat (k := k + 1) (by omega) (by omega)) (by decide) (by have := nQ_pos k; grind)).mono ?_); rintro e1 wa ⟨t2, ht2, gt2, rfl, h1, h2, h3⟩; have HT2 := Lib.hid ht2; have HG := Lib.hid (gr_trans HG.out h2); have HT := Lib.hid (HT.out.grown h2); (try have HS := Lib.hid (HS.out.grown h2)); (try have HC := Lib.hid (HC.out.grown h2)); (try have HM := Lib.hid (HM.out.grown h2)); (try have HY := Lib.hid (HY.out.grown h2)); (try have HO := Lib.hid (HO.out.grown h2)); (try have HZ := Lib.hid (HZ.out.grown h2)); (try have HP1 := Lib.hid (HP1.out.grown h2)); (try have HK := Lib.hid (HK.out.grown h2)); (try have HN := Lib.hid (HN.out.grown h2)); have HM2 := Lib.hid h1; clear ht2; clear h1 h2 h3))
          | fail)
        go_roundw
        case rel => exact ⟨k + 1, _, _, _, by omega, rfl, rfl, rfl, by go_num, Lib.hid ⟨s, c', t2, turn_term u4_fine.1 u4_fine.2.1 (by omega) HTI.out HT1.out HT2.out, cos_next u4_fine.1 u4_fine.2.1 (by omega) HYB.out hpar HTI.out (same_one (t := t) hsg) HCI.out HCN.out, (sums_same (c := 0) u4_fine.1).2 hpar HSI.out, fun h => HS0.out (by omega), HS.out, HN.out, HM2.out, HY.out, HG.out, HT.out⟩⟩
        case measure => simp [intOf]; omega
      · have hpar : k % 2 = 1 := by omega
        have hsg : sg4 k = 1 := by unfold sg4; rw [if_neg (by omega)]
        have hq4 : Int.tmod (k : Int) 4 = 1 := by rw [Int.tmod_eq_emod_of_nonneg (by omega)]; omega
        have hq2 : Int.tmod (k : Int) 2 = 1 := by rw [Int.tmod_eq_emod_of_nonneg (by omega)]; omega
        have hi4 : ((k : Int) % 4) = 1 := by omega
        have hi2 : ((k : Int) % 2) = 1 := by omega
        go_wp2_with (first
          | (go_at_call 76; go_loud ((with_reducible refine (add05_c HT.out HS.out HM.out HSZ.out (turn_osz (k := k) HTZ.out (same_one (t := t) hsg)) (by decide)).mono ?_); rintro e1 wa ⟨s', hs', gs', rfl, h1, h2, h3⟩; have HSN := Lib.hid hs'; have HG := Lib.hid (gr_trans HG.out h2); have HT := Lib.hid (HT.out.grown h2); (try have HS := Lib.hid (HS.out.grown h2)); (try have HC := Lib.hid (HC.out.grown h2)); (try have HM := Lib.hid (HM.out.grown h2)); (try have HY := Lib.hid (HY.out.grown h2)); (try have HO := Lib.hid (HO.out.grown h2)); (try have HZ := Lib.hid (HZ.out.grown h2)); (try have HP1 := Lib.hid (HP1.out.grown h2)); (try have HK := Lib.hid (HK.out.grown h2)); (try have HN := Lib.hid (HN.out.grown h2)); have HN := Lib.hid h1; clear hs'; clear h1 h2 h3))
          | (go_at_call 42; go_loud ((with_reducible refine (mul05_c HT.out HM.out HY.out HTZ.out HYZ.out (by decide)).mono ?_); rintro e1 wa ⟨t1, ht1, g1, rfl, h1, h2, h3⟩; have HT1 := Lib.hid ht1; have HG := Lib.hid (gr_trans HG.out h2); have HT := Lib.hid (HT.out.grown h2); (try have HS := Lib.hid (HS.out.grown h2)); (try have HC := Lib.hid (HC.out.grown h2)); (try have HM := Lib.hid (HM.out.grown h2)); (try have HY := Lib.hid (HY.out.grown h2)); (try have HO := Lib.hid (HO.out.grown h2)); (try have HZ := Lib.hid (HZ.out.grown h2)); (try have HP1 := Lib.hid (HP1.out.grown h2)); (try have HK := Lib.hid (HK.out.grown h2)); (try have HN := Lib.hid (HN.out.grown h2)); have HP1 := Lib.hid h1; clear ht1; clear h1 h2 h3))
          | (go_at_call 35; go_loud ((with_reducible refine (whole05_c ((k : Int) + 1) HT.out (by omega)).mono ?_); rintro e1 wa ⟨gk, rfl, h1, h2, h3⟩; rw [HKC.out] at h1; have HG := Lib.hid (gr_trans HG.out h2); have HT := Lib.hid (HT.out.grown h2); (try have HS := Lib.hid (HS.out.grown h2)); (try have HC := Lib.hid (HC.out.grown h2)); (try have HM := Lib.hid (HM.out.grown h2)); (try have HY := Lib.hid (HY.out.grown h2)); (try have HO := Lib.hid (HO.out.grown h2)); (try have HZ := Lib.hid (HZ.out.grown h2)); (try have HP1 := Lib.hid (HP1.out.grown h2)); (try have HK := Lib.hid (HK.out.grown h2)); (try have HN := Lib.hid (HN.out.grown h2)); have HK := Lib.hid h1; clear h1 h2 h3))
          | (go_at_call 36; go_loud ((with_reducible refine (quo05_c HT.out HP1.out HK.out ((HTZ.out.mul HYZ.out).near HT1.out HU.out) (Sz.nat (k := k + 1) (by omega) (by omega)) (by decide) (by have := nQ_pos k; grind)).mono ?_); rintro e1 wa ⟨t2, ht2, gt2, rfl, h1, h2, h3⟩; have HT2 := Lib.hid ht2; have HG := Lib.hid (gr_trans HG.out h2); have HT := Lib.hid (HT.out.grown h2); (try have HS := Lib.hid (HS.out.grown h2)); (try have HC := Lib.hid (HC.out.grown h2)); (try have HM := Lib.hid (HM.out.grown h2)); (try have HY := Lib.hid (HY.out.grown h2)); (try have HO := Lib.hid (HO.out.grown h2)); (try have HZ := Lib.hid (HZ.out.grown h2)); (try have HP1 := Lib.hid (HP1.out.grown h2)); (try have HK := Lib.hid (HK.out.grown h2)); (try have HN := Lib.hid (HN.out.grown h2)); have HM2 := Lib.hid h1; clear ht2; clear h1 h2 h3))
          | fail)
        go_roundw
        case rel => exact ⟨k + 1, _, _, _, by omega, rfl, rfl, rfl, by go_num, Lib.hid ⟨s', c, t2, turn_term u4_fine.1 u4_fine.2.1 (by omega) HTI.out HT1.out HT2.out, (sums_same (s := 0) u4_fine.1).1 hpar HCI.out, sin_next u4_fine.1 u4_fine.2.1 (by omega) HYB.out hpar HTI.out (same_one (t := t) hsg) HSI.out HSN.out, fun h => by omega, HN.out, HC.out, HM2.out, HY.out, HG.out, HT.out⟩⟩
        case measure => simp [intOf]; omega
      · have hpar : k % 2 = 0 := by omega
        have hsg : sg4 k = -1 := by unfold sg4; rw [if_pos (by omega)]
        have hq4 : Int.tmod (k : Int) 4 = 2 := by rw [Int.tmod_eq_emod_of_nonneg (by omega)]; omega
        have hq2 : Int.tmod (k : Int) 2 = 0 := by rw [Int.tmod_eq_emod_of_nonneg (by omega)]; omega
        have hi4 : ((k : Int) % 4) = 2 := by omega
        have hi2 : ((k : Int) % 2) = 0 := by omega
        go_wp2_with (first
          | (go_at_call_of 35 (Value.int IntKind.i64 0); go_loud ((with_reducible refine (whole05_c 0 HT.out (by decide)).mono ?_); rintro e1 wa ⟨gz, rfl, h1, h2, h3⟩; rw [HCA.out.1] at h1; have HG := Lib.hid (gr_trans HG.out h2); have HT := Lib.hid (HT.out.grown h2); (try have HS := Lib.hid (HS.out.grown h2)); (try have HC := Lib.hid (HC.out.grown h2)); (try have HM := Lib.hid (HM.out.grown h2)); (try have HY := Lib.hid (HY.out.grown h2)); (try have HO := Lib.hid (HO.out.grown h2)); (try have HZ := Lib.hid (HZ.out.grown h2)); (try have HP1 := Lib.hid (HP1.out.grown h2)); (try have HK := Lib.hid (HK.out.grown h2)); (try have HN := Lib.hid (HN.out.grown h2)); have HZ := Lib.hid h1; clear h1 h2 h3))
          | (go_at_call 38; go_loud ((with_reducible refine (sub05_c HT.out HZ.out HM.out Sz.zero HTZ.out (by decide)).mono ?_); rintro e1 wa ⟨o, ho, go, rfl, h1, h2, h3⟩; have HO2 := Lib.hid ho; have HG := Lib.hid (gr_trans HG.out h2); have HT := Lib.hid (HT.out.grown h2); (try have HS := Lib.hid (HS.out.grown h2)); (try have HC := Lib.hid (HC.out.grown h2)); (try have HM := Lib.hid (HM.out.grown h2)); (try have HY := Lib.hid (HY.out.grown h2)); (try have HO := Lib.hid (HO.out.grown h2)); (try have HZ := Lib.hid (HZ.out.grown h2)); (try have HP1 := Lib.hid (HP1.out.grown h2)); (try have HK := Lib.hid (HK.out.grown h2)); (try have HN := Lib.hid (HN.out.grown h2)); have HO := Lib.hid h1; clear ho; clear h1 h2 h3))
          | (go_at_call 76; go_loud ((with_reducible refine (add05_c HT.out HC.out HO.out HCZ.out (turn_osz (k := k) HTZ.out (neg_turn (t := t) hsg HO2.out)) (by decide)).mono ?_); rintro e1 wa ⟨c', hc', gc', rfl, h1, h2, h3⟩; have HCN := Lib.hid hc'; have HG := Lib.hid (gr_trans HG.out h2); have HT := Lib.hid (HT.out.grown h2); (try have HS := Lib.hid (HS.out.grown h2)); (try have HC := Lib.hid (HC.out.grown h2)); (try have HM := Lib.hid (HM.out.grown h2)); (try have HY := Lib.hid (HY.out.grown h2)); (try have HO := Lib.hid (HO.out.grown h2)); (try have HZ := Lib.hid (HZ.out.grown h2)); (try have HP1 := Lib.hid (HP1.out.grown h2)); (try have HK := Lib.hid (HK.out.grown h2)); (try have HN := Lib.hid (HN.out.grown h2)); have HN := Lib.hid h1; clear hc'; clear h1 h2 h3))
          | (go_at_call 42; go_loud ((with_reducible refine (mul05_c HT.out HM.out HY.out HTZ.out HYZ.out (by decide)).mono ?_); rintro e1 wa ⟨t1, ht1, g1, rfl, h1, h2, h3⟩; have HT1 := Lib.hid ht1; have HG := Lib.hid (gr_trans HG.out h2); have HT := Lib.hid (HT.out.grown h2); (try have HS := Lib.hid (HS.out.grown h2)); (try have HC := Lib.hid (HC.out.grown h2)); (try have HM := Lib.hid (HM.out.grown h2)); (try have HY := Lib.hid (HY.out.grown h2)); (try have HO := Lib.hid (HO.out.grown h2)); (try have HZ := Lib.hid (HZ.out.grown h2)); (try have HP1 := Lib.hid (HP1.out.grown h2)); (try have HK := Lib.hid (HK.out.grown h2)); (try have HN := Lib.hid (HN.out.grown h2)); have HP1 := Lib.hid h1; clear ht1; clear h1 h2 h3))
          | (go_at_call 35; go_loud ((with_reducible refine (whole05_c ((k : Int) + 1) HT.out (by omega)).mono ?_); rintro e1 wa ⟨gk, rfl, h1, h2, h3⟩; rw [HKC.out] at h1; have HG := Lib.hid (gr_trans HG.out h2); have HT := Lib.hid (HT.out.grown h2); (try have HS := Lib.hid (HS.out.grown h2)); (try have HC := Lib.hid (HC.out.grown h2)); (try have HM := Lib.hid (HM.out.grown h2)); (try have HY := Lib.hid (HY.out.grown h2)); (try have HO := Lib.hid (HO.out.grown h2)); (try have HZ := Lib.hid (HZ.out.grown h2)); (try have HP1 := Lib.hid (HP1.out.grown h2)); (try have HK := Lib.hid (HK.out.grown h2)); (try have HN := Lib.hid (HN.out.grown h2)); have HK := Lib.hid h1; clear h1 h2 h3))
          | (go_at_call 36; go_loud ((with_reducible refine (quo05_c HT.out HP1.out HK.out ((HTZ.out.mul HYZ.out).near HT1.out HU.out) (Sz.nat (k := k + 1) (by omega) (by omega)) (by decide) (by have := nQ_pos k; grind)).mono ?_); rintro e1 wa ⟨t2, ht2, gt2, rfl, h1, h2, h3⟩; have HT2 := Lib.hid ht2; have HG := Lib.hid (gr_trans HG.out h2); have HT := Lib.hid (HT.out.grown h2); (try have HS := Lib.hid (HS.out.grown h2)); (try have HC := Lib.hid (HC.out.grown h2)); (try have HM := Lib.hid (HM.out.grown h2)); (try have HY := Lib.hid (HY.out.grown h2)); (try have HO := Lib.hid (HO.out.grown h2)); (try have HZ := Lib.hid (HZ.out.grown h2)); (try have HP1 := Lib.hid (HP1.out.grown h2)); (try have HK := Lib.hid (HK.out.grown h2)); (try have HN := Lib.hid (HN.out.grown h2)); have HM2 := Lib.hid h1; clear ht2; clear h1 h2 h3))
          | fail)
        go_roundw
        case rel => exact ⟨k + 1, _, _, _, by omega, rfl, rfl, rfl, by go_num, Lib.hid ⟨s, c', t2, turn_term u4_fine.1 u4_fine.2.1 (by omega) HTI.out HT1.out HT2.out, cos_next u4_fine.1 u4_fine.2.1 (by omega) HYB.out hpar HTI.out (neg_turn (t := t) hsg HO2.out) HCI.out HCN.out, (sums_same (c := 0) u4_fine.1).2 hpar HSI.out, fun h => HS0.out (by omega), HS.out, HN.out, HM2.out, HY.out, HG.out, HT.out⟩⟩
        case measure => simp [intOf]; omega
      · have hpar : k % 2 = 1 := by omega
        have hsg : sg4 k = -1 := by unfold sg4; rw [if_pos (by omega)]
        have hq4 : Int.tmod (k : Int) 4 = 3 := by rw [Int.tmod_eq_emod_of_nonneg (by omega)]; omega
        have hq2 : Int.tmod (k : Int) 2 = 1 := by rw [Int.tmod_eq_emod_of_nonneg (by omega)]; omega
        have hi4 : ((k : Int) % 4) = 3 := by omega
        have hi2 : ((k : Int) % 2) = 1 := by omega
        go_wp2_with (first
          | (go_at_call_of 35 (Value.int IntKind.i64 0); go_loud ((with_reducible refine (whole05_c 0 HT.out (by decide)).mono ?_); rintro e1 wa ⟨gz, rfl, h1, h2, h3⟩; rw [HCA.out.1] at h1; have HG := Lib.hid (gr_trans HG.out h2); have HT := Lib.hid (HT.out.grown h2); (try have HS := Lib.hid (HS.out.grown h2)); (try have HC := Lib.hid (HC.out.grown h2)); (try have HM := Lib.hid (HM.out.grown h2)); (try have HY := Lib.hid (HY.out.grown h2)); (try have HO := Lib.hid (HO.out.grown h2)); (try have HZ := Lib.hid (HZ.out.grown h2)); (try have HP1 := Lib.hid (HP1.out.grown h2)); (try have HK := Lib.hid (HK.out.grown h2)); (try have HN := Lib.hid (HN.out.grown h2)); have HZ := Lib.hid h1; clear h1 h2 h3))
          | (go_at_call 38; go_loud ((with_reducible refine (sub05_c HT.out HZ.out HM.out Sz.zero HTZ.out (by decide)).mono ?_); rintro e1 wa ⟨o, ho, go, rfl, h1, h2, h3⟩; have HO2 := Lib.hid ho; have HG := Lib.hid (gr_trans HG.out h2); have HT := Lib.hid (HT.out.grown h2); (try have HS := Lib.hid (HS.out.grown h2)); (try have HC := Lib.hid (HC.out.grown h2)); (try have HM := Lib.hid (HM.out.grown h2)); (try have HY := Lib.hid (HY.out.grown h2)); (try have HO := Lib.hid (HO.out.grown h2)); (try have HZ := Lib.hid (HZ.out.grown h2)); (try have HP1 := Lib.hid (HP1.out.grown h2)); (try have HK := Lib.hid (HK.out.grown h2)); (try have HN := Lib.hid (HN.out.grown h2)); have HO := Lib.hid h1; clear ho; clear h1 h2 h3))
          | (go_at_call 76; go_loud ((with_reducible refine (add05_c HT.out HS.out HO.out HSZ.out (turn_osz (k := k) HTZ.out (neg_turn (t := t) hsg HO2.out)) (by decide)).mono ?_); rintro e1 wa ⟨s', hs', gs', rfl, h1, h2, h3⟩; have HSN := Lib.hid hs'; have HG := Lib.hid (gr_trans HG.out h2); have HT := Lib.hid (HT.out.grown h2); (try have HS := Lib.hid (HS.out.grown h2)); (try have HC := Lib.hid (HC.out.grown h2)); (try have HM := Lib.hid (HM.out.grown h2)); (try have HY := Lib.hid (HY.out.grown h2)); (try have HO := Lib.hid (HO.out.grown h2)); (try have HZ := Lib.hid (HZ.out.grown h2)); (try have HP1 := Lib.hid (HP1.out.grown h2)); (try have HK := Lib.hid (HK.out.grown h2)); (try have HN := Lib.hid (HN.out.grown h2)); have HN := Lib.hid h1; clear hs'; clear h1 h2 h3))
          | (go_at_call 42; go_loud ((with_reducible refine (mul05_c HT.out HM.out HY.out HTZ.out HYZ.out (by decide)).mono ?_); rintro e1 wa ⟨t1, ht1, g1, rfl, h1, h2, h3⟩; have HT1 := Lib.hid ht1; have HG := Lib.hid (gr_trans HG.out h2); have HT := Lib.hid (HT.out.grown h2); (try have HS := Lib.hid (HS.out.grown h2)); (try have HC := Lib.hid (HC.out.grown h2)); (try have HM := Lib.hid (HM.out.grown h2)); (try have HY := Lib.hid (HY.out.grown h2)); (try have HO := Lib.hid (HO.out.grown h2)); (try have HZ := Lib.hid (HZ.out.grown h2)); (try have HP1 := Lib.hid (HP1.out.grown h2)); (try have HK := Lib.hid (HK.out.grown h2)); (try have HN := Lib.hid (HN.out.grown h2)); have HP1 := Lib.hid h1; clear ht1; clear h1 h2 h3))
          | (go_at_call 35; go_loud ((with_reducible refine (whole05_c ((k : Int) + 1) HT.out (by omega)).mono ?_); rintro e1 wa ⟨gk, rfl, h1, h2, h3⟩; rw [HKC.out] at h1; have HG := Lib.hid (gr_trans HG.out h2); have HT := Lib.hid (HT.out.grown h2); (try have HS := Lib.hid (HS.out.grown h2)); (try have HC := Lib.hid (HC.out.grown h2)); (try have HM := Lib.hid (HM.out.grown h2)); (try have HY := Lib.hid (HY.out.grown h2)); (try have HO := Lib.hid (HO.out.grown h2)); (try have HZ := Lib.hid (HZ.out.grown h2)); (try have HP1 := Lib.hid (HP1.out.grown h2)); (try have HK := Lib.hid (HK.out.grown h2)); (try have HN := Lib.hid (HN.out.grown h2)); have HK := Lib.hid h1; clear h1 h2 h3))
          | (go_at_call 36; go_loud ((with_reducible refine (quo05_c HT.out HP1.out HK.out ((HTZ.out.mul HYZ.out).near HT1.out HU.out) (Sz.nat (k := k + 1) (by omega) (by omega)) (by decide) (by have := nQ_pos k; grind)).mono ?_); rintro e1 wa ⟨t2, ht2, gt2, rfl, h1, h2, h3⟩; have HT2 := Lib.hid ht2; have HG := Lib.hid (gr_trans HG.out h2); have HT := Lib.hid (HT.out.grown h2); (try have HS := Lib.hid (HS.out.grown h2)); (try have HC := Lib.hid (HC.out.grown h2)); (try have HM := Lib.hid (HM.out.grown h2)); (try have HY := Lib.hid (HY.out.grown h2)); (try have HO := Lib.hid (HO.out.grown h2)); (try have HZ := Lib.hid (HZ.out.grown h2)); (try have HP1 := Lib.hid (HP1.out.grown h2)); (try have HK := Lib.hid (HK.out.grown h2)); (try have HN := Lib.hid (HN.out.grown h2)); have HM2 := Lib.hid h1; clear ht2; clear h1 h2 h3))
          | fail)
        go_roundw
        case rel => exact ⟨k + 1, _, _, _, by omega, rfl, rfl, rfl, by go_num, Lib.hid ⟨s', c, t2, turn_term u4_fine.1 u4_fine.2.1 (by omega) HTI.out HT1.out HT2.out, (sums_same (s := 0) u4_fine.1).1 hpar HCI.out, sin_next u4_fine.1 u4_fine.2.1 (by omega) HYB.out hpar HTI.out (neg_turn (t := t) hsg HO2.out) HSI.out HSN.out, fun h => by omega, HN.out, HC.out, HM2.out, HY.out, HG.out, HT.out⟩⟩
        case measure => simp [intOf]; omega
    · obtain rfl : k = 70 := by omega
      have HOK := Lib.hid (ser_ok HYB.out HCI.out HSI.out)
      have hmt := (mod_four m).1
      refine (?_ : _)
      have fin0 := HB.out
      rcases (show m % 4 = 0 ∨ m % 4 = 1 ∨ m % 4 = 2 ∨ m % 4 = 3 by omega) with hm4 | hm4 | hm4 | hm4
      · have hr4 : Int.tmod (Int.tmod m 4 + 4) 4 = 0 := by rw [(mod_four m).2]; exact hm4
        go_wp2_with fail
        go_ret2
        refine ⟨m, y, HB.out.1, HB.out.2, HY0.out, HMB.out, ?_⟩
        exact ⟨_, _, s, c, rfl, HS.out, HC.out, HG.out, HSZ.out.mono (by decide), HCZ.out.mono (by decide), turn_zero hm4 HOK.out⟩
      · have hr4 : Int.tmod (Int.tmod m 4 + 4) 4 = 1 := by rw [(mod_four m).2]; exact hm4
        go_wp2_with (first
          | (go_at_call_of 35 (Value.int IntKind.i64 0); go_loud ((with_reducible refine (whole05_c 0 HT.out (by decide)).mono ?_); rintro e1 wa ⟨gz, rfl, h1, h2, h3⟩; rw [HCA.out.1] at h1; have HG := Lib.hid (gr_trans HG.out h2); have HT := Lib.hid (HT.out.grown h2); (try have HS := Lib.hid (HS.out.grown h2)); (try have HC := Lib.hid (HC.out.grown h2)); (try have HZ := Lib.hid (HZ.out.grown h2)); (try have HO := Lib.hid (HO.out.grown h2)); (try have HNS := Lib.hid (HNS.out.grown h2)); (try have HN := Lib.hid (HN.out.grown h2)); have HZ := Lib.hid h1; clear h1 h2 h3))
          | (go_at_call 38; go_loud (first
              | ((with_reducible refine (sub05_c HT.out HZ.out HS.out Sz.zero HSZ.out (by decide)).mono ?_); rintro e1 wa ⟨ns, hns, gns, rfl, h1, h2, h3⟩; have HVns := Lib.hid hns; have HG := Lib.hid (gr_trans HG.out h2); have HT := Lib.hid (HT.out.grown h2); (try have HS := Lib.hid (HS.out.grown h2)); (try have HC := Lib.hid (HC.out.grown h2)); (try have HZ := Lib.hid (HZ.out.grown h2)); (try have HO := Lib.hid (HO.out.grown h2)); (try have HNS := Lib.hid (HNS.out.grown h2)); (try have HN := Lib.hid (HN.out.grown h2)); have HNS := Lib.hid h1; clear hns h1 h2 h3)
))
          | fail)
        go_ret2
        refine ⟨m, y, HB.out.1, HB.out.2, HY0.out, HMB.out, ?_⟩
        exact ⟨_, _, c, ns, rfl, HC.out, HNS.out, HG.out, HCZ.out.mono (by decide), (neg_sz HSZ.out HVns.out).mono (by decide), turn_one hm4 HOK.out HVns.out⟩
      · have hr4 : Int.tmod (Int.tmod m 4 + 4) 4 = 2 := by rw [(mod_four m).2]; exact hm4
        go_wp2_with (first
          | (go_at_call_of 35 (Value.int IntKind.i64 0); go_loud ((with_reducible refine (whole05_c 0 HT.out (by decide)).mono ?_); rintro e1 wa ⟨gz, rfl, h1, h2, h3⟩; rw [HCA.out.1] at h1; have HG := Lib.hid (gr_trans HG.out h2); have HT := Lib.hid (HT.out.grown h2); (try have HS := Lib.hid (HS.out.grown h2)); (try have HC := Lib.hid (HC.out.grown h2)); (try have HZ := Lib.hid (HZ.out.grown h2)); (try have HO := Lib.hid (HO.out.grown h2)); (try have HNS := Lib.hid (HNS.out.grown h2)); (try have HN := Lib.hid (HN.out.grown h2)); have HZ := Lib.hid h1; clear h1 h2 h3))
          | (go_at_call_of 38 (Value.pointer (some ⟨gc, 0, none⟩)); go_loud (first
              | ((with_reducible refine (sub05_c HT.out HZ.out HC.out Sz.zero HCZ.out (by decide)).mono ?_); rintro e1 wa ⟨nc, hnc, gnc, rfl, h1, h2, h3⟩; have HVnc := Lib.hid hnc; have HG := Lib.hid (gr_trans HG.out h2); have HT := Lib.hid (HT.out.grown h2); (try have HS := Lib.hid (HS.out.grown h2)); (try have HC := Lib.hid (HC.out.grown h2)); (try have HZ := Lib.hid (HZ.out.grown h2)); (try have HO := Lib.hid (HO.out.grown h2)); (try have HNS := Lib.hid (HNS.out.grown h2)); (try have HN := Lib.hid (HN.out.grown h2)); have HNC := Lib.hid h1; clear hnc h1 h2 h3)
))
          | (go_at_call 38; go_loud (first
              | ((with_reducible refine (sub05_c HT.out HZ.out HS.out Sz.zero HSZ.out (by decide)).mono ?_); rintro e1 wa ⟨ns, hns, gns, rfl, h1, h2, h3⟩; have HVns := Lib.hid hns; have HG := Lib.hid (gr_trans HG.out h2); have HT := Lib.hid (HT.out.grown h2); (try have HS := Lib.hid (HS.out.grown h2)); (try have HC := Lib.hid (HC.out.grown h2)); (try have HZ := Lib.hid (HZ.out.grown h2)); (try have HO := Lib.hid (HO.out.grown h2)); (try have HNS := Lib.hid (HNS.out.grown h2)); (try have HN := Lib.hid (HN.out.grown h2)); have HNS := Lib.hid h1; clear hns h1 h2 h3)
))
          | fail)
        go_ret2
        refine ⟨m, y, HB.out.1, HB.out.2, HY0.out, HMB.out, ?_⟩
        exact ⟨_, _, ns, nc, rfl, HNS.out, HNC.out, HG.out, (neg_sz HSZ.out HVns.out).mono (by decide), (neg_sz HCZ.out HVnc.out).mono (by decide), turn_two hm4 HOK.out HVns.out HVnc.out⟩
      · have hr4 : Int.tmod (Int.tmod m 4 + 4) 4 = 3 := by rw [(mod_four m).2]; exact hm4
        go_wp2_with (first
          | (go_at_call_of 35 (Value.int IntKind.i64 0); go_loud ((with_reducible refine (whole05_c 0 HT.out (by decide)).mono ?_); rintro e1 wa ⟨gz, rfl, h1, h2, h3⟩; rw [HCA.out.1] at h1; have HG := Lib.hid (gr_trans HG.out h2); have HT := Lib.hid (HT.out.grown h2); (try have HS := Lib.hid (HS.out.grown h2)); (try have HC := Lib.hid (HC.out.grown h2)); (try have HZ := Lib.hid (HZ.out.grown h2)); (try have HO := Lib.hid (HO.out.grown h2)); (try have HNS := Lib.hid (HNS.out.grown h2)); (try have HN := Lib.hid (HN.out.grown h2)); have HZ := Lib.hid h1; clear h1 h2 h3))
          | (go_at_call 38; go_loud (first
              | ((with_reducible refine (sub05_c HT.out HZ.out HC.out Sz.zero HCZ.out (by decide)).mono ?_); rintro e1 wa ⟨nc, hnc, gnc, rfl, h1, h2, h3⟩; have HVnc := Lib.hid hnc; have HG := Lib.hid (gr_trans HG.out h2); have HT := Lib.hid (HT.out.grown h2); (try have HS := Lib.hid (HS.out.grown h2)); (try have HC := Lib.hid (HC.out.grown h2)); (try have HZ := Lib.hid (HZ.out.grown h2)); (try have HO := Lib.hid (HO.out.grown h2)); (try have HNS := Lib.hid (HNS.out.grown h2)); (try have HN := Lib.hid (HN.out.grown h2)); have HNC := Lib.hid h1; clear hnc h1 h2 h3)
))
          | fail)
        go_ret2
        refine ⟨m, y, HB.out.1, HB.out.2, HY0.out, HMB.out, ?_⟩
        exact ⟨_, _, nc, s, rfl, HNC.out, HS.out, HG.out, (neg_sz HCZ.out HVnc.out).mono (by decide), HSZ.out.mono (by decide), turn_three hm4 HOK.out HVnc.out⟩
end Go.Proofs.YtcfkhhnkboealaaDoor
