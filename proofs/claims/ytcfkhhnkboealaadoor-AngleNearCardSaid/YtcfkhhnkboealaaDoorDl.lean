/- The law's nearness: a float and a big float that differ by little. -/
import Derived.Test.YtcfkhhnkboealaaDoorDk
namespace Go.Proofs.YtcfkhhnkboealaaDoor
open Go.RowKit
set_option linter.unusedVariables false
set_option linter.unusedSimpArgs false
set_option maxRecDepth 100000
set_option maxHeartbeats 4000000
open Turns Sizes
/-- answers true where both differ by at most so much of a value, and the least float. -/
def RetNr5 (x v o : Rat) (p : Nat) (w : World) (e : Ending) (w' : World) : Prop := ∃ b, e = .returned (.bool b) ∧ (ab (x - v) * (1 + tw 200) ≤ pw (-(p : Int)) * ab o + pw (-1074) → b = true) ∧ Grown w w'
theorem room_prod {u O Q b1 P b2 : Rat} (u0 : 0 ≤ u) (u1 : u ≤ 1 / 1000000000000) (no : 0 ≤ O) (hQ : 0 < Q) (hb1 : ab (b1 - O) ≤ u * O) (hP : ab (P - Q) ≤ u * Q) (hb2 : ab (b2 - b1 * P) ≤ u * ab (b1 * P)) : Q * O - 4 * (u * (Q * O)) ≤ b2 ∧ b2 ≤ Q * O + 5 * (u * (Q * O)) := by
  have b1l : O - u * O ≤ b1 ∧ b1 ≤ O + u * O := by have := ab_le.1 hb1; constructor <;> grind
  have Pl : Q - u * Q ≤ P ∧ P ≤ Q + u * Q := by have := ab_le.1 hP; constructor <;> grind
  have uO1 := Rat.mul_le_mul_of_nonneg_right u1 no
  have uQ1 := Rat.mul_le_mul_of_nonneg_right u1 (Rat.le_of_lt hQ)
  have b10 : 0 ≤ b1 := by grind
  have P0 : 0 ≤ P := by grind
  have QO := mul_nn (Rat.le_of_lt hQ) no
  have uQO := mul_nn u0 QO
  have uY1 := Rat.mul_le_mul_of_nonneg_right u1 QO
  have uuQO := mul_nn u0 uQO
  have uuQO1 := Rat.mul_le_mul_of_nonneg_right u1 uQO
  have lo : (O - u * O) * (Q - u * Q) ≤ b1 * P := mul_mono (by grind) b1l.1 (by grind) Pl.1
  have hi : b1 * P ≤ (O + u * O) * (Q + u * Q) := mul_mono b10 b1l.2 P0 Pl.2
  have e1 : (O - u * O) * (Q - u * Q) = Q * O - 2 * (u * (Q * O)) + u * (u * (Q * O)) := by grind
  have e2 : (O + u * O) * (Q + u * Q) = Q * O + 2 * (u * (Q * O)) + u * (u * (Q * O)) := by grind
  rw [e1] at lo
  rw [e2] at hi
  have bp := mul_nn b10 P0
  rw [ab_pos bp] at hb2
  clear e1 e2 b1l Pl uO1 uQ1 b10 P0 bp hb1 hP
  generalize b1 * P = X at *
  generalize Q * O = Y at *
  have uX := Rat.mul_le_mul_of_nonneg_left (show X ≤ 2 * Y by grind) u0
  have e3 : u * (2 * Y) = 2 * (u * Y) := by grind
  rw [e3] at uX
  have hb := ab_le.1 hb2
  clear hb2 e3
  generalize u * (u * Y) = z2 at *
  generalize u * Y = z1 at *
  generalize u * X = z3 at *
  constructor <;> grind
theorem room_sum {u Y T b2 E b3 : Rat} (u0 : 0 ≤ u) (u1 : u ≤ 1 / 1000000000000) (hY : 0 ≤ Y) (hT : 0 < T) (l : Y - 4 * (u * Y) ≤ b2) (h : b2 ≤ Y + 5 * (u * Y)) (hE : ab (E - T) ≤ u * T) (hb3 : ab (b3 - (b2 + E)) ≤ u * ab (b2 + E)) : (1 - 6 * u) * (Y + T) ≤ b3 ∧ b3 ≤ 2 * (Y + T) := by
  have uY := mul_nn u0 hY
  have uT := mul_nn u0 (Rat.le_of_lt hT)
  have uY1 := Rat.mul_le_mul_of_nonneg_right u1 hY
  have uT1 := Rat.mul_le_mul_of_nonneg_right u1 (Rat.le_of_lt hT)
  have El := ab_le.1 hE
  have s0 : 0 ≤ b2 + E := by grind
  have s1 : b2 + E ≤ 11 / 10 * (Y + T) := by grind
  rw [ab_pos s0] at hb3
  have us := Rat.mul_le_mul_of_nonneg_left s1 u0
  have e2 : u * (11 / 10 * (Y + T)) = 11 / 10 * (u * Y) + 11 / 10 * (u * T) := by grind
  have e : (1 - 6 * u) * (Y + T) = Y + T - 6 * (u * Y) - 6 * (u * T) := by grind
  rw [e2] at us
  rw [e]
  have b := ab_le.1 (Rat.le_trans hb3 us)
  clear e e2 hb3 us hE
  generalize u * Y = z1 at *
  generalize u * T = z2 at *
  constructor <;> grind
theorem room_less {u t S v1 d d2 : Rat} (u0 : 0 ≤ u) (u1 : u ≤ 1 / 1000000000000) (ut : 16 * u ≤ t) (hd1 : ab (v1 - d) ≤ u * ab d) (hd2 : ab (d2 - ab v1) ≤ u * ab (ab v1)) (h : ab d * (1 + t) ≤ S) : d2 ≤ (1 - 6 * u) * S := by
  have nd := ab_nn d
  have nv := ab_nn v1
  rw [ab_pos nv] at hd2
  have x := ab_add (v1 - d) d
  rw [show v1 - d + d = v1 by grind] at x
  generalize ab d = D at *
  generalize ab v1 = A at *
  have uD := mul_nn u0 nd
  have uD1 := Rat.mul_le_mul_of_nonneg_right u1 nd
  have uuD := mul_nn u0 uD
  have uuD1 := Rat.mul_le_mul_of_nonneg_right u1 uD
  have uA := Rat.mul_le_mul_of_nonneg_left (show A ≤ 2 * D by grind) u0
  have tD := Rat.mul_le_mul_of_nonneg_right ut nd
  have S1 : D + 16 * (u * D) ≤ S := by
    have e : D * (1 + t) = D + t * D := by grind
    have e2 : 16 * u * D = 16 * (u * D) := by grind
    rw [e] at h
    rw [e2] at tD
    grind
  have k := Rat.mul_le_mul_of_nonneg_left S1 (show 0 ≤ 1 - 6 * u by grind)
  have e : (1 - 6 * u) * (D + 16 * (u * D)) = D + 10 * (u * D) - 96 * (u * (u * D)) := by grind
  have e3 : u * (2 * D) = 2 * (u * D) := by grind
  rw [e] at k
  rw [e3] at uA
  have b := ab_le.1 hd2
  clear e e3 hd2 h S1 tD
  generalize (1 - 6 * u) * S = R at *
  generalize u * (u * D) = z2 at *
  generalize u * D = z1 at *
  generalize u * A = z3 at *
  grind
theorem room_five {d v1 d2 o b1 P b2 E b3 Q T : Rat} (hd1 : ab (v1 - d) ≤ u4 * ab d) (hd2 : ab (d2 - ab v1) ≤ u4 * ab (ab v1)) (hb1 : ab (b1 - ab o) ≤ u4 * ab (ab o)) (hQ : 0 < Q) (hT : 0 < T) (hP : ab (P - 1 * Q) ≤ u4 * ab (1 * Q)) (hb2 : ab (b2 - b1 * P) ≤ u4 * ab (b1 * P)) (hE : ab (E - 1 * T) ≤ u4 * ab (1 * T)) (hb3 : ab (b3 - (b2 + E)) ≤ u4 * ab (b2 + E)) :
    (ab d * (1 + tw 200) ≤ Q * ab o + T → d2 ≤ b3) ∧ (1 - 6 * u4) * (Q * ab o + T) ≤ b3 ∧ b3 ≤ 2 * (Q * ab o + T) := by
  obtain ⟨u0, u1, u2⟩ := u4_fine
  have w : 16 * tw 390 ≤ tw 200 := by decide +kernel
  have no := ab_nn o
  rw [ab_pos no] at hb1
  rw [Rat.one_mul, ab_pos (Rat.le_of_lt hQ)] at hP
  rw [Rat.one_mul, ab_pos (Rat.le_of_lt hT)] at hE
  obtain ⟨l, h⟩ := room_prod u0 u1 no hQ hb1 hP hb2
  obtain ⟨a, b⟩ := room_sum u0 u1 (mul_nn (Rat.le_of_lt hQ) no) hT l h hE hb3
  exact ⟨fun k => Rat.le_trans (room_less u0 u1 (Rat.le_trans (Rat.mul_le_mul_of_nonneg_left u2 (by decide +kernel)) w) hd1 hd2 k) a, a, b⟩
theorem room_fsz {o b3 : Rat} {n p : Nat} (hn : n ≤ 9000) (hp : p ≤ 60) (ho : Sz n o) (h1 : (1 - 6 * u4) * (pw (-(p : Int)) * ab o + pw (-1074)) ≤ b3) (h2 : b3 ≤ 2 * (pw (-(p : Int)) * ab o + pw (-1074))) : Sz (n + 1100) b3 := by
  obtain ⟨u0, u1, u2⟩ := u4_fine
  have no := ab_nn o
  have pp := pw_pos (-(p : Int))
  have q := mul_nn (Rat.le_of_lt pp) no
  have p1 : pw (-(p : Int)) ≤ 1 := by have := pw_mono (show -(p : Int) ≤ 0 by omega); rwa [pw_zero] at this
  have ob : ab o ≤ pw (n : Int) := by
    rcases ho with h | h
    · rw [h, show ab (0 : Rat) = 0 by decide +kernel]; exact Rat.le_of_lt (pw_pos _)
    · exact h.2
  have up : pw (-(p : Int)) * ab o ≤ pw (n : Int) := by
    have := mul_mono (Rat.le_of_lt pp) p1 no ob
    rw [Rat.one_mul] at this; exact this
  have t1 : pw (-1074) ≤ pw (n : Int) := pw_mono (by omega)
  have t0 := pw_pos (-1074)
  have e1 : pw (-((n + 1100 : Nat) : Int)) * 2 ≤ pw (-1074) := by
    have : pw (-((n + 1100 : Nat) : Int)) * 2 = pw (-((n + 1100 : Nat) : Int) + 1) := by rw [pw_add, pw_one]
    rw [this]; exact pw_mono (by omega)
  have p2 : pw 2 = 4 := by decide +kernel
  have e2 : 4 * pw (n : Int) ≤ pw ((n + 1100 : Nat) : Int) := by
    have : 4 * pw (n : Int) = pw ((n : Int) + 2) := by rw [pw_add, p2]; grind
    rw [this]; exact pw_mono (by omega)
  right
  have low : 1 / 2 * pw (-1074) ≤ b3 := by
    have k := Rat.mul_le_mul_of_nonneg_right (show 1 / 2 ≤ 1 - 6 * u4 by grind) (show 0 ≤ pw (-(p : Int)) * ab o + pw (-1074) by grind)
    generalize pw (-(p : Int)) * ab o = z at *
    grind
  generalize pw (-(p : Int)) * ab o = z at *
  generalize pw (-((n + 1100 : Nat) : Int)) = z1 at *
  generalize pw ((n + 1100 : Nat) : Int) = z2 at *
  generalize pw (n : Int) = z3 at *
  generalize pw (-1074) = z4 at *
  rw [ab_pos (by grind)]
  constructor <;> grind
theorem pow_sz {p : Nat} (hp : p ≤ 1080) : Sz p (1 * pw (-(p : Int))) := by
  right
  rw [Rat.one_mul, ab_pos (Rat.le_of_lt (pw_pos _))]
  exact ⟨Rat.le_refl, pw_mono (by omega)⟩
theorem near05_c {f gv go n p : Nat} {x v o : Rat} {w : World} (hT : TB w) (hf : V f x) (hv : FV w gv v) (hs : Sz n v) (ho : FV w go o) (hos : Sz n o) (hn : n ≤ 9000) (hp : p ≤ 60) :
    Calls Tryd.prog 34 #[.float .f64 f, .pointer (some ⟨gv, 0, none⟩), .pointer (some ⟨go, 0, none⟩), .int .i64 (p : Int)] w (RetNr5 x v o p w) := by
  have HT := Lib.hid hT
  have HF := Lib.hid hf
  have HV := Lib.hid hv
  have HVS := Lib.hid hs
  have HO := Lib.hid ho
  have HOS := Lib.hid hos
  have HG := Lib.hid (Grown.refl w)
  have hsd := Sz.sub hf hv hs
  have HSD : RowKit.Hid (∀ r1, ab (r1 - (x - v)) ≤ u4 * ab (x - v) → Sz (n + 1601) r1) := Lib.hid (fun r1 k => Sz.near hsd k u4_small)
  have HSE : RowKit.Hid (∀ r1 o2, ab (r1 - (x - v)) ≤ u4 * ab (x - v) → ab (o2 - ab r1) ≤ u4 * ab (ab r1) → Sz (n + 1602) o2) := Lib.hid (fun r1 o2 k k2 => Sz.near (Sz.abv (HSD.out r1 k)) k2 u4_small)
  have h11 : (((1 : Int)) : Rat) = 1 := rfl
  have HCA := Lib.hid h11
  have hwp : IntKind.i64.wrap (-(p : Int)) = -(p : Int) := IntWalk.i64_in _ ⟨by omega, by omega⟩
  clear hT hv hs ho hos hsd h11
  go_enter Tryd.func34, Tryd.ntmps34
  go_upto_region 2 with (first
    | (go_at_call 39; go_loud ((with_reducible refine (real05_c HT.out HF.out.lt HF.out.fin).mono ?_); rintro e1 wa ⟨gx, rfl, h1, h2, h3⟩; rw [HF.out.val] at h1; have HX := Lib.hid h1; have HG := Lib.hid (gr_trans HG.out h2); have HT := Lib.hid (HT.out.grown h2); clear h1 h2 h3))
    | (go_at_call 38; go_loud ((with_reducible refine (sub05_c HT.out HX.out (HV.out.grown HG.out) HF.out.sz HVS.out (by omega)).mono ?_); rintro e1 wa ⟨d1, hd1, gd, rfl, h1, h2, h3⟩; have HD1 := Lib.hid hd1; have HD := Lib.hid h1; have HGE := Lib.hid (Nat.le_trans HG.out.2.2 h3); have HG := Lib.hid (gr_trans HG.out h2); have HT := Lib.hid (HT.out.grown h2); clear hd1 h1 h2 h3))
    | fail)
  go_upto_region 3 with (first
    | (go_at_call 68; go_loud ((with_reducible refine (fabs_c HT.out HD.out.z HD.out (HSD.out _ HD1.out) (by omega)).mono ?_); rintro e1 wa ⟨d2, hd2, rfl, h1, h2⟩; have HD2 := Lib.hid hd2; have HT := Lib.hid (HT.out.kept HD.out.z h2); have HG := Lib.hid (h2.grown HG.out HGE.out); have HD := Lib.hid h1; clear hd2 h1 h2))
    | fail)
  go_upto_region 4 with (first
    | (go_at_call 21; go_loud ((with_reducible refine (fprec_c (HT.out.grown ((Grown.refl _).alloc _ _)) (flcNew _ _)).mono ?_); rintro e1 wa ⟨rfl, h1, h2⟩; have HB := Lib.hid h1; have HBB := Lib.hid h2; have HTB := Lib.hid (HT.out.grown (h2.grown ((Grown.refl _).alloc _ _) (Nat.le_refl _))); clear h1 h2))
    | (go_at_call 68; go_loud ((with_reducible refine (fabs_c HTB.out HB.out.z (HO.out.grown (gr_trans HG.out (HBB.out.grown ((Grown.refl _).alloc _ _) (Nat.le_refl _)))) HOS.out (by omega)).mono ?_); rintro e1 wa ⟨b1, hb1, rfl, h1, h2⟩; have HB1 := Lib.hid hb1; have HGW := Lib.hid ((HBB.out.trans h2).grown ((Grown.refl _).alloc _ _) (Nat.le_refl _)); have HB := Lib.hid h1; have HT := Lib.hid (HT.out.grown HGW.out); have HD := Lib.hid (HD.out.grown HGW.out); have HG := Lib.hid (gr_trans HG.out HGW.out); clear hb1 h1 h2))
    | fail)
  clear HBB HTB
  go_upto_region 5 with (first
    | (go_at_call 21; go_loud ((with_reducible refine (fprec_c (HT.out.grown ((Grown.refl _).alloc _ _)) (flcNew _ _)).mono ?_); rintro e1 wa ⟨rfl, h1, h2⟩; have HZ := Lib.hid h1; have HGW := Lib.hid (h2.grown ((Grown.refl _).alloc _ _) (Nat.le_refl _)); have HTB := Lib.hid (HT.out.grown HGW.out); clear h1 h2))
    | (go_at_call 35; go_loud ((with_reducible refine (whole05_c 1 HTB.out (by decide)).mono ?_); rintro e1 wa ⟨g1, rfl, h1, h2, h3⟩; rw [HCA.out] at h1; have HN := Lib.hid h1; have HGW := Lib.hid (gr_trans HGW.out h2); have HTB := Lib.hid (HTB.out.grown h2); have HZ := Lib.hid (HZ.out.grown h2); clear h1 h2 h3))
    | (go_at_call 28; go_loud ((with_reducible refine (fmant_c HTB.out.at' HTB.out.lt HZ.out.z HN.out (Sz.one) (by decide) (by omega) (by omega)).mono ?_); rintro e1 wa ⟨P, hP, rfl, h1, h2⟩; have HP := Lib.hid hP; have HGW := Lib.hid (h2.grown HGW.out (Nat.le_refl _)); have HPF := Lib.hid h1; have HT := Lib.hid (HT.out.grown HGW.out); have HD := Lib.hid (HD.out.grown HGW.out); have HB := Lib.hid (HB.out.grown HGW.out); have HG := Lib.hid (gr_trans HG.out HGW.out); clear hP h1 h2))
    | (go_at_call 42; go_loud ((with_reducible refine (mul05_c HT.out HB.out HPF.out ((Sz.abv HOS.out).near HB1.out u4_small) ((pow_sz (by omega)).near HP.out u4_small) (by omega)).mono ?_); rintro e1 wa ⟨b2, hb2, gb2, rfl, h1, h2, h3⟩; have HB2 := Lib.hid hb2; have HG := Lib.hid (gr_trans HG.out h2); have HT := Lib.hid (HT.out.grown h2); have HD := Lib.hid (HD.out.grown h2); have HB := Lib.hid h1; clear hb2 h1 h2 h3))
    | fail)
  clear HGW HTB HZ HN
  go_upto_region 6 with (first
    | (go_at_call 21; go_loud ((with_reducible refine (fprec_c (HT.out.grown ((Grown.refl _).alloc _ _)) (flcNew _ _)).mono ?_); rintro e1 wa ⟨rfl, h1, h2⟩; have HZ := Lib.hid h1; have HGW := Lib.hid (h2.grown ((Grown.refl _).alloc _ _) (Nat.le_refl _)); have HTB := Lib.hid (HT.out.grown HGW.out); clear h1 h2))
    | (go_at_call 35; go_loud ((with_reducible refine (whole05_c 1 HTB.out (by decide)).mono ?_); rintro e1 wa ⟨g1, rfl, h1, h2, h3⟩; rw [HCA.out] at h1; have HN := Lib.hid h1; have HGW := Lib.hid (gr_trans HGW.out h2); have HTB := Lib.hid (HTB.out.grown h2); have HZ := Lib.hid (HZ.out.grown h2); clear h1 h2 h3))
    | (go_at_call 28; go_loud ((with_reducible refine (fmant_c HTB.out.at' HTB.out.lt HZ.out.z HN.out (Sz.one) (by decide) (by decide) (by decide)).mono ?_); rintro e1 wa ⟨E, hE, rfl, h1, h2⟩; have HE := Lib.hid hE; have HGW := Lib.hid (h2.grown HGW.out (Nat.le_refl _)); have HEF := Lib.hid h1; have HT := Lib.hid (HT.out.grown HGW.out); have HD := Lib.hid (HD.out.grown HGW.out); have HB := Lib.hid (HB.out.grown HGW.out); have HG := Lib.hid (gr_trans HG.out HGW.out); clear hE h1 h2))
    | (go_at_call 76; go_loud ((with_reducible refine (add05_c HT.out HB.out HEF.out (((((Sz.abv HOS.out).near HB1.out u4_small)).mul ((pow_sz (by omega)).near HP.out u4_small)).near HB2.out u4_small) ((pow_sz (p := 1074) (by decide)).near HE.out u4_small) (by omega)).mono ?_); rintro e1 wa ⟨b3, hb3, gb3, rfl, h1, h2, h3⟩; have HB3 := Lib.hid hb3; have HG := Lib.hid (gr_trans HG.out h2); have HT := Lib.hid (HT.out.grown h2); have HD := Lib.hid (HD.out.grown h2); have HB := Lib.hid h1; clear hb3 h1 h2 h3))
    | fail)
  have HR := Lib.hid (room_five HD1.out HD2.out HB1.out (pw_pos (-(p : Int))) (pw_pos (-1074)) HP.out HB2.out HE.out HB3.out)
  go_wp2_with (first
    | (go_at_call 23; go_loud ((with_reducible refine (fcmp_c HD.out HB.out (HSE.out _ _ HD1.out HD2.out) (room_fsz (by omega) hp HOS.out HR.out.2.1 HR.out.2.2) (by omega)).mono ?_); rintro e10 w10 ⟨c, rfl, h1, h2⟩; have KC := Lib.hid h1; have HG := Lib.hid (gr_trans HG.out h2); clear h1 h2))
    | fail)
  go_ret
  refine ⟨_, rfl, fun hh => ?_, HG.out⟩
  have := (KC.out.1).2 (HR.out.1 hh)
  simp
  omega
end Go.Proofs.YtcfkhhnkboealaaDoor
