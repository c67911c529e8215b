/- The statement of the exponentials, walked. Condition: the table of the places of bits stands in the world. -/
import Derived.Test.YtcfkhhnkboealaaDoorEch
import Derived.Test.YtcfkhhnkboealaaDoorElemA
namespace Go.Proofs.YtcfkhhnkboealaaDoor
set_option linter.unusedVariables false
set_option linter.unusedSimpArgs false
set_option maxRecDepth 100000
set_option maxHeartbeats 4000000
open Go.RowKit
open Turns Sizes
def RetT (w : World) (e : Ending) (w' : World) : Prop := e = .returned (.bool true) ∧ Grown w w'
theorem FV.dr {w : World} {g : Nat} {r : Rat} (n : Nat) (h : FV w g r) : FV (w.drewN n) g r := h.grown (gr_drewN n (Grown.refl w))
theorem Sz.turn {n : Nat} {x v : Rat} (h : Sz n (x - v)) : Sz n (v - x) := by
  rcases h with h | ⟨h1, h2⟩
  · left; grind
  · right; rw [ab_comm] at h1 h2; exact ⟨h1, h2⟩
theorem mark_val : qv 9218868437227405311 - qv 8989184856231510016 = pw 1024 * (1 - 5 * uu) := by
  have q1 : qv 9218868437227405311 = pw 1024 * (1 - uu) := by
    rw [← max_val]; exact (V.pos (r := 9218868437227405311) (by decide)).val
  have q2 : qv 8989184856231510016 = pw 1024 * (4 * uu) := by
    rw [← p973]; exact (V.pos (r := 8989184856231510016) (by decide)).val
  rw [q1, q2]
  grind
theorem mark_sz {m : Rat} (h : ab (m - (qv 9218868437227405311 - qv 8989184856231510016)) ≤ u4 * ab (qv 9218868437227405311 - qv 8989184856231510016)) : Sz 5000 m := by
  have hp := pw_pos 1024
  have hu : 0 ≤ 1 - 5 * uu ∧ 1 / 2 ≤ 1 - 5 * uu ∧ 1 - 5 * uu ≤ 1 := by decide +kernel
  have h1 : Sz 4999 (qv 9218868437227405311 - qv 8989184856231510016) := by
    right
    rw [mark_val, ab_pos (Rat.mul_nonneg (Rat.le_of_lt hp) hu.1)]
    have a1 := Rat.mul_le_mul_of_nonneg_left hu.2.1 (Rat.le_of_lt hp)
    have a2 := Rat.mul_le_mul_of_nonneg_left hu.2.2 (Rat.le_of_lt hp)
    have b1 : pw (-((4999 : Nat) : Int)) ≤ pw 1023 := pw_mono (by decide)
    have b2 : pw 1024 ≤ pw ((4999 : Nat) : Int) := pw_mono (by decide)
    have e : pw 1024 = 2 * pw 1023 := by
      rw [show (1024 : Int) = 1 + 1023 by omega, pw_add]
      have : pw 1 = 2 := by decide +kernel
      rw [this]
    constructor <;> grind
  exact Sz.near h1 h u4_small
theorem cmp_mark {c : Int} {v M : Rat} (hc : CmpV c v M) (h : ab (M - (qv 9218868437227405311 - qv 8989184856231510016)) ≤ u4 * ab (qv 9218868437227405311 - qv 8989184856231510016)) (hv : pw 1024 * (1 - 498 / 100 * uu) ≤ v) : 0 < c := by
  have h1 := mark_lt h hv
  rcases Int.lt_or_le 0 c with k | k
  · exact k
  · have := hc.1.1 k
    grind
theorem four_five {x : Rat} {r : Nat} (h : 1001 / 1000 * x ≤ 4 * gapq r) : 1001 / 1000 * x ≤ 5 * gapq r := by
  have := gap_pos r
  grind
theorem TB.dr {w : World} (n : Nat) (h : TB w) : TB (w.drewN n) := h.grown (gr_drewN n (Grown.refl w))
theorem elemTrue_nan {x f : Nat} {w : World} (hx : Rep x f) (hn : isN f = true) : Calls Tryd.prog 4 #[.int .u64 (x : Int)] w (RetT w) := by
  have q1 := hx.none'
  rw [hn] at q1
  have HE : RowKit.Hid (expF f = nanB) := Lib.hid (by unfold expF; rw [hn, if_pos rfl])
  have HL : RowKit.Hid (lessE f = nanB) := Lib.hid (by unfold lessE; rw [hn, if_pos rfl])
  have hm : x < 18446744073709551616 := hx.lt
  go_enter Tryd.func4, Tryd.ntmps4
  go_wp2_with (first
    | (go_at_call 8; (with_reducible refine (elemAlive_c _).mono ?_); rintro e1 w1 ⟨n1, rfl, rfl⟩)
    | (go_at_call 18; (with_reducible refine (exp_c hx _).mono ?_); rintro e2 w2 ⟨r2, n2, rfl, h2, rfl⟩; rw [HE.out] at h2; have p2 := h2.none'; rw [show isN nanB = true by decide +kernel] at p2)
    | (go_at_call 19; (with_reducible refine (elemLess_c hx _).mono ?_); rintro e3 w3 ⟨r3, n3, rfl, h3, rfl⟩; rw [HL.out] at h3; have p3 := h3.none'; rw [show isN nanB = true by decide +kernel] at p3)
    | fail)
  go_ret
  exact ⟨rfl, gr_drewN _ (Grown.refl w)⟩
theorem elemTrue_up {f : Nat} {w : World} (hx : Rep f f) (hn : isN f = false) (hu : flt 4649808285585637376 f = true) : Calls Tryd.prog 4 #[.int .u64 (f : Int)] w (RetT w) := by
  have q1 := hx.none'
  rw [hn] at q1
  have q2 := hx.gt' (Rep.self (f := 4649808285585637376) (by decide) (by decide +kernel))
  rw [hu] at q2
  have HE := Lib.hid (far_up hu).1
  have HL := Lib.hid (far_up hu).2
  have hm : f < 18446744073709551616 := hx.lt
  go_enter Tryd.func4, Tryd.ntmps4
  go_wp2_with (first
    | (go_at_call 8; (with_reducible refine (elemAlive_c _).mono ?_); rintro e1 w1 ⟨n1, rfl, rfl⟩)
    | (go_at_call 18; (with_reducible refine (exp_c hx _).mono ?_); rintro e2 w2 ⟨r2, n2, rfl, h2, rfl⟩; rw [HE.out] at h2; have p2 := h2)
    | (go_at_call 19; (with_reducible refine (elemLess_c hx _).mono ?_); rintro e3 w3 ⟨r3, n3, rfl, h3, rfl⟩; rw [HL.out] at h3; have p3 := h3)
    | (go_at_call 12; (with_reducible refine (isInf_c (by with_reducible first | exact p2 | exact p3) _ _).mono ?_); rw [show isInf infP 1 = true by decide +kernel]; rintro e4 w4 ⟨n4, rfl, rfl⟩)
    | fail)
  go_ret
  exact ⟨rfl, gr_drewN _ (Grown.refl w)⟩
theorem elemTrue_down {f : Nat} {w : World} (hx : Rep f f) (hn : isN f = false) (hu : flt f 13873180322440413184 = true) : Calls Tryd.prog 4 #[.int .u64 (f : Int)] w (RetT w) := by
  have q1 := hx.none'
  rw [hn] at q1
  have q2 := hx.gt' (Rep.self (f := 4649808285585637376) (by decide) (by decide +kernel))
  rw [not_both hu] at q2
  have q3 := hx.lt' (Rep.self (f := 13873180322440413184) (by decide) (by decide +kernel))
  rw [hu] at q3
  have HE := Lib.hid (far_down hu).1
  have HL := Lib.hid (far_down hu).2
  have hm : f < 18446744073709551616 := hx.lt
  go_enter Tryd.func4, Tryd.ntmps4
  go_wp2_with (first
    | (go_at_call 8; (with_reducible refine (elemAlive_c _).mono ?_); rintro e1 w1 ⟨n1, rfl, rfl⟩)
    | (go_at_call 18; (with_reducible refine (exp_c hx _).mono ?_); rintro e2 w2 ⟨r2, n2, rfl, h2, rfl⟩; rw [HE.out] at h2; obtain rfl := h2.eq_of (by decide +kernel); have p2 := Rep.c0.eq' Rep.c0; rw [show feq 0 0 = true by decide +kernel] at p2)
    | (go_at_call 19; (with_reducible refine (elemLess_c hx _).mono ?_); rintro e3 w3 ⟨r3, n3, rfl, h3, rfl⟩; rw [HL.out] at h3; obtain rfl := h3.eq_of (by decide +kernel); have p3 := h3.some'; rw [show isN 13830554455654793216 = false by decide +kernel] at p3)
    | fail)
  go_ret
  exact ⟨rfl, gr_drewN _ (Grown.refl w)⟩
theorem elemTrue_tiny {f : Nat} {w : World} (hx : Rep f f) (hn : isN f = false) (h1 : flt 4649808285585637376 f = false) (h2 : flt f 13873180322440413184 = false) (hu : flt (rung f) 3706462493325918208 = true) : Calls Tryd.prog 4 #[.int .u64 (f : Int)] w (RetT w) := by
  obtain ⟨hv, ha⟩ := tiny_yes hx.lt hn hu
  have HV := Lib.hid hv
  have q1 := hx.none'
  have q5 := hx.some'
  rw [hn] at q1 q5
  have q2 := hx.gt' (Rep.self (f := 4649808285585637376) (by decide) (by decide +kernel))
  rw [h1] at q2
  have q3 := hx.lt' (Rep.self (f := 13873180322440413184) (by decide) (by decide +kernel))
  rw [h2] at q3
  have q4 := (word_facts (fin_rung hv.fin)).2.2.2.2.2.lt' (Rep.self (f := 3706462493325918208) (by decide) (by decide +kernel))
  rw [hu] at q4
  have HE := Lib.hid (tiny_law hv ha).1
  have HL := Lib.hid (tiny_law hv ha).2
  have hm : f < 18446744073709551616 := hx.lt
  clear hv ha hu h1 h2
  go_enter Tryd.func4, Tryd.ntmps4
  go_wp2_with (first
    | (go_at_call 8; (with_reducible refine (elemAlive_c _).mono ?_); rintro e1 w1 ⟨n1, rfl, rfl⟩)
    | (go_at_call 18; (with_reducible refine (exp_c hx _).mono ?_); rintro e2 w2 ⟨r2, n2, rfl, h2, rfl⟩; rw [HE.out] at h2; obtain rfl := h2.eq_of (by decide +kernel); have p2 := h2.some'; rw [show isN 4607182418800017408 = false by decide +kernel] at p2)
    | (go_at_call 19; (with_reducible refine (elemLess_c hx _).mono ?_); rintro e3 w3 ⟨r3, n3, rfl, h3, rfl⟩; rw [HL.out] at h3; obtain rfl := h3.eq_of hn)
    | (go_at_call 13; (with_reducible refine (abs_c hx _).mono ?_); rintro e4 w4 ⟨q, n4, rfl, h1, rfl⟩; have hq := fabs_word HV.out h1; subst hq)
    | fail)
  go_ret
  exact ⟨rfl, gr_drewN _ (Grown.refl w)⟩
theorem elemTrue_mid {f : Nat} {w : World} (hT : TB w) (hx : Rep f f) (hn : isN f = false) (h1 : flt 4649808285585637376 f = false) (h2 : flt f 13873180322440413184 = false) (hu : flt (rung f) 3706462493325918208 = false) : Calls Tryd.prog 4 #[.int .u64 (f : Int)] w (RetT w) := by
  obtain ⟨hv, ha⟩ := not_far hx.lt hn h1 h2
  have h0 := tiny_no hv hu
  obtain ⟨e1, e2, e3, e4, e5⟩ := exp_all hv ha
  obtain ⟨l1, l2, l3, l4⟩ := less_all hv ha h0
  have HV := Lib.hid hv
  have HA : RowKit.Hid (ab (qv f) ≤ 1024) := Lib.hid (Rat.le_trans ha (by decide +kernel))
  have HS : RowKit.Hid (Sz 200 (qv f)) := Lib.hid (.inr ⟨h0, Rat.le_trans ha (by decide +kernel)⟩)
  have HT := Lib.hid hT
  have q1 := hx.none'
  rw [hn] at q1
  have q2 := hx.gt' (Rep.self (f := 4649808285585637376) (by decide) (by decide +kernel))
  rw [h1] at q2
  have q3 := hx.lt' (Rep.self (f := 13873180322440413184) (by decide) (by decide +kernel))
  rw [h2] at q3
  have q4 := (word_facts (fin_rung hv.fin)).2.2.2.2.2.lt' (Rep.self (f := 3706462493325918208) (by decide) (by decide +kernel))
  rw [hu] at q4
  obtain ⟨e, he⟩ : ∃ e, expF f = e := ⟨_, rfl⟩
  obtain ⟨l, hl⟩ : ∃ l, lessE f = l := ⟨_, rfl⟩
  rw [he] at e1 e2 e3 e4 e5
  rw [hl] at l1 l2 l3 l4
  have HE := Lib.hid he
  have HL := Lib.hid hl
  have hre : Rep e e := Rep.self e2 (nrm_of_not e1)
  have hrl : Rep l l := Rep.self l2 (nrm_of_not l1)
  have HE1 := Lib.hid e1
  have HL1 := Lib.hid l1
  have p1 := hre.none'
  rw [e1] at p1
  have p2 := hrl.none'
  rw [l1] at p2
  have p3 := hre.lt' Rep.c0
  rw [e3] at p3
  have p4 := hre.lt' Rep.ctiny
  have hm : f < 18446744073709551616 := hx.lt
  have V4 := Lib.hid V.four
  have V5 := Lib.hid V.five
  have V16 := Lib.hid V.sixteen
  have C1 : RowKit.Hid (qv 4607182418800017408 = 1) := Lib.hid V.unit1.val
  have E5 := Lib.hid e5
  have L4 := Lib.hid l4
  have E4 := Lib.hid e4
  have L3 := Lib.hid l3
  clear hT hv ha h0 hu h1 h2 e1 e2 e3 e4 e5 l1 l2 l3 l4 he hl
  cases b1 : isInf e 1 <;> cases b2 : isInf l 1 <;> cases b3 : flt e 4503599627370496
  all_goals
    rw [b3] at p4
    have B1 := Lib.hid b1
    have B2 := Lib.hid b2
    clear b1 b2 b3
    go_enter Tryd.func4, Tryd.ntmps4
    go_wp2_with (first
      | (go_at_call 8; (with_reducible refine (elemAlive_c _).mono ?_); rintro e1 w1 ⟨n1, rfl, rfl⟩)
      | (go_at_call 18; (with_reducible refine (exp_c hx _).mono ?_); rintro e2 w2 ⟨r2, n2, rfl, h2, rfl⟩; rw [HE.out] at h2; obtain rfl := h2.eq_of HE1.out)
      | (go_at_call 19; (with_reducible refine (elemLess_c hx _).mono ?_); rintro e3 w3 ⟨r3, n3, rfl, h3, rfl⟩; rw [HL.out] at h3; obtain rfl := h3.eq_of HL1.out)
      | (go_at_call 13; (with_reducible refine (abs_c hx _).mono ?_); rintro e4 w4 ⟨q, n4, rfl, h1, rfl⟩; have hq := fabs_word HV.out h1; subst hq; clear h1)
      | (go_at_call 15; ((with_reducible refine (wide04_c (HT.out.dr _) HV.out.lt HV.out.fin).mono ?_); rintro e5 w5 ⟨g5, rfl, h1, h2, h3⟩; have A5 := Lib.hid h1; have G := Lib.hid (gr_trans (gr_drewN _ (Grown.refl w)) h2); have T := Lib.hid ((HT.out.dr _).grown h2); clear h1 h2 h3))
      | (go_at_call 20; (with_reducible refine (raised_c T.out A5.out HS.out (by decide) HA.out).mono ?_); rintro e6 w6 ⟨v, k1, k2, g6, rfl, h1, h2, h3⟩; have D6 := Lib.hid h1; have SV := Lib.hid k2; have G6 := Lib.hid (gr_trans G.out h2); have T6 := Lib.hid (T.out.grown h2); have M1 := Lib.hid (E5.out v ((raised_rl k1).mono (by decide +kernel))); have M2 := Lib.hid (L4.out v (raised_rl k1)); have HG0 : Hid (Grown w6 (w6.alloc (.cells #[.bool false, .slice none 0 0, .int .i64 0, .int .i64 0, .bool false] 37))) := Lib.hid ((Grown.refl w6).alloc _ _); have HZ := Lib.hid (flcNew w6 37); have G7 := Lib.hid (gr_trans G6.out HG0.out); have T7 := Lib.hid (T6.out.grown HG0.out); clear h1 h2 h3 k1 k2)
      | (go_at_call 21; (with_reducible refine (fprec_c T7.out HZ.out).mono ?_); rintro e7 w7 ⟨rfl, h1, h2⟩; have L8 := Lib.hid h1; have G8 := Lib.hid (gr_trans G6.out (h2.grown HG0.out (Nat.le_refl _))); have T8 := Lib.hid (T7.out.keptC HZ.out h2); have D8 := Lib.hid (D6.out.grown (h2.grown HG0.out (Nat.le_refl _))); clear h1 h2)
      | (go_at_call 15; (with_reducible refine (wide04_c T8.out (by decide) (by decide +kernel)).mono ?_); rintro e9 w9 ⟨g9, rfl, h1, h2, h3⟩; rw [C1.out] at h1; have O9 := Lib.hid h1; have G9 := Lib.hid (gr_trans G8.out h2); have T9 := Lib.hid (T8.out.grown h2); have D9 := Lib.hid (D8.out.grown h2); have L9 := Lib.hid (L8.out.z.grown h2); clear h1 h2 h3)
      | (go_at_call 22; (with_reducible refine (fsub_c T9.out L9.out D9.out O9.out SV.out V.unit1.sz (by decide)).mono ?_); rintro e10 w10 ⟨z, k1, rfl, h1, h2⟩; have K10 := Lib.hid k1; have L10 := Lib.hid h1; have G10 := Lib.hid (h2.grown G9.out G6.out.2.2); have T10 := Lib.hid (T9.out.kept L9.out h2); have D10 := Lib.hid (D9.out.kept h2 (Nat.ne_of_lt D6.out.lt) L9.out.no); have SL := Lib.hid (Sz.near (Sz.turn (Sz.sub V.unit1 D9.out SV.out)) k1 u4_small); clear k1 h1 h2)
      | (go_at_call 15; (with_reducible refine (wide04_c T10.out (by decide) (by decide +kernel)).mono ?_); rintro e11 w11 ⟨g11, rfl, h1, h2, h3⟩; have M11 := Lib.hid h1; have G11 := Lib.hid (gr_trans G10.out h2); have T11 := Lib.hid (T10.out.grown h2); have D11 := Lib.hid (D10.out.grown h2); have L11 := Lib.hid (L10.out.grown h2); have X1 : Hid (g6 ≠ g11) := Lib.hid (Nat.ne_of_lt (Nat.lt_of_lt_of_le D10.out.lt h3)); have X2 : Hid (w6.heap.size ≠ g11) := Lib.hid (Nat.ne_of_lt (Nat.lt_of_lt_of_le L10.out.lt h3)); have X3 := Lib.hid (Nat.le_trans G10.out.2.2 h3); clear h1 h2 h3)
      | (go_at_call 15; (with_reducible refine (wide04_c T11.out (by decide) (by decide +kernel)).mono ?_); rintro e12 w12 ⟨g12, rfl, h1, h2, h3⟩; have N12 := Lib.hid h1; have G12 := Lib.hid (gr_trans G11.out h2); have T12 := Lib.hid (T11.out.grown h2); have D12 := Lib.hid (D11.out.grown h2); have L12 := Lib.hid (L11.out.grown h2); have M12 := Lib.hid (M11.out.grown h2); clear h1 h2 h3)
      | (go_at_call 22; (with_reducible refine (fsub_c T12.out M12.out.z M12.out N12.out (V.of (f := 9218868437227405311) (by decide) (by decide +kernel)).sz (V.of (f := 8989184856231510016) (by decide) (by decide +kernel)).sz (by decide)).mono ?_); rintro e13 w13 ⟨m, k1, rfl, h1, h2⟩; have K13 := Lib.hid k1; have M := Lib.hid h1; have G := Lib.hid (h2.grown G12.out X3.out); have T := Lib.hid (T12.out.kept M12.out.z h2); have D := Lib.hid (D12.out.kept h2 X1.out M12.out.z.no); have L := Lib.hid (L12.out.kept h2 X2.out M12.out.z.no); have SM := Lib.hid (mark_sz k1); clear k1 h1 h2)
      | (go_at_call 12; (with_reducible refine (isInf_c hre _ _).mono ?_); rw [B1.out]; rintro eI wI ⟨nI, rfl, rfl⟩)
      | (go_at_call 12; (with_reducible refine (isInf_c hrl _ _).mono ?_); rw [B2.out]; rintro eJ wJ ⟨nJ, rfl, rfl⟩)
      | (go_at_call 23; (with_reducible refine (fcmp_c (by first | exact D.out | exact D.out.dr _) (by first | exact M.out | exact M.out.dr _) SV.out SM.out (by decide)).mono ?_); rintro eC wC ⟨c, rfl, h1, h2⟩; have hc : 0 < c := cmp_mark h1 K13.out (by first | exact M1.out.2 B1.out | exact M2.out.2 B2.out); have G := Lib.hid (gr_trans (gr_drewN _ G.out) h2); have T := Lib.hid (TB.grown (by first | exact T.out | exact T.out.dr _) h2); have D := Lib.hid (FV.grown (by first | exact D.out | exact D.out.dr _) h2); have L := Lib.hid (FV.grown (by first | exact L.out | exact L.out.dr _) h2); have M := Lib.hid (FV.grown (by first | exact M.out | exact M.out.dr _) h2); clear h1 h2)
      | (go_at_call 24; (with_reducible refine (near_c (by first | exact T.out | exact T.out.dr _) (E4.out B1.out) V4.out (by decide) (by first | exact D.out | exact D.out.dr _) SV.out (by decide)).mono ?_); rintro eN wN ⟨b, rfl, h1, h2⟩; obtain rfl := h1 (M1.out.1 B1.out); have G := Lib.hid (gr_trans (gr_drewN _ G.out) h2); have T := Lib.hid (TB.grown (by first | exact T.out | exact T.out.dr _) h2); have L := Lib.hid (FV.grown (by first | exact L.out | exact L.out.dr _) h2); clear h1 h2)
      | (go_at_call 24; (with_reducible refine (near_c (by first | exact T.out | exact T.out.dr _) (E4.out B1.out) V5.out (by decide) (by first | exact D.out | exact D.out.dr _) SV.out (by decide)).mono ?_); rintro eN wN ⟨b, rfl, h1, h2⟩; obtain rfl := h1 (four_five (M1.out.1 B1.out)); have G := Lib.hid (gr_trans (gr_drewN _ G.out) h2); have T := Lib.hid (TB.grown (by first | exact T.out | exact T.out.dr _) h2); have L := Lib.hid (FV.grown (by first | exact L.out | exact L.out.dr _) h2); clear h1 h2)
      | (go_at_call 24; (with_reducible refine (near_c (by first | exact T.out | exact T.out.dr _) (L3.out B2.out) V16.out (by decide) (by first | exact L.out | exact L.out.dr _) SL.out (by decide)).mono ?_); rintro eN wN ⟨b, rfl, h1, h2⟩; obtain rfl := h1 (M2.out.1 B2.out _ K10.out); have G := Lib.hid (gr_trans (gr_drewN _ G.out) h2); clear h1 h2)
      | fail)
    go_ret
    exact ⟨rfl, by first | exact G.out | exact gr_drewN _ G.out⟩
theorem elemTrue_c {x : Nat} {w : World} (hT : TB w) (hl : x < 18446744073709551616) : Calls Tryd.prog 4 #[.int .u64 (x : Int)] w (RetT w) := by
  have hx : Rep x (nrm x) := ⟨hl, rfl⟩
  cases hn : isN (nrm x)
  · have e := hx.eq_of hn
    rw [← e] at hx hn
    cases h1 : flt 4649808285585637376 x
    · cases h2 : flt x 13873180322440413184
      · cases h3 : flt (rung x) 3706462493325918208
        · exact elemTrue_mid hT hx hn h1 h2 h3
        · exact elemTrue_tiny hx hn h1 h2 h3
      · exact elemTrue_down hx hn h2
    · exact elemTrue_up hx hn h1
  · exact elemTrue_nan hx hn
end Go.Proofs.YtcfkhhnkboealaaDoor
