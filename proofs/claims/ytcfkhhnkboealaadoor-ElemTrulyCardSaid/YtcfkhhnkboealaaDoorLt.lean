/- The statement of logarithms, walked. Condition: the table of the places of bits stands in the world. -/
import Derived.Test.YtcfkhhnkboealaaDoorLj
import Derived.Test.YtcfkhhnkboealaaDoorLg
namespace Go.Proofs.YtcfkhhnkboealaaDoor
set_option linter.unusedVariables false
set_option linter.unusedSimpArgs false
set_option maxRecDepth 100000
set_option maxHeartbeats 4000000
open Go.RowKit
open Turns Sizes
theorem sum_sz {w1 w2 : World} {g1 g2 : Nat} {v1 v2 : Rat} (h1 : FV w1 g1 v1) (h2 : FV w2 g2 v2) (s1 : Sz 1100 v1) (s2 : Sz 1100 v2) : Sz 1600 (v1 + v2) := by
  obtain ⟨a, ha⟩ := h1.grid s1
  obtain ⟨b, hb⟩ := h2.grid s2
  have up : ∀ {x : Rat}, Sz 1100 x → ab x ≤ pw ((1100 : Nat) : Int) := by
    intro x h
    rcases h with h | h
    · rw [h, show ab (0 : Rat) = 0 by decide +kernel]; exact Rat.le_of_lt (pw_pos _)
    · exact h.2
  have u1 := up s1
  have u2 := up s2
  have e : pw ((1101 : Nat) : Int) = 2 * pw ((1100 : Nat) : Int) := by
    rw [show ((1101 : Nat) : Int) = 1 + ((1100 : Nat) : Int) by omega, pw_add]
    have : pw 1 = 2 := by decide +kernel
    rw [this]
  refine Sz.grid (z := a + b) (K := 1100 + 402) (M := 1101) ?_ ?_ (by omega) (by omega)
  · rw [ha, hb]
    have : ((a + b : Int) : Rat) = (a : Rat) + (b : Rat) := by exact_mod_cast rfl
    rw [this]; grind
  · have := ab_add v1 v2
    generalize pw ((1101 : Nat) : Int) = P at *
    generalize pw ((1100 : Nat) : Int) = P2 at *
    grind
theorem tiny_yes2 {f : Nat} (hl : f < 18446744073709551616) (hn : isN f = false) (h : flt (rung f) 3706462493325918208 = true) : ab (qv f) ≤ pw (-200) := by
  obtain ⟨hv, _⟩ := tiny_yes hl hn h
  have hr := fin_rung hv.fin
  rw [flt_words hr (by decide)] at h
  have h2 : rung f < 3706462493325918208 := by simpa using h
  rw [hv.size, pw200]
  have h3 := cast_le.2 (mval_le_iff.2 (Nat.le_of_lt h2))
  have hU := UQ_pos
  rw [div_le hU, div_self_mul _ UQ_ne]
  exact h3
theorem elemTruly_nan {x f : Nat} {w : World} (hx : Rep x f) (hn : isN f = true) : Calls Tryd.prog 3 #[.int .u64 (x : Int)] w (RetT w) := by
  have q1 := hx.none'
  rw [hn] at q1
  have hf := hx.nan_of hn
  have HL : Hid (logF f = nanB) := Lib.hid (by rw [hf]; decide +kernel)
  have HM : Hid (moreF f = nanB) := Lib.hid (by rw [hf]; decide +kernel)
  have NL : Hid (isN nanB = true) := Lib.hid (by decide +kernel)
  have hm : x < 18446744073709551616 := hx.lt
  go_enter Tryd.func3, Tryd.ntmps3
  go_wp2_with (first
    | (go_at_call 8; (with_reducible refine (elemAlive_c _).mono ?_); rintro e1 w1 ⟨n1, rfl, rfl⟩)
    | (go_at_call 10; (with_reducible refine (log_c hx _).mono ?_); rintro e2 w2 ⟨r2, n2, rfl, h2, rfl⟩; rw [HL.out] at h2; have p2 := h2.none'; rw [NL.out] at p2)
    | (go_at_call 11; (with_reducible refine (more_c hx _).mono ?_); rintro e3 w3 ⟨r3, n3, rfl, h3, rfl⟩; rw [HM.out] at h3; have p3 := h3.none'; rw [NL.out] at p3)
    | fail)
  go_ret
  exact ⟨rfl, gr_drewN _ (Grown.refl w)⟩
theorem elemTruly_low {f : Nat} {w : World} (hx : Rep f f) (hn : isN f = false) (h : flt f 13830554455654793216 = true) : Calls Tryd.prog 3 #[.int .u64 (f : Int)] w (RetT w) := by
  have q1 := hx.none'
  rw [hn] at q1
  have q2 := hx.lt' (Rep.self (f := 13830554455654793216) (by decide) (by decide +kernel))
  rw [h] at q2
  have HL := Lib.hid (below_one hx.lt h).1
  have HM := Lib.hid (below_one hx.lt h).2
  have NL : Hid (isN nanB = true) := Lib.hid (by decide +kernel)
  have hm : f < 18446744073709551616 := hx.lt
  go_enter Tryd.func3, Tryd.ntmps3
  go_wp2_with (first
    | (go_at_call 8; (with_reducible refine (elemAlive_c _).mono ?_); rintro e1 w1 ⟨n1, rfl, rfl⟩)
    | (go_at_call 10; (with_reducible refine (log_c hx _).mono ?_); rintro e2 w2 ⟨r2, n2, rfl, h2, rfl⟩; rw [HL.out] at h2; have p2 := h2.none'; rw [NL.out] at p2)
    | (go_at_call 11; (with_reducible refine (more_c hx _).mono ?_); rintro e3 w3 ⟨r3, n3, rfl, h3, rfl⟩; rw [HM.out] at h3; have p3 := h3.none'; rw [NL.out] at p3)
    | fail)
  go_ret
  exact ⟨rfl, gr_drewN _ (Grown.refl w)⟩
theorem elemTruly_inf {w : World} : Calls Tryd.prog 3 #[.int .u64 (9218868437227405312 : Int)] w (RetT w) := by
  have hx := Rep.cinf
  have q1 := hx.none'
  rw [show isN 9218868437227405312 = false by decide +kernel] at q1
  have q1' := hx.some'
  rw [show isN 9218868437227405312 = false by decide +kernel] at q1'
  have q2 := hx.lt' (Rep.self (f := 13830554455654793216) (by decide) (by decide +kernel))
  rw [show flt 9218868437227405312 13830554455654793216 = false by decide +kernel] at q2
  have HL : Hid (logF 9218868437227405312 = 9218868437227405312) := Lib.hid (by decide +kernel)
  have HM : Hid (moreF 9218868437227405312 = 9218868437227405312) := Lib.hid (by decide +kernel)
  have NL : Hid (isN 9218868437227405312 = false) := Lib.hid (by decide +kernel)
  go_enter Tryd.func3, Tryd.ntmps3
  go_wp2_with (first
    | (go_at_call 8; (with_reducible refine (elemAlive_c _).mono ?_); rintro e1 w1 ⟨n1, rfl, rfl⟩)
    | (go_at_call 10; (with_reducible refine (log_c hx _).mono ?_); rintro e2 w2 ⟨r2, n2, rfl, h2, rfl⟩; rw [HL.out] at h2; obtain rfl := h2.eq_of NL.out)
    | (go_at_call 11; (with_reducible refine (more_c hx _).mono ?_); rintro e3 w3 ⟨r3, n3, rfl, h3, rfl⟩; rw [HM.out] at h3; obtain rfl := h3.eq_of NL.out)
    | (go_at_call 12; (with_reducible refine (isInf_c hx _ _).mono ?_); rw [show isInf 9218868437227405312 1 = true by decide +kernel]; rintro e4 w4 ⟨n4, rfl, rfl⟩)
    | fail)
  go_ret
  exact ⟨rfl, gr_drewN _ (Grown.refl w)⟩
theorem elemTruly_pos_tiny {f : Nat} {w : World} (hT : TB w) (hx : Rep f f) (hn : isN f = false) (h1 : flt f 13830554455654793216 = false) (hf : V f (qv f)) (hpos : 0 < qv f) (y1 : fle f 0 = false) (y2 : feq f 0 = false) (y3 : flt f 0 = false) (y4 : flt 0 f = true) (ht : flt (rung f) 3706462493325918208 = true) (ht2 : ab (qv f) ≤ pw (-200)) : Calls Tryd.prog 3 #[.int .u64 (f : Int)] w (RetT w) := by
  have q1 := hx.none'
  rw [hn] at q1
  have q2 := hx.lt' (Rep.self (f := 13830554455654793216) (by decide) (by decide +kernel))
  rw [h1] at q2
  have HI := Lib.hid (inf_false (s := 0) hf).1
  have hrr := fin_rung hf.fin
  have HB : Hid (fabs f = rung f) := Lib.hid (fabs_of hn)
  have nb : isN (rung f) = false := (notN_iff _).2 (by rw [rung_pos (Nat.le_of_lt hrr)]; exact Nat.le_of_lt hrr)
  have NB := Lib.hid nb
  have hxb : Rep (rung f) (rung f) := Rep.self (by omega) (nrm_of_not nb)
  have q3 := hxb.lt' (Rep.self (f := 3706462493325918208) (by decide) (by decide +kernel))
  have z1 := hx.le' Rep.c0
  have z2 := hx.eq' Rep.c0
  have z3 := hx.lt' Rep.c0
  have z4 := hx.gt' Rep.c0
  rw [y1] at z1
  rw [y2] at z2
  rw [y3] at z3
  rw [y4] at z4
  have HV := Lib.hid hf
  have HT := Lib.hid hT
  have V4 := Lib.hid V.four
  have V16 := Lib.hid V.sixteen
  have C1 : Hid (qv 4607182418800017408 = 1) := Lib.hid V.unit1.val
  have O1 : Hid (Sz 1100 (1 : Rat)) := Lib.hid V.unit1.sz
  have HAS := Lib.hid hf.sz
  have hm : f < 18446744073709551616 := hx.lt
  obtain ⟨l, μ, η, a1, a2, a3, a4, a5, a6, a7, a8⟩ := log_ready hf hpos
  obtain ⟨L, hL⟩ : ∃ L, logF f = L := ⟨_, rfl⟩
  rw [hL] at a1 a8
  have HL := Lib.hid hL
  have NL := Lib.hid (fin_notN a1.fin)
  have hrl : Rep L L := Rep.self a1.lt (nrm_of_not NL.out)
  have LA : Hid (fabs L = rung L) := Lib.hid (fabs_of NL.out)
  have lr := fin_rung a1.fin
  have nlb : isN (rung L) = false := (notN_iff _).2 (by rw [rung_pos (Nat.le_of_lt lr)]; exact Nat.le_of_lt lr)
  have NLB := Lib.hid nlb
  have hlb : Rep (rung L) (rung L) := Rep.self (by omega) (nrm_of_not nlb)
  have l1 := hlb.lt' (Rep.self (f := 4652007308841189376) (by decide) (by decide +kernel))
  rw [abs_small a1 a2] at l1
  have BL : Hid (∀ W g, TB W → FV W g (qv f) → Calls Tryd.prog 14 #[.float .f64 L, .pointer (some ⟨g, 0, none⟩), .float .f64 4616189618054758400] W (RetT W)) := Lib.hid (fun W g t v => between_c t a1 a2 a3 V.four (by decide +kernel) (by decide +kernel) v hf.sz (by decide) hpos a5 a6 a7 a4 a8)
  clear a2 a3 a4 a5 a6 a7 a8 nlb lr hL a1
  obtain ⟨b1, b2, b3⟩ := tiny_cmp hf ht2
  rw [ht] at q3
  obtain ⟨M, hM⟩ : ∃ M, moreF f = M := ⟨_, rfl⟩
  rw [hM] at b1 b2 b3
  have HM := Lib.hid hM
  have NM := Lib.hid b1
  have hrm : Rep M M := Rep.self b2 (nrm_of_not b1)
  have RT : Rep 4611686018427387904 4611686018427387904 := Rep.self (by decide) (by decide +kernel)
  have B3 := Lib.hid b3
  clear hM b1 b2 b3 ht2
  clear hT hf h1 y1 y2 y3 y4 nb hrr
  go_enter Tryd.func3, Tryd.ntmps3
  go_wp2_with (first
    | (go_at_call 8; (with_reducible refine (elemAlive_c _).mono ?_); rintro e1 w1 ⟨n1, rfl, rfl⟩)
    | (go_at_call 12; (with_reducible refine (isInf_c hx _ _).mono ?_); rw [HI.out]; rintro e4 w4 ⟨n4, rfl, rfl⟩)
    | (go_at_call 13; (with_reducible refine (abs_c hx _).mono ?_); rintro e5 w5 ⟨q, n5, rfl, h1, rfl⟩; rw [HB.out] at h1; obtain rfl := h1.eq_of NB.out; clear h1)
    | (go_at_call 10; (with_reducible refine (log_c hx _).mono ?_); rintro e2 w2 ⟨r2, n2, rfl, h2, rfl⟩; rw [HL.out] at h2; obtain rfl := h2.eq_of NL.out)
    | (go_at_call 13; (with_reducible refine (abs_c hrl _).mono ?_); rintro e6 w6 ⟨q, n6, rfl, h1, rfl⟩; rw [LA.out] at h1; obtain rfl := h1.eq_of NLB.out; clear h1)
    | (go_at_call 15; (with_reducible refine (wide04_c (HT.out.dr _) HV.out.lt HV.out.fin).mono ?_); rintro e7 w7 ⟨g7, rfl, h1, h2, h3⟩; have A7 := Lib.hid h1; have G7 := Lib.hid (gr_trans (gr_drewN _ (Grown.refl w)) h2); have T7 := Lib.hid ((HT.out.dr _).grown h2); clear h1 h2 h3)
    | (go_at_call 14; (with_reducible refine (BL.out _ _ T7.out A7.out).mono ?_); rintro e8 w8 ⟨rfl, h2⟩; have G := Lib.hid (gr_trans G7.out h2); have T := Lib.hid (T7.out.grown h2); clear h2)
    | (go_at_call 15; (with_reducible refine (wide04_c (f := 4607182418800017408) (by first | exact T.out | exact T.out.dr _) (by decide) (by decide +kernel)).mono ?_); rw [C1.out]; rintro e10 w10 ⟨g10, rfl, h1, h2, h3⟩; have S10 := Lib.hid h1; have G10 : Hid (Grown w w10) := Lib.hid (by first | exact gr_trans G.out h2 | exact gr_trans (gr_drewN _ G.out) h2); have T10 : Hid (TB w10) := Lib.hid (TB.grown (by first | exact T.out | exact T.out.dr _) h2); have X10 : Hid (w.heap.size ≤ g10) := Lib.hid (Nat.le_trans (by first | exact G.out.2.2 | exact (gr_drewN _ G.out).2.2) h3); clear h1 h2 h3)
    | (go_at_call 15; (with_reducible refine (wide04_c T10.out HV.out.lt HV.out.fin).mono ?_); rintro e11 w11 ⟨g11, rfl, h1, h2, h3⟩; have A11 := Lib.hid h1; have S11 := Lib.hid (S10.out.grown h2); have G11 := Lib.hid (gr_trans G10.out h2); have T11 := Lib.hid (T10.out.grown h2); clear h1 h2 h3)
    | (go_at_call 16; (with_reducible refine (fadd_c T11.out S11.out.z S11.out A11.out O1.out HAS.out (by decide)).mono ?_); rintro e12 w12 ⟨σ, k1, rfl, h1, h2⟩; have KS := Lib.hid k1; have M12 := Lib.hid h1; have SZS := Lib.hid (Sz.near (sum_sz S11.out A11.out O1.out HAS.out) k1 u4_small); have G12 := Lib.hid (h2.grown G11.out X10.out); have T12 := Lib.hid (T11.out.kept S11.out.z h2); clear k1 h1 h2)
    | (go_at_call 11; (with_reducible refine (more_c hx _).mono ?_); rintro e3 w3 ⟨r3, n3, rfl, h3, rfl⟩; rw [HM.out] at h3; obtain rfl := h3.eq_of NM.out)
    | (go_at_call 13; (with_reducible refine (abs_c (hrm.sub hx) _).mono ?_); rintro e13 w13 ⟨d, n13, rfl, hd, rfl⟩)
    | (go_at_call 17; (with_reducible refine (next_c hxb Rep.cone _).mono ?_); rintro e14 w14 ⟨r, n14, rfl, h14, rfl⟩; have p9 := fun w1 w2 => hd.le' (RT.mul (h14.sub hxb (w := w1)) (w := w2)); rw [B3.out] at p9)
    | fail)
  go_ret
  exact ⟨rfl, by first | exact G16.out | exact gr_drewN _ G16.out | exact G12.out | exact gr_drewN _ G12.out⟩
theorem elemTruly_neg_tiny {f : Nat} {w : World} (hT : TB w) (hx : Rep f f) (hn : isN f = false) (h1 : flt f 13830554455654793216 = false) (hf : V f (qv f)) (hln : logF f = nanB) (y1 : fle f 0 = true) (y2 : feq f 0 = false) (y3 : flt f 0 = true) (y4 : flt 0 f = false) (ht : flt (rung f) 3706462493325918208 = true) (ht2 : ab (qv f) ≤ pw (-200)) : Calls Tryd.prog 3 #[.int .u64 (f : Int)] w (RetT w) := by
  have q1 := hx.none'
  rw [hn] at q1
  have q2 := hx.lt' (Rep.self (f := 13830554455654793216) (by decide) (by decide +kernel))
  rw [h1] at q2
  have HI := Lib.hid (inf_false (s := 0) hf).1
  have hrr := fin_rung hf.fin
  have HB : Hid (fabs f = rung f) := Lib.hid (fabs_of hn)
  have nb : isN (rung f) = false := (notN_iff _).2 (by rw [rung_pos (Nat.le_of_lt hrr)]; exact Nat.le_of_lt hrr)
  have NB := Lib.hid nb
  have hxb : Rep (rung f) (rung f) := Rep.self (by omega) (nrm_of_not nb)
  have q3 := hxb.lt' (Rep.self (f := 3706462493325918208) (by decide) (by decide +kernel))
  have z1 := hx.le' Rep.c0
  have z2 := hx.eq' Rep.c0
  have z3 := hx.lt' Rep.c0
  have z4 := hx.gt' Rep.c0
  rw [y1] at z1
  rw [y2] at z2
  rw [y3] at z3
  rw [y4] at z4
  have HV := Lib.hid hf
  have HT := Lib.hid hT
  have V4 := Lib.hid V.four
  have V16 := Lib.hid V.sixteen
  have C1 : Hid (qv 4607182418800017408 = 1) := Lib.hid V.unit1.val
  have O1 : Hid (Sz 1100 (1 : Rat)) := Lib.hid V.unit1.sz
  have HAS := Lib.hid hf.sz
  have hm : f < 18446744073709551616 := hx.lt
  have HL := Lib.hid hln
  have NN : Hid (isN nanB = true) := Lib.hid (by decide +kernel)
  obtain ⟨b1, b2, b3⟩ := tiny_cmp hf ht2
  rw [ht] at q3
  obtain ⟨M, hM⟩ : ∃ M, moreF f = M := ⟨_, rfl⟩
  rw [hM] at b1 b2 b3
  have HM := Lib.hid hM
  have NM := Lib.hid b1
  have hrm : Rep M M := Rep.self b2 (nrm_of_not b1)
  have RT : Rep 4611686018427387904 4611686018427387904 := Rep.self (by decide) (by decide +kernel)
  have B3 := Lib.hid b3
  clear hM b1 b2 b3 ht2
  clear hT hf h1 y1 y2 y3 y4 nb hrr
  go_enter Tryd.func3, Tryd.ntmps3
  go_wp2_with (first
    | (go_at_call 8; (with_reducible refine (elemAlive_c _).mono ?_); rintro e1 w1 ⟨n1, rfl, rfl⟩)
    | (go_at_call 12; (with_reducible refine (isInf_c hx _ _).mono ?_); rw [HI.out]; rintro e4 w4 ⟨n4, rfl, rfl⟩)
    | (go_at_call 13; (with_reducible refine (abs_c hx _).mono ?_); rintro e5 w5 ⟨q, n5, rfl, h1, rfl⟩; rw [HB.out] at h1; obtain rfl := h1.eq_of NB.out; clear h1)
    | (go_at_call 10; (with_reducible refine (log_c hx _).mono ?_); rintro e2 w2 ⟨r2, n2, rfl, h2, rfl⟩; rw [HL.out] at h2; have p2 := h2.none'; rw [NN.out] at p2; have G : Hid (Grown w w) := Lib.hid (Grown.refl w); have T := HT)
    | (go_at_call 15; (with_reducible refine (wide04_c (f := 4607182418800017408) (by first | exact T.out | exact T.out.dr _) (by decide) (by decide +kernel)).mono ?_); rw [C1.out]; rintro e10 w10 ⟨g10, rfl, h1, h2, h3⟩; have S10 := Lib.hid h1; have G10 : Hid (Grown w w10) := Lib.hid (by first | exact gr_trans G.out h2 | exact gr_trans (gr_drewN _ G.out) h2); have T10 : Hid (TB w10) := Lib.hid (TB.grown (by first | exact T.out | exact T.out.dr _) h2); have X10 : Hid (w.heap.size ≤ g10) := Lib.hid (Nat.le_trans (by first | exact G.out.2.2 | exact (gr_drewN _ G.out).2.2) h3); clear h1 h2 h3)
    | (go_at_call 15; (with_reducible refine (wide04_c T10.out HV.out.lt HV.out.fin).mono ?_); rintro e11 w11 ⟨g11, rfl, h1, h2, h3⟩; have A11 := Lib.hid h1; have S11 := Lib.hid (S10.out.grown h2); have G11 := Lib.hid (gr_trans G10.out h2); have T11 := Lib.hid (T10.out.grown h2); clear h1 h2 h3)
    | (go_at_call 16; (with_reducible refine (fadd_c T11.out S11.out.z S11.out A11.out O1.out HAS.out (by decide)).mono ?_); rintro e12 w12 ⟨σ, k1, rfl, h1, h2⟩; have KS := Lib.hid k1; have M12 := Lib.hid h1; have SZS := Lib.hid (Sz.near (sum_sz S11.out A11.out O1.out HAS.out) k1 u4_small); have G12 := Lib.hid (h2.grown G11.out X10.out); have T12 := Lib.hid (T11.out.kept S11.out.z h2); clear k1 h1 h2)
    | (go_at_call 11; (with_reducible refine (more_c hx _).mono ?_); rintro e3 w3 ⟨r3, n3, rfl, h3, rfl⟩; rw [HM.out] at h3; obtain rfl := h3.eq_of NM.out)
    | (go_at_call 13; (with_reducible refine (abs_c (hrm.sub hx) _).mono ?_); rintro e13 w13 ⟨d, n13, rfl, hd, rfl⟩)
    | (go_at_call 17; (with_reducible refine (next_c hxb Rep.cone _).mono ?_); rintro e14 w14 ⟨r, n14, rfl, h14, rfl⟩; have p9 := fun w1 w2 => hd.le' (RT.mul (h14.sub hxb (w := w1)) (w := w2)); rw [B3.out] at p9)
    | fail)
  go_ret
  exact ⟨rfl, by first | exact G16.out | exact gr_drewN _ G16.out | exact G12.out | exact gr_drewN _ G12.out⟩
theorem elemTruly_zero_tiny {f : Nat} {w : World} (hT : TB w) (hx : Rep f f) (hn : isN f = false) (h1 : flt f 13830554455654793216 = false) (hf : V f (qv f)) (hln : logF f = infN) (y1 : fle f 0 = true) (y2 : feq f 0 = true) (y3 : flt f 0 = false) (y4 : flt 0 f = false) (ht : flt (rung f) 3706462493325918208 = true) (ht2 : ab (qv f) ≤ pw (-200)) : Calls Tryd.prog 3 #[.int .u64 (f : Int)] w (RetT w) := by
  have q1 := hx.none'
  rw [hn] at q1
  have q2 := hx.lt' (Rep.self (f := 13830554455654793216) (by decide) (by decide +kernel))
  rw [h1] at q2
  have HI := Lib.hid (inf_false (s := 0) hf).1
  have hrr := fin_rung hf.fin
  have HB : Hid (fabs f = rung f) := Lib.hid (fabs_of hn)
  have nb : isN (rung f) = false := (notN_iff _).2 (by rw [rung_pos (Nat.le_of_lt hrr)]; exact Nat.le_of_lt hrr)
  have NB := Lib.hid nb
  have hxb : Rep (rung f) (rung f) := Rep.self (by omega) (nrm_of_not nb)
  have q3 := hxb.lt' (Rep.self (f := 3706462493325918208) (by decide) (by decide +kernel))
  have z1 := hx.le' Rep.c0
  have z2 := hx.eq' Rep.c0
  have z3 := hx.lt' Rep.c0
  have z4 := hx.gt' Rep.c0
  rw [y1] at z1
  rw [y2] at z2
  rw [y3] at z3
  rw [y4] at z4
  have HV := Lib.hid hf
  have HT := Lib.hid hT
  have V4 := Lib.hid V.four
  have V16 := Lib.hid V.sixteen
  have C1 : Hid (qv 4607182418800017408 = 1) := Lib.hid V.unit1.val
  have O1 : Hid (Sz 1100 (1 : Rat)) := Lib.hid V.unit1.sz
  have HAS := Lib.hid hf.sz
  have hm : f < 18446744073709551616 := hx.lt
  have HL := Lib.hid hln
  have NL : Hid (isN infN = false) := Lib.hid (by decide +kernel)
  have hri : Rep infN infN := Rep.cninf
  obtain ⟨b1, b2, b3⟩ := tiny_cmp hf ht2
  rw [ht] at q3
  obtain ⟨M, hM⟩ : ∃ M, moreF f = M := ⟨_, rfl⟩
  rw [hM] at b1 b2 b3
  have HM := Lib.hid hM
  have NM := Lib.hid b1
  have hrm : Rep M M := Rep.self b2 (nrm_of_not b1)
  have RT : Rep 4611686018427387904 4611686018427387904 := Rep.self (by decide) (by decide +kernel)
  have B3 := Lib.hid b3
  clear hM b1 b2 b3 ht2
  clear hT hf h1 y1 y2 y3 y4 nb hrr
  go_enter Tryd.func3, Tryd.ntmps3
  go_wp2_with (first
    | (go_at_call 8; (with_reducible refine (elemAlive_c _).mono ?_); rintro e1 w1 ⟨n1, rfl, rfl⟩)
    | (go_at_call 12; (with_reducible refine (isInf_c hx _ _).mono ?_); rw [HI.out]; rintro e4 w4 ⟨n4, rfl, rfl⟩)
    | (go_at_call 13; (with_reducible refine (abs_c hx _).mono ?_); rintro e5 w5 ⟨q, n5, rfl, h1, rfl⟩; rw [HB.out] at h1; obtain rfl := h1.eq_of NB.out; clear h1)
    | (go_at_call 10; (with_reducible refine (log_c hx _).mono ?_); rintro e2 w2 ⟨r2, n2, rfl, h2, rfl⟩; rw [HL.out] at h2; obtain rfl := h2.eq_of NL.out; have G : Hid (Grown w w) := Lib.hid (Grown.refl w); have T := HT)
    | (go_at_call 12; (with_reducible refine (isInf_c hri _ _).mono ?_); rw [show isInf infN (-1) = true by decide +kernel]; rintro e9 w9 ⟨n9, rfl, rfl⟩)
    | (go_at_call 15; (with_reducible refine (wide04_c (f := 4607182418800017408) (by first | exact T.out | exact T.out.dr _) (by decide) (by decide +kernel)).mono ?_); rw [C1.out]; rintro e10 w10 ⟨g10, rfl, h1, h2, h3⟩; have S10 := Lib.hid h1; have G10 : Hid (Grown w w10) := Lib.hid (by first | exact gr_trans G.out h2 | exact gr_trans (gr_drewN _ G.out) h2); have T10 : Hid (TB w10) := Lib.hid (TB.grown (by first | exact T.out | exact T.out.dr _) h2); have X10 : Hid (w.heap.size ≤ g10) := Lib.hid (Nat.le_trans (by first | exact G.out.2.2 | exact (gr_drewN _ G.out).2.2) h3); clear h1 h2 h3)
    | (go_at_call 15; (with_reducible refine (wide04_c T10.out HV.out.lt HV.out.fin).mono ?_); rintro e11 w11 ⟨g11, rfl, h1, h2, h3⟩; have A11 := Lib.hid h1; have S11 := Lib.hid (S10.out.grown h2); have G11 := Lib.hid (gr_trans G10.out h2); have T11 := Lib.hid (T10.out.grown h2); clear h1 h2 h3)
    | (go_at_call 16; (with_reducible refine (fadd_c T11.out S11.out.z S11.out A11.out O1.out HAS.out (by decide)).mono ?_); rintro e12 w12 ⟨σ, k1, rfl, h1, h2⟩; have KS := Lib.hid k1; have M12 := Lib.hid h1; have SZS := Lib.hid (Sz.near (sum_sz S11.out A11.out O1.out HAS.out) k1 u4_small); have G12 := Lib.hid (h2.grown G11.out X10.out); have T12 := Lib.hid (T11.out.kept S11.out.z h2); clear k1 h1 h2)
    | (go_at_call 11; (with_reducible refine (more_c hx _).mono ?_); rintro e3 w3 ⟨r3, n3, rfl, h3, rfl⟩; rw [HM.out] at h3; obtain rfl := h3.eq_of NM.out)
    | (go_at_call 13; (with_reducible refine (abs_c (hrm.sub hx) _).mono ?_); rintro e13 w13 ⟨d, n13, rfl, hd, rfl⟩)
    | (go_at_call 17; (with_reducible refine (next_c hxb Rep.cone _).mono ?_); rintro e14 w14 ⟨r, n14, rfl, h14, rfl⟩; have p9 := fun w1 w2 => hd.le' (RT.mul (h14.sub hxb (w := w1)) (w := w2)); rw [B3.out] at p9)
    | fail)
  go_ret
  exact ⟨rfl, by first | exact G16.out | exact gr_drewN _ G16.out | exact G12.out | exact gr_drewN _ G12.out⟩
theorem elemTruly_pos_main {f : Nat} {w : World} (hT : TB w) (hx : Rep f f) (hn : isN f = false) (h1 : flt f 13830554455654793216 = false) (hf : V f (qv f)) (hpos : 0 < qv f) (y1 : fle f 0 = false) (y2 : feq f 0 = false) (y3 : flt f 0 = false) (y4 : flt 0 f = true) (hlo : -1 < qv f) (hmain : pw (-200) ≤ ab (qv f)) (ht : flt (rung f) 3706462493325918208 = false) (hne : feq f 13830554455654793216 = false) (hgt : flt 13830554455654793216 f = true) : Calls Tryd.prog 3 #[.int .u64 (f : Int)] w (RetT w) := by
  have q1 := hx.none'
  rw [hn] at q1
  have q2 := hx.lt' (Rep.self (f := 13830554455654793216) (by decide) (by decide +kernel))
  rw [h1] at q2
  have HI := Lib.hid (inf_false (s := 0) hf).1
  have hrr := fin_rung hf.fin
  have HB : Hid (fabs f = rung f) := Lib.hid (fabs_of hn)
  have nb : isN (rung f) = false := (notN_iff _).2 (by rw [rung_pos (Nat.le_of_lt hrr)]; exact Nat.le_of_lt hrr)
  have NB := Lib.hid nb
  have hxb : Rep (rung f) (rung f) := Rep.self (by omega) (nrm_of_not nb)
  have q3 := hxb.lt' (Rep.self (f := 3706462493325918208) (by decide) (by decide +kernel))
  have z1 := hx.le' Rep.c0
  have z2 := hx.eq' Rep.c0
  have z3 := hx.lt' Rep.c0
  have z4 := hx.gt' Rep.c0
  rw [y1] at z1
  rw [y2] at z2
  rw [y3] at z3
  rw [y4] at z4
  have HV := Lib.hid hf
  have HT := Lib.hid hT
  have V4 := Lib.hid V.four
  have V16 := Lib.hid V.sixteen
  have C1 : Hid (qv 4607182418800017408 = 1) := Lib.hid V.unit1.val
  have O1 : Hid (Sz 1100 (1 : Rat)) := Lib.hid V.unit1.sz
  have HAS := Lib.hid hf.sz
  have hm : f < 18446744073709551616 := hx.lt
  obtain ⟨l, μ, η, a1, a2, a3, a4, a5, a6, a7, a8⟩ := log_ready hf hpos
  obtain ⟨L, hL⟩ : ∃ L, logF f = L := ⟨_, rfl⟩
  rw [hL] at a1 a8
  have HL := Lib.hid hL
  have NL := Lib.hid (fin_notN a1.fin)
  have hrl : Rep L L := Rep.self a1.lt (nrm_of_not NL.out)
  have LA : Hid (fabs L = rung L) := Lib.hid (fabs_of NL.out)
  have lr := fin_rung a1.fin
  have nlb : isN (rung L) = false := (notN_iff _).2 (by rw [rung_pos (Nat.le_of_lt lr)]; exact Nat.le_of_lt lr)
  have NLB := Lib.hid nlb
  have hlb : Rep (rung L) (rung L) := Rep.self (by omega) (nrm_of_not nlb)
  have l1 := hlb.lt' (Rep.self (f := 4652007308841189376) (by decide) (by decide +kernel))
  rw [abs_small a1 a2] at l1
  have BL : Hid (∀ W g, TB W → FV W g (qv f) → Calls Tryd.prog 14 #[.float .f64 L, .pointer (some ⟨g, 0, none⟩), .float .f64 4616189618054758400] W (RetT W)) := Lib.hid (fun W g t v => between_c t a1 a2 a3 V.four (by decide +kernel) (by decide +kernel) v hf.sz (by decide) hpos a5 a6 a7 a4 a8)
  clear a2 a3 a4 a5 a6 a7 a8 nlb lr hL a1
  obtain ⟨m, ν, b1, b2, b3, b4, b5⟩ := more_ready hf hlo hmain
  rw [ht] at q3
  obtain ⟨M, hM⟩ : ∃ M, moreF f = M := ⟨_, rfl⟩
  rw [hM] at b1 b5
  have HM := Lib.hid hM
  have NM := Lib.hid (fin_notN b1.fin)
  have hrm : Rep M M := Rep.self b1.lt (nrm_of_not NM.out)
  have MA : Hid (fabs M = rung M) := Lib.hid (fabs_of NM.out)
  have mr := fin_rung b1.fin
  have nmb : isN (rung M) = false := (notN_iff _).2 (by rw [rung_pos (Nat.le_of_lt mr)]; exact Nat.le_of_lt mr)
  have NMB := Lib.hid nmb
  have hmb : Rep (rung M) (rung M) := Rep.self (by omega) (nrm_of_not nmb)
  have m1 := hmb.lt' (Rep.self (f := 4652007308841189376) (by decide) (by decide +kernel))
  rw [abs_small b1 b2] at m1
  have m2 := hx.eq' (Rep.self (f := 13830554455654793216) (by decide) (by decide +kernel))
  rw [hne] at m2
  have m3 := hx.gt' (Rep.self (f := 13830554455654793216) (by decide) (by decide +kernel))
  rw [hgt] at m3
  have BM : Hid (∀ W g σ, ab (σ - (1 + qv f)) ≤ u4 * ab (1 + qv f) → Sz 1601 σ → TB W → FV W g σ → Calls Tryd.prog 14 #[.float .f64 M, .pointer (some ⟨g, 0, none⟩), .float .f64 4625196817309499392] W (RetT W)) := Lib.hid (fun W g σ k s t v => by
    obtain ⟨c0, η', c1, c2, c3, c4⟩ := b5 σ k
    exact between_c t b1 b2 b3 V.sixteen (by decide +kernel) (by decide +kernel) v s (by decide) c0 c1 c2 c3 b4 c4)
  clear b2 b3 b4 b5 nmb mr hM b1
  clear hT hf h1 y1 y2 y3 y4 nb hrr
  go_enter Tryd.func3, Tryd.ntmps3
  go_wp2_with (first
    | (go_at_call 8; (with_reducible refine (elemAlive_c _).mono ?_); rintro e1 w1 ⟨n1, rfl, rfl⟩)
    | (go_at_call 12; (with_reducible refine (isInf_c hx _ _).mono ?_); rw [HI.out]; rintro e4 w4 ⟨n4, rfl, rfl⟩)
    | (go_at_call 13; (with_reducible refine (abs_c hx _).mono ?_); rintro e5 w5 ⟨q, n5, rfl, h1, rfl⟩; rw [HB.out] at h1; obtain rfl := h1.eq_of NB.out; clear h1)
    | (go_at_call 10; (with_reducible refine (log_c hx _).mono ?_); rintro e2 w2 ⟨r2, n2, rfl, h2, rfl⟩; rw [HL.out] at h2; obtain rfl := h2.eq_of NL.out)
    | (go_at_call 13; (with_reducible refine (abs_c hrl _).mono ?_); rintro e6 w6 ⟨q, n6, rfl, h1, rfl⟩; rw [LA.out] at h1; obtain rfl := h1.eq_of NLB.out; clear h1)
    | (go_at_call 15; (with_reducible refine (wide04_c (HT.out.dr _) HV.out.lt HV.out.fin).mono ?_); rintro e7 w7 ⟨g7, rfl, h1, h2, h3⟩; have A7 := Lib.hid h1; have G7 := Lib.hid (gr_trans (gr_drewN _ (Grown.refl w)) h2); have T7 := Lib.hid ((HT.out.dr _).grown h2); clear h1 h2 h3)
    | (go_at_call 14; (with_reducible refine (BL.out _ _ T7.out A7.out).mono ?_); rintro e8 w8 ⟨rfl, h2⟩; have G := Lib.hid (gr_trans G7.out h2); have T := Lib.hid (T7.out.grown h2); clear h2)
    | (go_at_call 15; (with_reducible refine (wide04_c (f := 4607182418800017408) (by first | exact T.out | exact T.out.dr _) (by decide) (by decide +kernel)).mono ?_); rw [C1.out]; rintro e10 w10 ⟨g10, rfl, h1, h2, h3⟩; have S10 := Lib.hid h1; have G10 : Hid (Grown w w10) := Lib.hid (by first | exact gr_trans G.out h2 | exact gr_trans (gr_drewN _ G.out) h2); have T10 : Hid (TB w10) := Lib.hid (TB.grown (by first | exact T.out | exact T.out.dr _) h2); have X10 : Hid (w.heap.size ≤ g10) := Lib.hid (Nat.le_trans (by first | exact G.out.2.2 | exact (gr_drewN _ G.out).2.2) h3); clear h1 h2 h3)
    | (go_at_call 15; (with_reducible refine (wide04_c T10.out HV.out.lt HV.out.fin).mono ?_); rintro e11 w11 ⟨g11, rfl, h1, h2, h3⟩; have A11 := Lib.hid h1; have S11 := Lib.hid (S10.out.grown h2); have G11 := Lib.hid (gr_trans G10.out h2); have T11 := Lib.hid (T10.out.grown h2); clear h1 h2 h3)
    | (go_at_call 16; (with_reducible refine (fadd_c T11.out S11.out.z S11.out A11.out O1.out HAS.out (by decide)).mono ?_); rintro e12 w12 ⟨σ, k1, rfl, h1, h2⟩; have KS := Lib.hid k1; have M12 := Lib.hid h1; have SZS := Lib.hid (Sz.near (sum_sz S11.out A11.out O1.out HAS.out) k1 u4_small); have G12 := Lib.hid (h2.grown G11.out X10.out); have T12 := Lib.hid (T11.out.kept S11.out.z h2); clear k1 h1 h2)
    | (go_at_call 11; (with_reducible refine (more_c hx _).mono ?_); rintro e3 w3 ⟨r3, n3, rfl, h3, rfl⟩; rw [HM.out] at h3; obtain rfl := h3.eq_of NM.out)
    | (go_at_call 13; (with_reducible refine (abs_c hrm _).mono ?_); rintro e15 w15 ⟨q, n15, rfl, h1, rfl⟩; rw [MA.out] at h1; obtain rfl := h1.eq_of NMB.out; clear h1)
    | (go_at_call 14; (with_reducible refine (BM.out _ _ _ KS.out SZS.out (by first | exact T12.out | exact T12.out.dr _) (by first | exact M12.out | exact M12.out.dr _)).mono ?_); rintro e16 w16 ⟨rfl, h2⟩; have G16 := Lib.hid (gr_trans (gr_drewN _ G12.out) h2); clear h2)
    | fail)
  go_ret
  exact ⟨rfl, by first | exact G16.out | exact gr_drewN _ G16.out | exact G12.out | exact gr_drewN _ G12.out⟩
theorem elemTruly_neg_main {f : Nat} {w : World} (hT : TB w) (hx : Rep f f) (hn : isN f = false) (h1 : flt f 13830554455654793216 = false) (hf : V f (qv f)) (hln : logF f = nanB) (y1 : fle f 0 = true) (y2 : feq f 0 = false) (y3 : flt f 0 = true) (y4 : flt 0 f = false) (hlo : -1 < qv f) (hmain : pw (-200) ≤ ab (qv f)) (ht : flt (rung f) 3706462493325918208 = false) (hne : feq f 13830554455654793216 = false) (hgt : flt 13830554455654793216 f = true) : Calls Tryd.prog 3 #[.int .u64 (f : Int)] w (RetT w) := by
  have q1 := hx.none'
  rw [hn] at q1
  have q2 := hx.lt' (Rep.self (f := 13830554455654793216) (by decide) (by decide +kernel))
  rw [h1] at q2
  have HI := Lib.hid (inf_false (s := 0) hf).1
  have hrr := fin_rung hf.fin
  have HB : Hid (fabs f = rung f) := Lib.hid (fabs_of hn)
  have nb : isN (rung f) = false := (notN_iff _).2 (by rw [rung_pos (Nat.le_of_lt hrr)]; exact Nat.le_of_lt hrr)
  have NB := Lib.hid nb
  have hxb : Rep (rung f) (rung f) := Rep.self (by omega) (nrm_of_not nb)
  have q3 := hxb.lt' (Rep.self (f := 3706462493325918208) (by decide) (by decide +kernel))
  have z1 := hx.le' Rep.c0
  have z2 := hx.eq' Rep.c0
  have z3 := hx.lt' Rep.c0
  have z4 := hx.gt' Rep.c0
  rw [y1] at z1
  rw [y2] at z2
  rw [y3] at z3
  rw [y4] at z4
  have HV := Lib.hid hf
  have HT := Lib.hid hT
  have V4 := Lib.hid V.four
  have V16 := Lib.hid V.sixteen
  have C1 : Hid (qv 4607182418800017408 = 1) := Lib.hid V.unit1.val
  have O1 : Hid (Sz 1100 (1 : Rat)) := Lib.hid V.unit1.sz
  have HAS := Lib.hid hf.sz
  have hm : f < 18446744073709551616 := hx.lt
  have HL := Lib.hid hln
  have NN : Hid (isN nanB = true) := Lib.hid (by decide +kernel)
  obtain ⟨m, ν, b1, b2, b3, b4, b5⟩ := more_ready hf hlo hmain
  rw [ht] at q3
  obtain ⟨M, hM⟩ : ∃ M, moreF f = M := ⟨_, rfl⟩
  rw [hM] at b1 b5
  have HM := Lib.hid hM
  have NM := Lib.hid (fin_notN b1.fin)
  have hrm : Rep M M := Rep.self b1.lt (nrm_of_not NM.out)
  have MA : Hid (fabs M = rung M) := Lib.hid (fabs_of NM.out)
  have mr := fin_rung b1.fin
  have nmb : isN (rung M) = false := (notN_iff _).2 (by rw [rung_pos (Nat.le_of_lt mr)]; exact Nat.le_of_lt mr)
  have NMB := Lib.hid nmb
  have hmb : Rep (rung M) (rung M) := Rep.self (by omega) (nrm_of_not nmb)
  have m1 := hmb.lt' (Rep.self (f := 4652007308841189376) (by decide) (by decide +kernel))
  rw [abs_small b1 b2] at m1
  have m2 := hx.eq' (Rep.self (f := 13830554455654793216) (by decide) (by decide +kernel))
  rw [hne] at m2
  have m3 := hx.gt' (Rep.self (f := 13830554455654793216) (by decide) (by decide +kernel))
  rw [hgt] at m3
  have BM : Hid (∀ W g σ, ab (σ - (1 + qv f)) ≤ u4 * ab (1 + qv f) → Sz 1601 σ → TB W → FV W g σ → Calls Tryd.prog 14 #[.float .f64 M, .pointer (some ⟨g, 0, none⟩), .float .f64 4625196817309499392] W (RetT W)) := Lib.hid (fun W g σ k s t v => by
    obtain ⟨c0, η', c1, c2, c3, c4⟩ := b5 σ k
    exact between_c t b1 b2 b3 V.sixteen (by decide +kernel) (by decide +kernel) v s (by decide) c0 c1 c2 c3 b4 c4)
  clear b2 b3 b4 b5 nmb mr hM b1
  clear hT hf h1 y1 y2 y3 y4 nb hrr
  go_enter Tryd.func3, Tryd.ntmps3
  go_wp2_with (first
    | (go_at_call 8; (with_reducible refine (elemAlive_c _).mono ?_); rintro e1 w1 ⟨n1, rfl, rfl⟩)
    | (go_at_call 12; (with_reducible refine (isInf_c hx _ _).mono ?_); rw [HI.out]; rintro e4 w4 ⟨n4, rfl, rfl⟩)
    | (go_at_call 13; (with_reducible refine (abs_c hx _).mono ?_); rintro e5 w5 ⟨q, n5, rfl, h1, rfl⟩; rw [HB.out] at h1; obtain rfl := h1.eq_of NB.out; clear h1)
    | (go_at_call 10; (with_reducible refine (log_c hx _).mono ?_); rintro e2 w2 ⟨r2, n2, rfl, h2, rfl⟩; rw [HL.out] at h2; have p2 := h2.none'; rw [NN.out] at p2; have G : Hid (Grown w w) := Lib.hid (Grown.refl w); have T := HT)
    | (go_at_call 15; (with_reducible refine (wide04_c (f := 4607182418800017408) (by first | exact T.out | exact T.out.dr _) (by decide) (by decide +kernel)).mono ?_); rw [C1.out]; rintro e10 w10 ⟨g10, rfl, h1, h2, h3⟩; have S10 := Lib.hid h1; have G10 : Hid (Grown w w10) := Lib.hid (by first | exact gr_trans G.out h2 | exact gr_trans (gr_drewN _ G.out) h2); have T10 : Hid (TB w10) := Lib.hid (TB.grown (by first | exact T.out | exact T.out.dr _) h2); have X10 : Hid (w.heap.size ≤ g10) := Lib.hid (Nat.le_trans (by first | exact G.out.2.2 | exact (gr_drewN _ G.out).2.2) h3); clear h1 h2 h3)
    | (go_at_call 15; (with_reducible refine (wide04_c T10.out HV.out.lt HV.out.fin).mono ?_); rintro e11 w11 ⟨g11, rfl, h1, h2, h3⟩; have A11 := Lib.hid h1; have S11 := Lib.hid (S10.out.grown h2); have G11 := Lib.hid (gr_trans G10.out h2); have T11 := Lib.hid (T10.out.grown h2); clear h1 h2 h3)
    | (go_at_call 16; (with_reducible refine (fadd_c T11.out S11.out.z S11.out A11.out O1.out HAS.out (by decide)).mono ?_); rintro e12 w12 ⟨σ, k1, rfl, h1, h2⟩; have KS := Lib.hid k1; have M12 := Lib.hid h1; have SZS := Lib.hid (Sz.near (sum_sz S11.out A11.out O1.out HAS.out) k1 u4_small); have G12 := Lib.hid (h2.grown G11.out X10.out); have T12 := Lib.hid (T11.out.kept S11.out.z h2); clear k1 h1 h2)
    | (go_at_call 11; (with_reducible refine (more_c hx _).mono ?_); rintro e3 w3 ⟨r3, n3, rfl, h3, rfl⟩; rw [HM.out] at h3; obtain rfl := h3.eq_of NM.out)
    | (go_at_call 13; (with_reducible refine (abs_c hrm _).mono ?_); rintro e15 w15 ⟨q, n15, rfl, h1, rfl⟩; rw [MA.out] at h1; obtain rfl := h1.eq_of NMB.out; clear h1)
    | (go_at_call 14; (with_reducible refine (BM.out _ _ _ KS.out SZS.out (by first | exact T12.out | exact T12.out.dr _) (by first | exact M12.out | exact M12.out.dr _)).mono ?_); rintro e16 w16 ⟨rfl, h2⟩; have G16 := Lib.hid (gr_trans (gr_drewN _ G12.out) h2); clear h2)
    | fail)
  go_ret
  exact ⟨rfl, by first | exact G16.out | exact gr_drewN _ G16.out | exact G12.out | exact gr_drewN _ G12.out⟩
theorem elemTruly_minus {w : World} (hT : TB w) : Calls Tryd.prog 3 #[.int .u64 (13830554455654793216 : Int)] w (RetT w) := by
  have hx : Rep 13830554455654793216 13830554455654793216 := Rep.self (by decide) (by decide +kernel)
  have hf : V 13830554455654793216 (qv 13830554455654793216) := V.of (by decide) (by decide +kernel)
  have q1 := hx.none'
  rw [show isN 13830554455654793216 = false by decide +kernel] at q1
  have q2 := hx.lt' hx
  rw [show flt 13830554455654793216 13830554455654793216 = false by decide +kernel] at q2
  have q5 := hx.eq' hx
  rw [show feq 13830554455654793216 13830554455654793216 = true by decide +kernel] at q5
  have z1 := hx.le' Rep.c0
  have z2 := hx.eq' Rep.c0
  have z3 := hx.lt' Rep.c0
  rw [show fle 13830554455654793216 0 = true by decide +kernel] at z1
  rw [show feq 13830554455654793216 0 = false by decide +kernel] at z2
  rw [show flt 13830554455654793216 0 = true by decide +kernel] at z3
  have HI : Hid (isInf 13830554455654793216 1 = false) := Lib.hid (by decide +kernel)
  have HB : Hid (fabs 13830554455654793216 = 4607182418800017408) := Lib.hid (by decide +kernel)
  have NB : Hid (isN 4607182418800017408 = false) := Lib.hid (by decide +kernel)
  have q3 := Rep.cone.lt' (Rep.self (f := 3706462493325918208) (by decide) (by decide +kernel))
  rw [show flt 4607182418800017408 3706462493325918208 = false by decide +kernel] at q3
  have HV := Lib.hid hf
  have HT := Lib.hid hT
  have C1 : Hid (qv 4607182418800017408 = 1) := Lib.hid V.unit1.val
  have O1 : Hid (Sz 1100 (1 : Rat)) := Lib.hid V.unit1.sz
  have HAS := Lib.hid hf.sz
  have HL : Hid (logF 13830554455654793216 = nanB) := Lib.hid (by decide +kernel)
  have NN : Hid (isN nanB = true) := Lib.hid (by decide +kernel)
  have HM : Hid (moreF 13830554455654793216 = infN) := Lib.hid (by decide +kernel)
  have NM : Hid (isN infN = false) := Lib.hid (by decide +kernel)
  have hri : Rep infN infN := Rep.cninf
  clear hT hf
  go_enter Tryd.func3, Tryd.ntmps3
  go_wp2_with (first
    | (go_at_call 8; (with_reducible refine (elemAlive_c _).mono ?_); rintro e1 w1 ⟨n1, rfl, rfl⟩)
    | (go_at_call 12; (with_reducible refine (isInf_c hx _ _).mono ?_); rw [HI.out]; rintro e4 w4 ⟨n4, rfl, rfl⟩)
    | (go_at_call 13; (with_reducible refine (abs_c hx _).mono ?_); rintro e5 w5 ⟨q, n5, rfl, h1, rfl⟩; rw [HB.out] at h1; obtain rfl := h1.eq_of NB.out; clear h1)
    | (go_at_call 10; (with_reducible refine (log_c hx _).mono ?_); rintro e2 w2 ⟨r2, n2, rfl, h2, rfl⟩; rw [HL.out] at h2; have p2 := h2.none'; rw [NN.out] at p2; have G : Hid (Grown w w) := Lib.hid (Grown.refl w); have T := HT)
    | (go_at_call 11; (with_reducible refine (more_c hx _).mono ?_); rintro e3 w3 ⟨r3, n3, rfl, h3, rfl⟩; rw [HM.out] at h3; obtain rfl := h3.eq_of NM.out)
    | (go_at_call 12; (with_reducible refine (isInf_c hri _ _).mono ?_); rw [show isInf infN (-1) = true by decide +kernel]; rintro e9 w9 ⟨n9, rfl, rfl⟩)
    | (go_at_call 15; (with_reducible refine (wide04_c (f := 4607182418800017408) (by first | exact T.out | exact T.out.dr _) (by decide) (by decide +kernel)).mono ?_); rw [C1.out]; rintro e10 w10 ⟨g10, rfl, h1, h2, h3⟩; have S10 := Lib.hid h1; have G10 : Hid (Grown w w10) := Lib.hid (by first | exact gr_trans G.out h2 | exact gr_trans (gr_drewN _ G.out) h2); have T10 : Hid (TB w10) := Lib.hid (TB.grown (by first | exact T.out | exact T.out.dr _) h2); have X10 : Hid (w.heap.size ≤ g10) := Lib.hid (Nat.le_trans (by first | exact G.out.2.2 | exact (gr_drewN _ G.out).2.2) h3); clear h1 h2 h3)
    | (go_at_call 15; (with_reducible refine (wide04_c T10.out HV.out.lt HV.out.fin).mono ?_); rintro e11 w11 ⟨g11, rfl, h1, h2, h3⟩; have A11 := Lib.hid h1; have S11 := Lib.hid (S10.out.grown h2); have G11 := Lib.hid (gr_trans G10.out h2); have T11 := Lib.hid (T10.out.grown h2); clear h1 h2 h3)
    | (go_at_call 16; (with_reducible refine (fadd_c T11.out S11.out.z S11.out A11.out O1.out HAS.out (by decide)).mono ?_); rintro e12 w12 ⟨σ, k1, rfl, h1, h2⟩; have KS := Lib.hid k1; have M12 := Lib.hid h1; have SZS := Lib.hid (Sz.near (sum_sz S11.out A11.out O1.out HAS.out) k1 u4_small); have G12 := Lib.hid (h2.grown G11.out X10.out); have T12 := Lib.hid (T11.out.kept S11.out.z h2); clear k1 h1 h2)
    | fail)
  go_ret
  exact ⟨rfl, by first | exact G16.out | exact gr_drewN _ G16.out | exact G12.out | exact gr_drewN _ G12.out⟩
theorem tri_facts {f : Nat} (hn : isN f = false) : (0 < sval f → fle f 0 = false ∧ feq f 0 = false ∧ flt f 0 = false ∧ flt 0 f = true) ∧ (sval f < 0 → fle f 0 = true ∧ feq f 0 = false ∧ flt f 0 = true ∧ flt 0 f = false) := by
  rw [fle_eq, feq_eq, flt_eq, flt_eq, hn, neg_one.2.2.2.2, neg_one.2.2.2.1]
  constructor <;> intro h <;> simp <;> omega
theorem elemTruly_c {x : Nat} {w : World} (hT : TB w) (hl : x < 18446744073709551616) : Calls Tryd.prog 3 #[.int .u64 (x : Int)] w (RetT w) := by
  have hx : Rep x (nrm x) := ⟨hl, rfl⟩
  cases hn : isN (nrm x)
  · have e := hx.eq_of hn
    rw [← e] at hx hn
    have hr : rung x ≤ 9218868437227405312 := (notN_iff x).1 hn
    cases h1 : flt x 13830554455654793216
    · by_cases hi : rung x = 9218868437227405312
      · have hx2 : x = 9218868437227405312 ∨ x = 18442240474082181120 := by
          have := num_wd hl
          rw [hi] at this
          cases hs : sgn x
          · rw [hs] at this; exact .inl this
          · rw [hs] at this; exact .inr this
        rcases hx2 with h | h
        · subst h
          exact elemTruly_inf
        · exfalso
          rw [h] at h1
          exact absurd h1 (by decide +kernel)
      · have hlt : rung x < 9218868437227405312 := by omega
        have hff : Proofs.YtcfkhhnkboealaaDoor.fin x = true := by unfold Proofs.YtcfkhhnkboealaaDoor.fin; simpa using hlt
        have hv := V.of hl hff
        by_cases hz : rung x = 0
        · have hx2 : x = 0 ∨ x = 9223372036854775808 := by
            have := num_wd hl
            rw [hz] at this
            cases hs : sgn x
            · rw [hs] at this; exact .inl this
            · rw [hs] at this; exact .inr this
          have hsz : ab (qv x) ≤ pw (-200) := by
            rw [hv.size, hz, mval_zero]
            have e : ((0 : Nat) : Rat) / (U : Rat) = 0 := by
              have a := div_self_mul ((0 : Nat) : Rat) UQ_ne
              have := UQ_ne
              have e0 : ((0 : Nat) : Rat) = 0 := rfl
              rw [e0] at a ⊢
              grind
            rw [e]
            exact Rat.le_of_lt (pw_pos _)
          rcases hx2 with h | h
          · subst h
            exact elemTruly_zero_tiny hT hx hn h1 hv (by decide +kernel) (by decide +kernel) (by decide +kernel) (by decide +kernel) (by decide +kernel) (by decide +kernel) hsz
          · subst h
            exact elemTruly_zero_tiny hT hx hn h1 hv (by decide +kernel) (by decide +kernel) (by decide +kernel) (by decide +kernel) (by decide +kernel) (by decide +kernel) hsz
        · have hm0 := mval_pos (show 0 < rung x by omega)
          have hform := hv.form
          have hU := UQ_pos
          have q0 : (0 : Rat) < (mval (rung x) : Rat) / (U : Rat) := by
            have h3 : ((1 : Nat) : Rat) ≤ (mval (rung x) : Rat) := cast_le.2 hm0
            have e1 : ((1 : Nat) : Rat) = 1 := rfl
            have h4 := div_self_mul (mval (rung x) : Rat) UQ_ne
            rcases (show 0 < (mval (rung x) : Rat) / (U : Rat) ∨ (mval (rung x) : Rat) / (U : Rat) ≤ 0 by grind) with q | q
            · exact q
            · have := Rat.mul_le_mul_of_nonneg_right q (Rat.le_of_lt hU)
              grind
          have tri := tri_facts hn
          have minus_one : ¬ x = 13830554455654793216 → sval 13830554455654793216 < sval x := by
            intro hne
            rw [flt_eq, hn, neg_one.1] at h1
            have h2 : ¬ sval x < sval 13830554455654793216 := by simpa using h1
            rcases Int.lt_trichotomy (sval 13830554455654793216) (sval x) with q | q | q
            · exact q
            · exfalso
              rw [neg_one.2.1] at q
              have hU2 := U_pos
              rcases sval_cases x with ⟨a, b⟩ | ⟨a, b⟩
              · rw [b] at q; omega
              · rw [b] at q
                have e1 : mval (rung x) = mval 4607182418800017408 := by rw [mval_oneT]; omega
                have e2 : rung x = 4607182418800017408 := Nat.le_antisymm (mval_le_iff.1 (Nat.le_of_eq e1)) (mval_le_iff.1 (Nat.le_of_eq e1.symm))
                have := num_wd hl
                rw [a, e2] at this
                exact hne this
            · exact absurd q h2
          have main : flt (rung x) 3706462493325918208 = false → ¬ x = 13830554455654793216 → -1 < qv x ∧ pw (-200) ≤ ab (qv x) ∧ feq x 13830554455654793216 = false ∧ flt 13830554455654793216 x = true := by
            intro ht hne
            have h5 := minus_one hne
            refine ⟨?_, tiny_no hv ht, ?_, flt_of (g := 13830554455654793216) hn neg_one.1 h5⟩
            · have h6 := hv.val
              unfold qv at h6
              have h7 := div_self_mul (sval x : Rat) UQ_ne
              rw [neg_one.2.1] at h5
              have h8 := cast_le'.2 (show -(U : Int) + 1 ≤ sval x by omega)
              have e9 : ((-(U : Int) + 1 : Int) : Rat) = -(U : Rat) + 1 := by push_cast; rfl
              rw [e9, ← h7] at h8
              rcases (show -1 < qv x ∨ qv x ≤ -1 by grind) with q | q
              · exact q
              · exfalso
                have m := Rat.mul_le_mul_of_nonneg_right q (Rat.le_of_lt hU)
                have e10 : (sval x : Rat) / (U : Rat) = qv x := rfl
                rw [e10] at h8
                grind
            · rw [feq_eq, hn, neg_one.1]
              simp
              omega
          cases hs : sgn x
          · have hsv : 0 < sval x := by unfold sval; rw [hs]; simp; exact hm0
            have hpos : 0 < qv x := by rw [hform, hs]; exact q0
            obtain ⟨y1, y2, y3, y4⟩ := tri.1 hsv
            cases ht : flt (rung x) 3706462493325918208
            · obtain ⟨a1, a2, a3, a4⟩ := main ht (by intro h; rw [h] at hs; exact absurd hs (by decide +kernel))
              exact elemTruly_pos_main hT hx hn h1 hv hpos y1 y2 y3 y4 a1 a2 ht a3 a4
            · have ht2 : ab (qv x) ≤ pw (-200) := tiny_yes2 hl hn ht
              exact elemTruly_pos_tiny hT hx hn h1 hv hpos y1 y2 y3 y4 ht ht2
          · have hsv : sval x < 0 := by unfold sval; rw [hs]; simp; omega
            obtain ⟨y1, y2, y3, y4⟩ := tri.2 hsv
            have hln := log_neg hn y3
            cases ht : flt (rung x) 3706462493325918208
            · by_cases hne : x = 13830554455654793216
              · subst hne
                exact elemTruly_minus hT
              · obtain ⟨a1, a2, a3, a4⟩ := main ht hne
                exact elemTruly_neg_main hT hx hn h1 hv hln y1 y2 y3 y4 a1 a2 ht a3 a4
            · have ht2 : ab (qv x) ≤ pw (-200) := tiny_yes2 hl hn ht
              exact elemTruly_neg_tiny hT hx hn h1 hv hln y1 y2 y3 y4 ht ht2
    · exact elemTruly_low hx hn h1
  · exact elemTruly_nan hx hn
end Go.Proofs.YtcfkhhnkboealaaDoor
