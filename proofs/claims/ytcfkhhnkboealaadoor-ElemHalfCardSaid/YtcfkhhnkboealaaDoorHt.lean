/- The statement of half sums, walked. Condition: the table of the places of bits stands in the world. -/
import Derived.Test.YtcfkhhnkboealaaDoorHf
import Derived.Test.YtcfkhhnkboealaaDoorEt
namespace Go.Proofs.YtcfkhhnkboealaaDoor
set_option linter.unusedVariables false
set_option linter.unusedSimpArgs false
set_option maxRecDepth 100000
set_option maxHeartbeats 4000000
open Go.RowKit
open Turns Sizes
theorem xor_back {S : Nat} (hl : S < 18446744073709551616) (hn : isN S = false) : fneg S ^^^ 9223372036854775808 = S := by
  have h1 : fneg (fneg S) = fneg S ^^^ 9223372036854775808 := by
    have : isN (fneg S) = false := by rw [isN_neg]; exact hn
    show (if isN (fneg S) then nanB else fneg S ^^^ 9223372036854775808) = _
    rw [this]
    rfl
  rw [← h1]
  exact fneg_neg hl (nrm_of_not hn)
theorem half_mant {z m S : Rat} (h1 : ab (z - S) ≤ u4 * ab S) (h2 : ab (m - z * pw (-1)) ≤ u4 * ab (z * pw (-1))) : ab (m - S * (1 / 2)) ≤ 4 * u4 * ab (S * (1 / 2)) := by
  have e : pw (-1) = 1 / 2 := by decide +kernel
  have t : u4 ≤ 1 / 1000000 := by decide +kernel
  have t0 := u4_pos
  have half : ab (1 / 2 : Rat) = 1 / 2 := by decide +kernel
  rw [e, ab_mul z, half] at h2
  rw [ab_mul S, half]
  have a1 := ab_tri m (z * (1 / 2)) (S * (1 / 2))
  have e2 : ab (z * (1 / 2) - S * (1 / 2)) = 1 / 2 * ab (z - S) := by
    rw [show z * (1 / 2) - S * (1 / 2) = (1 / 2) * (z - S) by grind, ab_mul, half]
  rw [e2] at a1
  have a2 := ab_tri z S 0
  rw [show z - 0 = z by grind, show S - 0 = S by grind] at a2
  have n := ab_nn S
  have k1 := Rat.mul_le_mul_of_nonneg_left a2 (Rat.le_of_lt t0)
  have k2 := Rat.mul_le_mul_of_nonneg_left h1 (Rat.le_of_lt t0)
  have k3 := Rat.mul_le_mul_of_nonneg_right t (show 0 ≤ u4 * ab S from Rat.mul_nonneg (Rat.le_of_lt t0) n)
  generalize ab (m - S * (1 / 2)) = A at *
  generalize ab (z - S) = B at *
  generalize ab z = Y at *
  generalize ab S = X at *
  have e3 : u4 * (Y * (1 / 2)) = 1 / 2 * (u4 * Y) := by grind
  have e4 : 4 * u4 * (X * (1 / 2)) = 2 * (u4 * X) := by grind
  have e5 : u4 * (B + X) = u4 * B + u4 * X := by grind
  have p := Rat.mul_nonneg (Rat.le_of_lt t0) n
  rw [e3] at h2
  rw [e4]
  rw [e5] at k1
  generalize u4 * (u4 * X) = Q at *
  generalize u4 * B = R at *
  grind
theorem sinhF_turn2 {f : Nat} (hl : f < 18446744073709551616) (hn : isN f = false) : sinhF (fneg f) = fneg (sinhF f) := by
  rw [sinhF_of hn, sinhF_of (by rw [isN_neg]; exact hn), rung_neg' hn]
  generalize sinhH (lessE (rung f)) = W
  cases hW : isN W
  · have hr := (notN_iff W).1 hW
    have key : ∀ g, isN g = false → signed W g = wd (sgn g) (rung W) := by
      intro g hg
      unfold signed minus wd
      rw [hW, hg, if_neg (by decide)]
      cases sgn g <;> simp <;> omega
    rw [key _ hn, key _ (by rw [isN_neg]; exact hn), sgn_neg hl hn, wd_neg hr]
  · have key : ∀ g, signed W g = nanB := by
      intro g
      unfold signed
      rw [hW, if_pos rfl]
    rw [key, key]
    decide +kernel
theorem Sz.half {n : Nat} {r : Rat} (h : Sz n r) : Sz (n + 1) (r * pw (-1)) := by
  have e : pw (-1) = 1 / 2 := by decide +kernel
  rcases h with h | ⟨h1, h2⟩
  · left; rw [h, Rat.zero_mul]
  · right
    have half : ab (1 / 2 : Rat) = 1 / 2 := by decide +kernel
    rw [e, ab_mul, half]
    have e1 : pw (-((n + 1 : Nat) : Int)) = 1 / 2 * pw (-(n : Int)) := by
      rw [show -((n + 1 : Nat) : Int) = -1 + -(n : Int) by omega, pw_add, e]
    have e2 : pw ((n + 1 : Nat) : Int) = 2 * pw (n : Int) := by
      rw [show ((n + 1 : Nat) : Int) = 1 + (n : Int) by omega, pw_add, show pw 1 = 2 by decide +kernel]
    have p := pw_pos (n : Int)
    rw [e1, e2]
    constructor <;> grind
theorem fneg_xor {f : Nat} (hl : f < 18446744073709551616) (hn : isN f = false) : fneg f = f ^^^ 9223372036854775808 := by
  show (if isN f then nanB else f ^^^ 9223372036854775808) = _
  rw [hn]
  rfl
theorem two_sz {w1 w2 : World} {g1 g2 : Nat} {v1 v2 : Rat} (h1 : FV w1 g1 v1) (h2 : FV w2 g2 v2) (s1 : Sz 4097 v1) (s2 : Sz 4097 v2) : Sz 4600 (v1 + v2) ∧ Sz 4600 (v1 - v2) := by
  obtain ⟨a, ha⟩ := h1.grid s1
  obtain ⟨b, hb⟩ := h2.grid s2
  have up : ∀ {x : Rat}, Sz 4097 x → ab x ≤ pw ((4097 : Nat) : Int) := by
    intro x h
    rcases h with h | h
    · rw [h, show ab (0 : Rat) = 0 by decide +kernel]; exact Rat.le_of_lt (pw_pos _)
    · exact h.2
  have u1 := up s1
  have u2 := up s2
  have e : pw ((4098 : Nat) : Int) = 2 * pw ((4097 : Nat) : Int) := by
    rw [show ((4098 : Nat) : Int) = 1 + ((4097 : Nat) : Int) by omega, pw_add]
    have : pw 1 = 2 := by decide +kernel
    rw [this]
  constructor
  · refine Sz.grid (z := a + b) (K := 4097 + 402) (M := 4098) ?_ ?_ (by omega) (by omega)
    · rw [ha, hb]
      have : ((a + b : Int) : Rat) = (a : Rat) + (b : Rat) := by exact_mod_cast rfl
      rw [this]; grind
    · have := ab_add v1 v2
      generalize pw ((4098 : Nat) : Int) = P at *
      generalize pw ((4097 : Nat) : Int) = P2 at *
      grind
  · refine Sz.grid (z := a - b) (K := 4097 + 402) (M := 4098) ?_ ?_ (by omega) (by omega)
    · rw [ha, hb]
      have : ((a - b : Int) : Rat) = (a : Rat) - (b : Rat) := by exact_mod_cast rfl
      rw [this]; grind
    · have := ab_sub v1 v2
      generalize pw ((4098 : Nat) : Int) = P at *
      generalize pw ((4097 : Nat) : Int) = P2 at *
      grind
theorem elemHalf_nan {x f : Nat} {w : World} (hx : Rep x f) (hn : isN f = true) : Calls Tryd.prog 5 #[.int .u64 (x : Int)] w (RetT w) := by
  have q1 := hx.none'
  rw [hn] at q1
  have hf := hx.nan_of hn
  have HE : Hid (coshF f = nanB) := Lib.hid (by rw [hf]; decide +kernel)
  have HL : Hid (sinhF f = nanB) := Lib.hid (by unfold sinhF; rw [hn, if_pos rfl])
  have hm : x < 18446744073709551616 := hx.lt
  go_enter Tryd.func5, Tryd.ntmps5
  go_wp2_with (first
    | (go_at_call 8; (with_reducible refine (elemAlive_c _).mono ?_); rintro e1 w1 ⟨n1, rfl, rfl⟩)
    | (go_at_call 25; (with_reducible refine (cosh_c hx _).mono ?_); rintro e2 w2 ⟨r2, n2, rfl, h2, rfl⟩; rw [HE.out] at h2; have p2 := h2.none'; rw [show isN nanB = true by decide +kernel] at p2)
    | (go_at_call 26; (with_reducible refine (sinh_c hx _).mono ?_); rintro e3 w3 ⟨r3, n3, rfl, h3, rfl⟩; rw [HL.out] at h3; have p3 := h3.none'; rw [show isN nanB = true by decide +kernel] at p3)
    | fail)
  go_ret
  exact ⟨rfl, gr_drewN _ (Grown.refl w)⟩
theorem elemHalf_inf {f : Nat} {w : World} (hx : Rep f f) (hn : isN f = false) (h0 : rung f ≠ 0) (h1 : coshF f = infP) (h2 : sinhF f = wd (sgn f) infP) (h3 : flt 4649454506724284170 (rung f) = true) (hd : coshF (fneg f) = infP) (hu : sinhF (fneg f) = fneg (wd (sgn f) infP)) : Calls Tryd.prog 5 #[.int .u64 (f : Int)] w (RetT w) := by
  have q1 := hx.none'
  rw [hn] at q1
  have hrr : rung f ≤ 9218868437227405312 := (notN_iff f).1 hn
  have HB : Hid (fabs f = rung f) := Lib.hid (fabs_of hn)
  have nb : isN (rung f) = false := (notN_iff _).2 (by rw [rung_pos hrr]; exact hrr)
  have NB := Lib.hid nb
  have hxb : Rep (rung f) (rung f) := Rep.self (by omega) (nrm_of_not nb)
  have hm : f < 18446744073709551616 := hx.lt
  obtain ⟨C, hC⟩ : ∃ C, C = infP := ⟨_, rfl⟩
  obtain ⟨S, hS⟩ : ∃ S, S = wd (sgn f) infP := ⟨_, rfl⟩
  have hSl : S < 18446744073709551616 := by rw [hS]; exact wd_lt (Nat.le_refl _)
  have hSn : isN S = false := by rw [hS]; exact wd_notN (Nat.le_refl _)
  have HC : Hid (coshF f = C) := Lib.hid (h1.trans hC.symm)
  have HS : Hid (sinhF f = S) := Lib.hid (h2.trans hS.symm)
  have HD : Hid (coshF (fneg f) = C) := Lib.hid (hd.trans hC.symm)
  have HU : Hid (sinhF (fneg f) = fneg S) := Lib.hid (by rw [hu, hS])
  have NC : Hid (isN C = false) := Lib.hid (by rw [hC]; decide +kernel)
  have NS := Lib.hid hSn
  have hrc : Rep C C := Rep.self (by rw [hC]; decide) (nrm_of_not NC.out)
  have hrs : Rep S S := Rep.self hSl (nrm_of_not hSn)
  have IC : Hid (isInf C 1 = true) := Lib.hid (by rw [hC]; decide +kernel)
  have hns := xor_back hSl hSn
  have q2 := hxb.gt' (Rep.self (f := 4649808285585637376) (by decide) (by decide +kernel))
  have q3 := hxb.gt' (Rep.self (f := 4649454506724284170) (by decide) (by decide +kernel))
  rw [h3] at q3
  have q4 := hrs.gt' Rep.c0
  have q5 := hx.gt' Rep.c0
  have z0 : sval 0 = 0 := by decide +kernel
  have hm0 : 0 < mval (rung f) := mval_pos (by omega)
  have e4 : flt 0 S = !sgn f := by
    rw [hS]
    cases sgn f
    · decide +kernel
    · decide +kernel
  have e5 : flt 0 f = !sgn f := by
    rw [flt_eq, hn, show isN 0 = false by decide +kernel, z0]
    rcases sval_cases f with ⟨a, b⟩ | ⟨a, b⟩ <;> rw [a, b] <;> simp <;> omega
  rw [e4] at q4
  rw [e5] at q5
  clear h1 h2 h3 hd hu hS hC hrr nb hSl hSn e4 e5 hm0 z0
  cases b2 : flt 4649808285585637376 (rung f) <;> cases b3 : sgn f
  all_goals
    rw [b2] at q2
    rw [b3] at q4 q5
    clear b2 b3
    go_enter Tryd.func5, Tryd.ntmps5
    go_wp2_with (first
      | (go_at_call 8; (with_reducible refine (elemAlive_c _).mono ?_); rintro e1 w1 ⟨n1, rfl, rfl⟩)
      | (go_at_call 25; (with_reducible refine (cosh_c hx _).mono ?_); rintro e2 w2 ⟨r2, n2, rfl, h2, rfl⟩; rw [HC.out] at h2; obtain rfl := h2.eq_of NC.out)
      | (go_at_call 26; (with_reducible refine (sinh_c hx _).mono ?_); rintro e3 w3 ⟨r3, n3, rfl, h3, rfl⟩; rw [HS.out] at h3; obtain rfl := h3.eq_of NS.out)
      | (go_at_call 25; (with_reducible refine (cosh_c hx.neg _).mono ?_); rintro e4 w4 ⟨r4, n4, rfl, h4, rfl⟩; rw [HD.out] at h4; obtain rfl := h4.eq_of NC.out)
      | (go_at_call 26; (with_reducible refine (sinh_c hx.neg _).mono ?_); rintro e5 w5 ⟨r5, n5, rfl, h5, rfl⟩; rw [HU.out] at h5; obtain rfl := h5.eq_of (by rw [isN_neg]; exact NS.out))
      | (go_at_call 13; (with_reducible refine (abs_c hx _).mono ?_); rintro e6 w6 ⟨q, n6, rfl, h1, rfl⟩; rw [HB.out] at h1; obtain rfl := h1.eq_of NB.out; clear h1)
      | (go_at_call 12; (with_reducible refine (isInf_c hrc _ _).mono ?_); rw [IC.out]; rintro eI wI ⟨nI, rfl, rfl⟩)
      | fail)
    go_ret
    exact ⟨rfl, gr_drewN _ (Grown.refl w)⟩
theorem elemHalf_tiny {f : Nat} {w : World} (hx : Rep f f) (hn : isN f = false) (hff : Proofs.YtcfkhhnkboealaaDoor.fin f = true) (h1 : coshF f = 4607182418800017408) (h2 : sinhF f = f) (h3 : flt 4649808285585637376 (rung f) = false) (h4 : flt (rung f) 3706462493325918208 = true) (hd : coshF (fneg f) = 4607182418800017408) (hu : sinhF (fneg f) = fneg f) : Calls Tryd.prog 5 #[.int .u64 (f : Int)] w (RetT w) := by
  have q1 := hx.none'
  rw [hn] at q1
  have hrr : rung f ≤ 9218868437227405312 := (notN_iff f).1 hn
  have HB : Hid (fabs f = rung f) := Lib.hid (fabs_of hn)
  have nb : isN (rung f) = false := (notN_iff _).2 (by rw [rung_pos hrr]; exact hrr)
  have NB := Lib.hid nb
  have hxb : Rep (rung f) (rung f) := Rep.self (by omega) (nrm_of_not nb)
  have hm : f < 18446744073709551616 := hx.lt
  have HC := Lib.hid h1
  have HS := Lib.hid h2
  have HD := Lib.hid hd
  have HU := Lib.hid hu
  have NC : Hid (isN 4607182418800017408 = false) := Lib.hid (by decide +kernel)
  have NS := Lib.hid hn
  have IS := Lib.hid (inf_false (s := 0) (V.of hx.lt hff)).2
  have hns := xor_back hx.lt hn
  have q2 := hxb.gt' (Rep.self (f := 4649808285585637376) (by decide) (by decide +kernel))
  rw [h3] at q2
  have q3 := hxb.lt' (Rep.self (f := 3706462493325918208) (by decide) (by decide +kernel))
  rw [h4] at q3
  have q4 := hx.some'
  rw [hn] at q4
  have q6 := Rep.cone.some'
  rw [NC.out] at q6
  clear h1 h2 h3 h4 hd hu hrr nb
  go_enter Tryd.func5, Tryd.ntmps5
  go_wp2_with (first
    | (go_at_call 8; (with_reducible refine (elemAlive_c _).mono ?_); rintro e1 w1 ⟨n1, rfl, rfl⟩)
    | (go_at_call 25; (with_reducible refine (cosh_c hx _).mono ?_); rintro e2 w2 ⟨r2, n2, rfl, h2, rfl⟩; rw [HC.out] at h2; obtain rfl := h2.eq_of NC.out)
    | (go_at_call 26; (with_reducible refine (sinh_c hx _).mono ?_); rintro e3 w3 ⟨r3, n3, rfl, h3, rfl⟩; rw [HS.out] at h3; obtain rfl := h3.eq_of NS.out)
    | (go_at_call 25; (with_reducible refine (cosh_c hx.neg _).mono ?_); rintro e4 w4 ⟨r4, n4, rfl, h4, rfl⟩; rw [HD.out] at h4; obtain rfl := h4.eq_of NC.out)
    | (go_at_call 26; (with_reducible refine (sinh_c hx.neg _).mono ?_); rintro e5 w5 ⟨r5, n5, rfl, h5, rfl⟩; rw [HU.out] at h5; obtain rfl := h5.eq_of (by rw [isN_neg]; exact NS.out))
    | (go_at_call 13; (with_reducible refine (abs_c hx _).mono ?_); rintro e6 w6 ⟨q, n6, rfl, h1, rfl⟩; rw [HB.out] at h1; obtain rfl := h1.eq_of NB.out; clear h1)
    | (go_at_call 12; (with_reducible refine (isInf_c Rep.cone _ _).mono ?_); rw [show isInf 4607182418800017408 1 = false by decide +kernel]; rintro eI wI ⟨nI, rfl, rfl⟩)
    | (go_at_call 12; (with_reducible refine (isInf_c hx _ _).mono ?_); rw [IS.out]; rintro eI wI ⟨nI, rfl, rfl⟩)
    | fail)
  go_ret
  exact ⟨rfl, gr_drewN _ (Grown.refl w)⟩
theorem elemHalf_fin {f : Nat} {w : World} (hT : TB w) (hx : Rep f f) (hn : isN f = false) (hf : V f (qv f)) (h0 : pw (-200) ≤ ab (qv f)) (ha : ab (qv f) ≤ 750) (h3 : flt 4649808285585637376 (rung f) = false) (h4 : flt (rung f) 3706462493325918208 = false) (hE : expF (rung f) < 9218868437227405312) (hd : coshF (fneg f) = coshF f) (hu : sinhF (fneg f) = fneg (sinhF f)) : Calls Tryd.prog 5 #[.int .u64 (f : Int)] w (RetT w) := by
  obtain ⟨k1, k2, k3⟩ := half_fin hf h0 ha hE
  have q1 := hx.none'
  rw [hn] at q1
  have hrr : rung f ≤ 9218868437227405312 := (notN_iff f).1 hn
  have HB : Hid (fabs f = rung f) := Lib.hid (fabs_of hn)
  have nb : isN (rung f) = false := (notN_iff _).2 (by rw [rung_pos hrr]; exact hrr)
  have NB := Lib.hid nb
  have hxb : Rep (rung f) (rung f) := Rep.self (by omega) (nrm_of_not nb)
  have hm : f < 18446744073709551616 := hx.lt
  obtain ⟨C, hC⟩ : ∃ C, coshF f = C := ⟨_, rfl⟩
  obtain ⟨S, hS⟩ : ∃ S, sinhF f = S := ⟨_, rfl⟩
  rw [hC] at k1 k3 hd
  rw [hS] at k2 k3 hu
  have HC := Lib.hid hC
  have HS := Lib.hid hS
  have HD := Lib.hid hd
  have HU := Lib.hid hu
  have NC := Lib.hid (fin_notN k1.fin)
  have NS := Lib.hid (fin_notN k2.fin)
  have hrc : Rep C C := Rep.self k1.lt (nrm_of_not NC.out)
  have hrs : Rep S S := Rep.self k2.lt (nrm_of_not NS.out)
  have IC := Lib.hid (inf_false (s := 0) k1).1
  have IS := Lib.hid (inf_false (s := 0) k2).2
  have hns := xor_back k2.lt NS.out
  have q2 := hxb.gt' (Rep.self (f := 4649808285585637376) (by decide) (by decide +kernel))
  rw [h3] at q2
  have q3 := hxb.lt' (Rep.self (f := 3706462493325918208) (by decide) (by decide +kernel))
  rw [h4] at q3
  have HV := Lib.hid hf
  have hvn := hf.neg
  rw [fneg_xor hx.lt hn] at hvn
  have HVN := Lib.hid hvn
  have HVE : Hid (qv (f ^^^ 9223372036854775808) = -(qv f)) := Lib.hid hvn.val
  have HA : Hid (ab (qv f) ≤ 1024) := Lib.hid (Rat.le_trans ha (by decide +kernel))
  have HAN : Hid (ab (-(qv f)) ≤ 1024) := Lib.hid (by rw [ab_neg]; exact HA.out)
  have HSz : Hid (Sz 200 (qv f)) := Lib.hid (.inr ⟨h0, Rat.le_trans ha (by decide +kernel)⟩)
  have HSN : Hid (Sz 200 (-(qv f))) := Lib.hid (.inr (by rw [ab_neg]; exact ⟨h0, Rat.le_trans ha (by decide +kernel)⟩))
  have HT := Lib.hid hT
  have VC := Lib.hid k1
  have VS := Lib.hid k2
  have K3 := Lib.hid k3
  have V16 := Lib.hid V.sixteen
  clear h3 h4 hd hu hrr nb hT hf h0 ha hE k1 k2 k3 hvn hC hS
  go_enter Tryd.func5, Tryd.ntmps5
  go_wp2_with (first
    | (go_at_call 8; (with_reducible refine (elemAlive_c _).mono ?_); rintro e1 w1 ⟨n1, rfl, rfl⟩)
    | (go_at_call 25; (with_reducible refine (cosh_c hx _).mono ?_); rintro e2 w2 ⟨r2, n2, rfl, h2, rfl⟩; rw [HC.out] at h2; obtain rfl := h2.eq_of NC.out)
    | (go_at_call 26; (with_reducible refine (sinh_c hx _).mono ?_); rintro e3 w3 ⟨r3, n3, rfl, h3, rfl⟩; rw [HS.out] at h3; obtain rfl := h3.eq_of NS.out)
    | (go_at_call 25; (with_reducible refine (cosh_c hx.neg _).mono ?_); rintro e4 w4 ⟨r4, n4, rfl, h4, rfl⟩; rw [HD.out] at h4; obtain rfl := h4.eq_of NC.out)
    | (go_at_call 26; (with_reducible refine (sinh_c hx.neg _).mono ?_); rintro e5 w5 ⟨r5, n5, rfl, h5, rfl⟩; rw [HU.out] at h5; obtain rfl := h5.eq_of (by rw [isN_neg]; exact NS.out))
    | (go_at_call 13; (with_reducible refine (abs_c hx _).mono ?_); rintro e6 w6 ⟨q, n6, rfl, h1, rfl⟩; rw [HB.out] at h1; obtain rfl := h1.eq_of NB.out; clear h1)
    | (go_at_call 12; (with_reducible refine (isInf_c hrc _ _).mono ?_); rw [IC.out]; rintro eI wI ⟨nI, rfl, rfl⟩)
    | (go_at_call 12; (with_reducible refine (isInf_c hrs _ _).mono ?_); rw [IS.out]; rintro eI wI ⟨nI, rfl, rfl⟩)
    | (go_at_call 15; (with_reducible refine (wide04_c (HT.out.dr _) HV.out.lt HV.out.fin).mono ?_); rintro e5 w5 ⟨g5, rfl, h1, h2, h3⟩; have A5 := Lib.hid h1; have G5 := Lib.hid (gr_trans (gr_drewN _ (Grown.refl w)) h2); have T5 := Lib.hid ((HT.out.dr _).grown h2); clear h1 h2 h3)
    | (go_at_call 20; (with_reducible refine (raised_c T5.out A5.out HSz.out (by decide) HA.out).mono ?_); rintro e6 w6 ⟨v1, k1, k2, g6, rfl, h1, h2, h3⟩; have D6 := Lib.hid h1; have S1 := Lib.hid k2; have R1 := Lib.hid (raised_rl k1); have G6 := Lib.hid (gr_trans G5.out h2); have T6 := Lib.hid (T5.out.grown h2); clear h1 h2 h3 k1 k2)
    | (go_at_call 15; (with_reducible refine (wide04_c T6.out HVN.out.lt HVN.out.fin).mono ?_); rintro e7 w7 ⟨g7, rfl, h1, h2, h3⟩; rw [HVE.out] at h1; have A7 := Lib.hid h1; have G7 := Lib.hid (gr_trans G6.out h2); have T7 := Lib.hid (T6.out.grown h2); have D7 := Lib.hid (D6.out.grown h2); clear h1 h2 h3)
    | (go_at_call 20; (with_reducible refine (raised_c T7.out A7.out HSN.out (by decide) HAN.out).mono ?_); rintro e8 w8 ⟨v2, k1, k2, g8, rfl, h1, h2, h3⟩; have Q8 := Lib.hid h1; have R2 := Lib.hid (raised_rl k1); have S2 := Lib.hid k2; have G8 := Lib.hid (gr_trans G7.out h2); have T8 := Lib.hid (T7.out.grown h2); have D8 := Lib.hid (D7.out.grown h2); have ZS := Lib.hid (two_sz D8.out Q8.out S1.out S2.out); have KK := Lib.hid (K3.out v1 v2 R1.out R2.out); have HG0 : Hid (Grown w8 (w8.alloc (.cells #[.bool false, .slice none 0 0, .int .i64 0, .int .i64 0, .bool false] 37))) := Lib.hid ((Grown.refl w8).alloc _ _); have HZ := Lib.hid (flcNew w8 37); have G9 := Lib.hid (gr_trans G8.out HG0.out); have T9 := Lib.hid (T8.out.grown HG0.out); clear h1 h2 h3 k1 k2)
    | (go_at_call 21; (with_reducible refine (fprec_c T9.out HZ.out).mono ?_); rintro e10 w10 ⟨rfl, h1, h2⟩; have L10 := Lib.hid h1; have X := h2.grown HG0.out (Nat.le_refl _); have G10 := Lib.hid (gr_trans G8.out X); have T10 := Lib.hid (T9.out.keptC HZ.out h2); have D10 := Lib.hid (D8.out.grown X); have Q10 := Lib.hid (Q8.out.grown X); clear h1 h2 X)
    | (go_at_call 16; (with_reducible refine (fadd_c T10.out L10.out.z D10.out Q10.out S1.out S2.out (by decide)).mono ?_); rintro e11 w11 ⟨z1, k1, rfl, h1, h2⟩; have K11 := Lib.hid k1; have P11 := Lib.hid h1; have G11 := Lib.hid (h2.grown G10.out G8.out.2.2); have T11 := Lib.hid (T10.out.kept L10.out.z h2); have D11 := Lib.hid (D10.out.kept h2 (Nat.ne_of_lt D8.out.lt) L10.out.z.no); have Q11 := Lib.hid (Q10.out.kept h2 (Nat.ne_of_lt Q8.out.lt) L10.out.z.no); have SZ1 := Lib.hid (Sz.near ZS.out.1 k1 u4_small); have HG1 : Hid (Grown w11 (w11.alloc (.cells #[.bool false, .slice none 0 0, .int .i64 0, .int .i64 0, .bool false] 37))) := Lib.hid ((Grown.refl w11).alloc _ _); have HZ1 := Lib.hid (flcNew w11 37); have T12 := Lib.hid (T11.out.grown HG1.out); clear k1 h1 h2)
    | (go_at_call 21; (with_reducible refine (fprec_c T12.out HZ1.out).mono ?_); rintro e13 w13 ⟨rfl, h1, h2⟩; have L13 := Lib.hid h1; have X := h2.grown HG1.out (Nat.le_refl _); have G13 := Lib.hid (gr_trans G11.out X); have T13 := Lib.hid (T12.out.keptC HZ1.out h2); have D13 := Lib.hid (D11.out.grown X); have Q13 := Lib.hid (Q11.out.grown X); have P13 := Lib.hid (P11.out.grown X); clear h1 h2 X)
    | (go_at_call 22; (with_reducible refine (fsub_c T13.out L13.out.z D13.out Q13.out S1.out S2.out (by decide)).mono ?_); rintro e14 w14 ⟨z2, k1, rfl, h1, h2⟩; have K14 := Lib.hid k1; have O := Lib.hid h1; have G := Lib.hid (h2.grown G13.out G11.out.2.2); have T := Lib.hid (T13.out.kept L13.out.z h2); have P := Lib.hid (P13.out.kept h2 (Nat.ne_of_lt P11.out.lt) L13.out.z.no); have SZ2 := Lib.hid (Sz.near ZS.out.2 k1 u4_small); have XN : Hid (w8.heap.size ≠ w11.heap.size) := Lib.hid (Nat.ne_of_lt P11.out.lt); have W8 := Lib.hid G8.out.2.2; have W11 := Lib.hid G11.out.2.2; clear k1 h1 h2)
    | (go_at_call 28; (with_reducible refine (fmant_c T.out.at' T.out.lt P.out.z P.out SZ1.out (by decide) (by decide) (by decide)).mono ?_); rintro e15 w15 ⟨m1, k1, rfl, h1, h2⟩; have NX := Lib.hid (KK.out.1 m1 (half_mant K11.out k1)); have M := Lib.hid h1; have SM := Lib.hid (Sz.near (Sz.half SZ1.out) k1 u4_small); have G := Lib.hid (h2.grown G.out W8.out); have T := Lib.hid (T.out.kept P.out.z h2); have O := Lib.hid (O.out.kept h2 (Ne.symm XN.out) P.out.z.no); clear k1 h1 h2)
    | (go_at_call 28; (with_reducible refine (fmant_c T.out.at' T.out.lt O.out.z O.out SZ2.out (by decide) (by decide) (by decide)).mono ?_); rintro e16 w16 ⟨m2, k1, rfl, h1, h2⟩; have NY := Lib.hid (KK.out.2 m2 (half_mant K14.out k1)); have M := Lib.hid h1; have SM := Lib.hid (Sz.near (Sz.half SZ2.out) k1 u4_small); have G := Lib.hid (h2.grown G.out W11.out); have T := Lib.hid (T.out.kept O.out.z h2); clear k1 h1 h2)
    | (go_at_call 24; (with_reducible refine (near_c T.out VC.out V16.out (by decide) M.out SM.out (by decide)).mono ?_); rintro eN wN ⟨b, rfl, h1, h2⟩; obtain rfl := h1 NX.out; have G := Lib.hid (gr_trans G.out h2); have T := Lib.hid (T.out.grown h2); have O := Lib.hid (O.out.grown h2); clear h1 h2)
    | (go_at_call 24; (with_reducible refine (near_c T.out VS.out V16.out (by decide) M.out SM.out (by decide)).mono ?_); rintro eN wN ⟨b, rfl, h1, h2⟩; obtain rfl := h1 NY.out; have G := Lib.hid (gr_trans G.out h2); clear h1 h2)
    | fail)
  go_ret
  exact ⟨rfl, by first | exact G.out | exact gr_drewN _ G.out⟩
theorem elemHalf_c {x : Nat} {w : World} (hT : TB w) (hl : x < 18446744073709551616) : Calls Tryd.prog 5 #[.int .u64 (x : Int)] w (RetT w) := by
  have hx : Rep x (nrm x) := ⟨hl, rfl⟩
  cases hn : isN (nrm x)
  · have e := hx.eq_of hn
    rw [← e] at hx hn
    have hd := coshF_turn x hl hn
    have hu := sinhF_turn2 hl hn
    have hr : rung x ≤ 9218868437227405312 := (notN_iff x).1 hn
    cases h3 : flt 4649808285585637376 (rung x)
    · have hlt : rung x < 9218868437227405312 := by
        rcases Nat.lt_or_ge (rung x) 9218868437227405312 with q | q
        · exact q
        · exfalso
          rw [show rung x = 9218868437227405312 by omega] at h3
          exact absurd h3 (by decide +kernel)
      have hff : Proofs.YtcfkhhnkboealaaDoor.fin x = true := by unfold Proofs.YtcfkhhnkboealaaDoor.fin; simpa using hlt
      have hv := V.of hl hff
      have ha : ab (qv x) ≤ 750 := by
        rw [flt_words (by decide) hlt] at h3
        have h5 : rung x ≤ 4649808285585637376 := by simpa using h3
        have h6 := cast_le.2 (mval_le_iff.2 h5)
        have e7 := (vnum (w := 4649808285585637376) (k := 750) (by decide) (by decide +kernel)).uniq (V.pos (by decide))
        have e8 : ((750 : Nat) : Rat) = 750 := by decide +kernel
        rw [hv.size, ← e8, e7, div_le UQ_pos, div_self_mul _ UQ_ne]
        exact h6
      cases h4 : flt (rung x) 3706462493325918208
      · have h0 := tiny_no hv h4
        by_cases hE : expF (rung x) < 9218868437227405312
        · exact elemHalf_fin hT hx hn hv h0 ha h3 h4 hE hd hu
        · obtain ⟨r1, r2, r3⟩ := half_inf_mid hv h0 ha hE
          refine elemHalf_inf hx hn ?_ r1 r2 r3 (hd.trans r1) (by rw [hu, r2])
          intro h
          rw [h] at r3
          exact absurd r3 (by decide +kernel)
      · obtain ⟨_, t2⟩ := tiny_yes hl hn h4
        obtain ⟨r1, r2⟩ := half_tiny hv t2
        exact elemHalf_tiny hx hn hff r1 r2 h3 h4 (hd.trans r1) (by rw [hu, r2])
    · obtain ⟨r1, r2, r3⟩ := half_inf_far hl hn h3
      refine elemHalf_inf hx hn ?_ r1 r2 r3 (hd.trans r1) (by rw [hu, r2])
      intro h
      rw [h] at r3
      exact absurd r3 (by decide +kernel)
  · exact elemHalf_nan hx hn
end Go.Proofs.YtcfkhhnkboealaaDoor
