/- FloatTwos holds: for every input the law returns true and every argument reads as before. No condition. -/
import Derived.Test.YtcfkhhnkboealaaRows
import Derived.Test.YtcfkhhnkboealaaTw
import Derived.Test.YtcfkhhnkboealaaRat5
import Derived.Test.YtcfkhhnkboealaaFLo
import Derived.WalkKit
import Derived.ProofKit
import Derived.OpenShut
import Derived.ShutString
namespace Go.Proofs.Ytcfkhhnkboealaa.floatTwos
open Go.ChangeShapes Go.WideShapes Go.ChangeAt Go.RowKit
open Go.ChangeMaps (open_string shut_string)
set_option linter.unusedVariables false      -- a walk need not use every 'w<i>' (that an integer argument fits its kind)

theorem own : ownKnob Try.prog.godebug = none := by kernel_rfl

/-! ### STEP 1: THE WALK: the Go text returns true. 'Grown w w'': the world has at most new blocks (Derived/RowKit3.lean). Part the cases AHEAD of 'go_enter' where a test parts the walk; take each callee by a contract of your own. -/
set_option maxHeartbeats 4000000 in
set_option maxRecDepth 100000 in
theorem walk (a0 : Int) (a1 : Int) (w0 : (Lit.int .u64 a0).wf = true) (w1 : (Lit.int .i16 a1).wf = true) (w : World) :
    Calls Try.prog 5 #[.int .u64 a0, .int .i16 a1] w fun e w' => e = .returned (.bool true) ∧ Grown w w' := by
  obtain ⟨b0, b1⟩ := bounds_u64 w0
  obtain ⟨x, rfl⟩ := Int.eq_ofNat_of_zero_le b0
  have hx : Rep x (nrm x) := ⟨by omega, rfl⟩
  have hlx := hx.flt
  generalize nrm x = f at hx hlx
  clear w0 b0 b1
  have hbd := bounds_i16 w1
  cases hfz : (fin f && !feq f 0)
  · have HP := Lib.hid (parts_none hfz)
    have k0 := hx.eq' Rep.c0
    have k1 := hx.ne' hx
    rw [feq_self] at k1
    have hway : (fin f = false ∧ isN f = true) ∨ (isN f = false ∧ (fin f = false ∨ (fin f = true ∧ feq f 0 = true))) := by
      cases h : fin f
      · cases hn : isN f
        · exact .inr ⟨rfl, .inl rfl⟩
        · exact .inl ⟨rfl, rfl⟩
      · rw [h] at hfz; exact .inr ⟨fin_notN h, .inr ⟨rfl, by simpa using hfz⟩⟩
    clear hfz
    rcases hway with ⟨hf, hn⟩ | ⟨hn, hway⟩
    · have HF := Lib.hid hf
      have HN := Lib.hid hn
      rw [hn, Bool.not_not] at k1
      go_enter Try.func5, Try.ntmps5
      go_upto_region 4 with (first
        | (go_at_call 26; (with_reducible refine (parts_c hx _).mono ?_); rw [HP.out.1, HP.out.2]; rintro e w' ⟨r, n, rfl, hr, rfl⟩; have k2 := hr.ne' hr; rw [feq_self, HN.out, Bool.not_not] at k2)
        | (go_at_call 19; refine (alive_c _).mono ?_; rintro e w' ⟨rfl, hga⟩)
        | fail)
      cases hrx : ((r : Int) == (x : Int))
      all_goals
        go_wp2_with (first
          | (go_at_call 18; (with_reducible refine (lawFinite_c hx _).mono ?_); rw [HF.out]; rintro e w' ⟨n, rfl, rfl⟩)
          | go_in)
        go_ret
        exact ⟨rfl, grown_drewN' _ hga⟩
    · obtain rfl := hx.eq_of hn
      have HN := Lib.hid hn
      rw [hn] at k1
      rcases hway with hf | ⟨hf, hz⟩
      all_goals
        have HF := Lib.hid hf
        (try rw [hz] at k0)
        go_enter Try.func5, Try.ntmps5
        go_wp2_with (first
          | (go_at_call 26; (with_reducible refine (parts_c hx _).mono ?_); rw [HP.out.1, HP.out.2]; rintro e w' ⟨r, n, rfl, hr, rfl⟩; have hrx := hr.eq_of HN.out; subst hrx)
          | (go_at_call 18; (with_reducible refine (lawFinite_c hx _).mono ?_); rw [HF.out]; rintro e w' ⟨n, rfl, rfl⟩)
          | (go_at_call 19; refine (alive_c _).mono ?_; rintro e w' ⟨rfl, hga⟩)
          | go_in)
        go_ret
        exact ⟨rfl, grown_drewN' _ hga⟩
  · have hf : fin f = true := by cases h : fin f <;> simp_all
    have hz : feq f 0 = false := by cases h : feq f 0 <;> simp_all
    clear hfz
    have hn := fin_notN hf
    obtain rfl := hx.eq_of hn
    have h0 : rung x ≠ 0 := by rw [feq_zero hn] at hz; simpa using hz
    have k0 := hx.eq' Rep.c0
    rw [hz] at k0
    obtain ⟨q1, q2, q3, q4⟩ := parts_back hlx hf h0
    have HF := Lib.hid hf
    have HN := Lib.hid hn
    have HQ1 := Lib.hid (fin_notN q1)
    have HQ2 := Lib.hid q2
    have HQ3 := Lib.hid q3
    have HQ4 := Lib.hid q4
    have HPC := Lib.hid (fun W => parts_c hx W)
    have R1 : Rep 4607182418800017408 4607182418800017408 := Rep.self (by decide) (by decide +kernel)
    have RM : Rep 4503599627370496 4503599627370496 := Rep.self (by decide) (by decide +kernel)
    have hsx := scale_sgn (n := clampN a1) hlx hf h0
    have hex := fun hs hb => scale_exact (n := a1) hlx hf h0 hs hb
    obtain ⟨M, eM⟩ : ∃ M, partF x = M := ⟨_, rfl⟩
    obtain ⟨E, eE⟩ : ∃ E, partE x = E := ⟨_, rfl⟩
    obtain ⟨Z, eZ⟩ : ∃ Z, scaleF x (clampN a1) = Z := ⟨_, rfl⟩
    have HSC := Lib.hid (fun W => scale_c hx W a1)
    rw [eM] at HQ1 HQ2 HQ3 HQ4
    rw [eE] at HQ4
    rw [eM, eE] at HPC
    rw [eZ] at hsx hex HSC
    obtain ⟨hsx, hZn, hlZ⟩ := hsx
    have HZN := Lib.hid hZn
    have hZ : Rep Z Z := Rep.self hlZ (nrm_of_not hZn)
    clear q1 q2 q3 q4 eM eE eZ hz h0
    cases hzz : (fin Z && !fle (fabs Z) 4503599627370496)
    · have hway : fin Z = false ∨ (fin Z = true ∧ fle (fabs Z) 4503599627370496 = true) := by
        cases h : fin Z
        · exact .inl rfl
        · rw [h] at hzz; exact .inr ⟨rfl, by simpa using hzz⟩
      clear hzz hex
      have HSX := Lib.hid hsx
      rcases hway with hfz | ⟨hfz, hle⟩
      all_goals
        have HFZ := Lib.hid hfz
        have hle2 : ∀ r, Rep r (fabs Z) → True := fun _ _ => trivial
        go_enter Try.func5, Try.ntmps5
        go_wp2_with (first
          | (go_at_call 26; (with_reducible refine (HPC.out _).mono ?_); rintro e w' ⟨r, n, rfl, hr, rfl⟩; obtain rfl : M = r := (hr.eq_of HQ1.out).symm)
          | (go_at_call_of 23 (Value.float FloatKind.f64 M); (with_reducible refine (abs_c hr _).mono ?_); rintro e w' ⟨c, n9, rfl, hc, rfl⟩; have k1 := (hc.lt' Rep.half).trans HQ2.out; have k2 := (hc.ge' R1).trans HQ3.out)
          | (go_at_call_of 28 (Value.float FloatKind.f64 M); (with_reducible refine (scale_c hr _ E).mono ?_); rw [HQ4.out]; rintro e w' ⟨s9, n8, rfl, hs9, rfl⟩; obtain rfl : x = s9 := (hs9.eq_of HN.out).symm; have k3 := hx.ne' hx; rw [feq_self, HN.out, Bool.not_not] at k3)
          | (go_at_call_of 28 (Value.float FloatKind.f64 x); (try rw [IntWalk.i64_in _ ⟨by omega, by omega⟩]); (with_reducible refine (HSC.out _).mono ?_); rintro e w' ⟨s, n7, rfl, hs, rfl⟩; obtain rfl : Z = s := (hs.eq_of HZN.out).symm)
          | (go_at_call_of 18 (Value.float FloatKind.f64 x); (with_reducible refine (lawFinite_c hx _).mono ?_); rw [HF.out]; rintro e w' ⟨n, rfl, rfl⟩)
          | (go_at_call 18; (with_reducible refine (lawFinite_c hZ _).mono ?_); rw [HFZ.out]; rintro e w' ⟨n, rfl, rfl⟩)
          | (go_at_call 23; (with_reducible refine (abs_c hZ _).mono ?_); rintro e w' ⟨c7, n6, rfl, hc7, rfl⟩; have k7 := (hc7.le' RM).trans hle)
          | (go_at_call_of 20 (Value.float FloatKind.f64 x); (with_reducible refine (signbit_c hx _).mono ?_); rintro e w' ⟨n, rfl, rfl⟩)
          | (go_at_call 20; (with_reducible refine (signbit_c hZ _).mono ?_); rw [HSX.out]; rintro e w' ⟨n, rfl, rfl⟩)
          | (go_at_call 19; refine (alive_c _).mono ?_; rintro e w' ⟨rfl, hga⟩)
          | fail)
        go_ret
        exact ⟨rfl, grown_drewN' _ hga⟩
    · have hs : fin Z = true := by cases h : fin Z <;> simp_all
      have hle : fle (fabs Z) 4503599627370496 = false := by cases h : fle (fabs Z) 4503599627370496 <;> simp_all
      clear hzz
      have hbig : 4503599627370496 < rung Z := by
        rcases Nat.lt_or_ge 4503599627370496 (rung Z) with g | g
        · exact g
        · exfalso
          have hq := fin_rung hs
          rw [fabs_of hZn, fle_eq, num_pos (by omega), sval_pos' (by omega), show sval 4503599627370496 = (mval 4503599627370496 : Int) by decide +kernel, show (isN 4503599627370496) = false by decide +kernel] at hle
          have := mval_le_iff.2 g
          simp at hle
          omega
      obtain ⟨e1, e2, e3, e4⟩ := hex hs hbig
      have HFZ := Lib.hid hs
      have HA1 := Lib.hid (And.intro (digs_sval hf) (digs_sval hs))
      have HU := Lib.hid digs_U
      have HSX := Lib.hid (fun W => exactQ_c W hlx hf)
      have HSS := Lib.hid (fun W => exactQ_c W hlZ hs)
      have hsg : (∃ j : Nat, a1 = (j : Int) ∧ j ≤ 5000 ∧ sval Z = sval x * ((2 ^ j : Nat) : Int)) ∨ (∃ j : Nat, a1 = -(j : Int) ∧ 0 < j ∧ j ≤ 5000 ∧ sval Z * ((2 ^ j : Nat) : Int) = sval x) := by
        by_cases h : 0 ≤ a1
        · exact .inl ⟨a1.toNat, by omega, by omega, e1 _ (by omega)⟩
        · exact .inr ⟨(-a1).toNat, by omega, by omega, by omega, e2 _ (by omega)⟩
      clear e1 e2 e3 e4 hex hsx hbig hlx hlZ hf hs hn hZn
      rcases hsg with ⟨j, rfl, hj, hv⟩ | ⟨j, rfl, hj0, hj, hv⟩
      all_goals
        have HP2 : RowKit.Hid ((digs (2 ^ j)).length ≤ 200) := Lib.hid (by
          have := digs_len_pow (A := 1) (k := j) (m := 200) (by have : bl 1 = 1 := rfl; omega)
          rwa [Nat.one_mul] at this)
        have HJ := Lib.hid hj
        have HV := Lib.hid hv
        obtain ⟨P, eP⟩ : ∃ P, 2 ^ j = P := ⟨_, rfl⟩
        have HEP := Lib.hid eP
        clear hv eP
        go_enter Try.func5, Try.ntmps5
        go_upto_region 12 with (first
          | (go_at_call 26; (with_reducible refine (HPC.out _).mono ?_); rintro e w' ⟨r, n, rfl, hr, rfl⟩; obtain rfl : M = r := (hr.eq_of HQ1.out).symm)
          | (go_at_call_of 23 (Value.float FloatKind.f64 M); (with_reducible refine (abs_c hr _).mono ?_); rintro e w' ⟨c, n9, rfl, hc, rfl⟩; have k1 := (hc.lt' Rep.half).trans HQ2.out; have k2 := (hc.ge' R1).trans HQ3.out)
          | (go_at_call_of 28 (Value.float FloatKind.f64 M); (with_reducible refine (scale_c hr _ E).mono ?_); rw [HQ4.out]; rintro e w' ⟨s9, n8, rfl, hs9, rfl⟩; obtain rfl : x = s9 := (hs9.eq_of HN.out).symm; have k3 := hx.ne' hx; rw [feq_self, HN.out, Bool.not_not] at k3)
          | (go_at_call_of 28 (Value.float FloatKind.f64 x); (try rw [IntWalk.i64_in _ ⟨by omega, by omega⟩]); (with_reducible refine (HSC.out _).mono ?_); rintro e w' ⟨s, n7, rfl, hs, rfl⟩; obtain rfl : Z = s := (hs.eq_of HZN.out).symm)
          | (go_at_call_of 18 (Value.float FloatKind.f64 x); (with_reducible refine (lawFinite_c hx _).mono ?_); rw [HF.out]; rintro e w' ⟨n, rfl, rfl⟩)
          | (go_at_call 18; (with_reducible refine (lawFinite_c hZ _).mono ?_); rw [HFZ.out]; rintro e w' ⟨n, rfl, rfl⟩)
          | (go_at_call 23; (with_reducible refine (abs_c hZ _).mono ?_); rintro e w' ⟨c7, n6, rfl, hc7, rfl⟩; have k7 := (hc7.le' RM).trans hle)
          | (go_at_call 19; refine (alive_c _).mono ?_; rintro e w7 ⟨rfl, hga⟩; have HGA := Lib.hid hga; clear hga)
          | fail)
        generalize eW : World.drewN _ _ = W
        have HG0 : RowKit.Hid (Grown w W) := Lib.hid (by rw [← eW]; exact gr_drewN _ HGA.out)
        clear eW
        have HZ0 := Lib.hid (ratNew (Grown.refl W) 40)
        have HI0 : RowKit.Hid (IntC ((W.alloc (.cells #[.bool false, .slice none 0 0, .slice none 0 0] 40)).alloc (.cells #[.bool false, .slice none 0 0] 38)) (W.heap.size + 1) false (.slice none 0 0)) := Lib.hid (by
          have := intNew (Grown.refl (W.alloc (.cells #[.bool false, .slice none 0 0, .slice none 0 0] 40))) 38
          rwa [size_alloc] at this)
        have HD1 : RowKit.Hid ((digs 1).length ≤ 1000) := Lib.hid (by
          have := digs_len_pow (A := 1) (k := 0) (m := 200) (by have : bl 1 = 1 := rfl; omega)
          rw [Nat.pow_zero, Nat.mul_one] at this; omega)
        have HP0 : RowKit.Hid (P ≠ 0) := Lib.hid (by rw [← HEP.out]; exact Nat.ne_of_gt (Nat.two_pow_pos j))
        have HPL : RowKit.Hid ((digs P).length ≤ 200) := Lib.hid (by rw [← HEP.out]; exact HP2.out)
        have HPI : RowKit.Hid ((digs ((P : Nat) : Int).natAbs).length ≤ 200) := Lib.hid (by rw [Int.natAbs_natCast]; exact HPL.out)
        have HE1 : RowKit.Hid (sg false (1 * 2 ^ j) = ((P : Nat) : Int)) := Lib.hid (by rw [Nat.one_mul, HEP.out]; rfl)
        have HV2 : RowKit.Hid (_ = _) := Lib.hid (HEP.out ▸ HV.out)
        have HL1 : RowKit.Hid ((digs (sval x * ((P : Nat) : Int)).natAbs).length ≤ 10000) := Lib.hid (by have h1 := digs_len_imul (sval x) P; have h2 := HPL.out; have h3 := HA1.out.1; omega)
        have HL2 : RowKit.Hid ((digs (sval x * ((1 : Nat) : Int)).natAbs).length ≤ 10000) := Lib.hid (by have h1 := digs_len_imul (sval x) 1; have h2 := HD1.out; have h3 := HA1.out.1; omega)
        have HL3 : RowKit.Hid ((digs (U * 1)).length ≤ 10000) := Lib.hid (by have h1 := digs_len_mul U 1; have h2 := HD1.out; have h3 := HU.out; omega)
        have HL4 : RowKit.Hid ((digs (U * P)).length ≤ 10000) := Lib.hid (by have h1 := digs_len_mul U P; have h2 := HPL.out; have h3 := HU.out; omega)
        have HN1 : RowKit.Hid (∀ W, Calls Try.prog 31 #[.int .i64 1] W (RetNI 1 W)) := Lib.hid (fun W => newInt_c (n := 1) W (by decide))
        go_upto_region 14 with (first
          | (go_at_call 31; (with_reducible refine (HN1.out _).mono ?_); rintro e W1 ⟨gi, vi, rfl, hvi, hii, hgi, hgei⟩; have HV1 := Lib.hid hvi; have HI1 := Lib.hid hii; have HG1 := Lib.hid hgi; have HNE : RowKit.Hid (gi ≠ W.heap.size + 1) := Lib.hid (by rw [size_alloc, size_alloc] at hgei; omega); clear hvi hii hgi hgei)
          | (go_at_call 30; go_loud ((with_reducible refine (ilsh_c (HI0.out.grown HG1.out) HI1.out HV1.out HNE.out (Nat.le_trans HJ.out (by decide)) (Nat.le_trans HD1.out (by decide))).mono ?_); rintro e W3 ⟨u1, hg1, v2, rfl, hv2, hi2, hg2, hk2⟩; have HV3 := Lib.hid hv2; have HI3 : RowKit.Hid (IntC W3 (W.heap.size + 1) false v2) := Lib.hid hi2; have HG3 : RowKit.Hid (Grown W W3) := Lib.hid (hg2.grown (gr_trans (((Grown.refl W).alloc _ _).alloc _ _) (gr_trans HG1.out hg1)) (Nat.le_succ _)); have HZ3 := Lib.hid ((HZ0.out.grown (gr_trans ((Grown.refl _).alloc _ _) (gr_trans HG1.out hg1))).kept hg2 (Nat.ne_of_lt (Nat.lt_succ_self _))); clear hv2 hi2 hg2 hk2 hg1))
          | (go_at_call 29; go_loud ((with_reducible refine (rsetI_c HZ3.out HI3.out HV3.out (Nat.ne_of_gt (Nat.lt_succ_self _))).mono ?_); rintro e W4 ⟨u2, hg1, rfl, hr4, hg4⟩; have HR4 : RowKit.Hid (RatAt W4 W.heap.size ((P : Nat) : Int) 1) := Lib.hid (by rw [← HE1.out]; exact hr4); have HG4 : RowKit.Hid (Grown W W4) := Lib.hid (hg4.grown (gr_trans HG3.out hg1) (Nat.le_refl _)); clear hr4 hg4 hg1))
          | (go_at_call 22; go_loud ((with_reducible refine (HSX.out _).mono ?_); rintro e W5 ⟨g5, rfl, hr5, hg5, hge5⟩; have HR5 := Lib.hid hr5; have HG5 := Lib.hid hg5; have HGE5 := Lib.hid hge5; have HN5 : RowKit.Hid (W.heap.size ≠ g5) := Lib.hid (Nat.ne_of_lt (Nat.lt_of_lt_of_le HR4.out.z.lt hge5)); clear hr5 hg5 hge5))
          | fail)
        go_wp2_with (first
          | (go_at_call 32; go_loud ((with_reducible refine (rMulA_c HR5.out (HR4.out.grown HG5.out) HN5.out (Nat.le_trans HA1.out.1 (by decide)) (Nat.le_trans HU.out (by decide)) (Nat.le_trans HPI.out (by decide)) (Nat.le_trans HD1.out (by decide))).mono ?_); rintro e W6 ⟨u3, hg1, rfl, hr6, hg6⟩; have HR6 := Lib.hid hr6; have HG6 := Lib.hid (hg6.grown (gr_trans HG5.out hg1) HGE5.out); have HCL := Lib.hid (And.intro HL1.out HL3.out); have HC : RowKit.Hid (cmpQ (sval Z) U (sval x * ((P : Nat) : Int)) (U * 1) = 0) := Lib.hid (by unfold cmpQ; rw [HV2.out]; simp); clear hr6 hg6 hg1))
          | (go_at_call 33; go_loud ((with_reducible refine (rQuoA_c HR5.out (HR4.out.grown HG5.out) HP0.out HN5.out (Nat.le_trans HA1.out.1 (by decide)) (Nat.le_trans HU.out (by decide)) (Nat.le_trans HPL.out (by decide)) (Nat.le_trans HD1.out (by decide))).mono ?_); rintro e W6 ⟨u3, hg1, rfl, hr6, hg6⟩; have HR6 := Lib.hid hr6; have HG6 := Lib.hid (hg6.grown (gr_trans HG5.out hg1) HGE5.out); have HCL := Lib.hid (And.intro HL2.out HL4.out); have HC : RowKit.Hid (cmpQ (sval Z) U (sval x * ((1 : Nat) : Int)) (U * P) = 0) := Lib.hid (by have : sval Z * ((U * P : Nat) : Int) = sval x * ((1 : Nat) : Int) * (U : Int) := (by rw [← HV2.out]; grind); unfold cmpQ; rw [this]; simp); clear hr6 hg6 hg1))
          | (go_at_call 22; go_loud ((with_reducible refine (HSS.out _).mono ?_); rintro e W7 ⟨g7, rfl, hr7, hg7, hge7⟩; have HR7 := Lib.hid hr7; have HG7 := Lib.hid hg7; clear hr7 hg7 hge7))
          | (go_at_call 25; go_loud ((with_reducible refine (rcmp_c HR7.out (HR6.out.grown HG7.out) (Nat.le_trans HA1.out.2 (by decide)) (Nat.le_trans HU.out (by decide)) HCL.out.1 HCL.out.2).mono ?_); rw [HC.out]; rintro e W8 ⟨rfl, hg8⟩; have HG8 := Lib.hid hg8; clear hg8))
          | fail)
        go_ret
        have h1 := gr_trans (gr_trans (gr_trans (gr_trans HG0.out HG4.out) HG6.out) HG7.out) HG8.out
        first | exact ⟨rfl, h1⟩ | exact ⟨rfl, gr_drewN _ h1⟩

/-! ### THE ROW's STEP: WRITTEN OUT: LEAVE IT -/
set_option maxRecDepth 100000 in
theorem lifted (os : Os) (started : os.Started) (H : Type) (enc : TypeId × Value → H) :
    ReturnsInHanded {} Try.checked os 5 .any (Rows.floatTwosSpec.pre6 enc Try.prog Try.f5 Rows.floatTwosRow.domain false) (Rows.floatTwosSpec.post enc Try.prog Try.f5 false true false false) := by
  refine returnsInHanded_of_change (C := Try.checked) own started (by kernel_rfl) Try.func5
    (ChangeSpec.witness6 (enc := enc) (C := Try.checked) false ⟨#[], #[.int .u64 0, .int .i16 0], []⟩ 8 (by kernel_rfl) (by kernel_rfl) (by kernel_rfl) (by kernel_rfl)) ?_
  intro W base args ds gs before hval0 hW hcnd _
  have hval : ∀ (j : Nat) t v, Try.f5.params[j]? = some t → args[j]? = some v → Value.okWide Try.prog W .any base t v := hval0
  have hW' := hW
  obtain ⟨p, q, hA0, hV, rfl, hfz, hnd⟩ := hW
  have hA : DataW.TrodAll enc Try.prog W 0 (fun _ => true) true Try.f5.params.toList args.toList ds p := hA0
  rw [Try.params5] at hA hval
  obtain ⟨v0, vs0, d0, ds0, p0, q0, hargs, rfl, rfl, h0, r0⟩ := trodAll_cons hA
  obtain ⟨v1, vs1, d1, ds1, p1, q1, rfl, rfl, rfl, h1, r1⟩ := trodAll_cons r0
  obtain ⟨rfl, rfl, rfl⟩ := trodAll_nil r1
  obtain rfl : args = #[v0, v1] := by cases args; simp_all
  obtain ⟨rfl, rfl⟩ := trodVars_none hV
  obtain ⟨a0, rfl, rfl, rfl, w0⟩ := open_int Try.underlying23 (hval 0 23 v0 rfl rfl) h0
  obtain ⟨a1, rfl, rfl, rfl, w1⟩ := open_int Try.underlying47 (hval 1 47 v1 rfl rfl) h1
  clear hA0 hval0
  simp only [List.append_nil] at hW'
  refine (walk a0 a1 w0 w1 W).mono fun e W' ⟨he, hg⟩ => ?_
  subst he
  exact ⟨_, rfl, post_of_same (pa := []) (pv := []) hW' (fun _ _ _ => (trodAll_cons_mk (shut_bool Try.underlying4 _) trodAll_mk0)) (fun sp _ => (trodAll_cons_mk (shut_int Try.underlying23 w0) (trodAll_cons_mk (shut_int Try.underlying47 w1) trodAll_mk0))) (fun _ _ => rfl) rfl
    (hg.frame _) hg.2.1 (ok_one (by kernel_rfl) rfl (okWide_bool_mk Try.underlying4 _))⟩

theorem over : Rows.floatTwosRow.holds Try.pinned (OpenSpec.ofChange Rows.floatTwosSpec) :=
  OpenClaim.holds_of_wide 5 Try.f5 rfl rfl rfl rfl rfl rfl rfl ⟨rfl, rfl, rfl, rfl, rfl⟩ rfl rfl rfl rfl rfl (by kernel_rfl) Try.func5 (by kernel_rfl)
    (of_decide_eq_true (by kernel_rfl)) (by unfold Func.isWrapper; first | (rw [if_pos (by decide +kernel)]; kernel_rfl) | (rw [if_neg (by decide +kernel)]; exact ⟨rfl, rfl⟩))
    (fun os started H enc _ => lifted os started H enc)

/-- THE STATEMENT -/
theorem proved : Rows.FloatTwosSaid :=
  over
#print axioms proved
end Go.Proofs.Ytcfkhhnkboealaa.floatTwos
