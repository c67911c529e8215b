/- ElemTwos holds: for every input the law returns true and every argument reads as before. No condition. -/
import Derived.Test.YtcbjiegheckomaaRows
import Derived.Test.YtcbjiegheckomaaElemA
import Derived.Test.YtcbjiegheckomaaTwos
import Derived.WalkKit
import Derived.ProofKit
import Derived.OpenShut
import Derived.ShutString
namespace Go.Proofs.Ytcbjiegheckomaa.elemTwos
open Go.ChangeShapes Go.WideShapes Go.ChangeAt Go.RowKit
open Go.ChangeMaps (open_string shut_string)
set_option linter.unusedVariables false      -- a walk need not use every 'w<i>' (that an integer argument fits its kind)

theorem own : ownKnob Try.prog.godebug = none := by kernel_rfl

/-! ### STEP 1: THE WALK: the Go text returns true. 'Grown w w'': the world has at most new blocks (Derived/RowKit3.lean). Part the cases AHEAD of 'go_enter' where a test parts the walk; take each callee by a contract of your own. -/
set_option maxHeartbeats 4000000 in
set_option maxRecDepth 100000 in
theorem walk (a0 : Int) (a1 : Int) (w0 : (Lit.int .i16 a0).wf = true) (w1 : (Lit.int .u64 a1).wf = true) (w : World) :
    Calls Try.prog 4 #[.int .i16 a0, .int .u64 a1] w fun e w' => e = .returned (.bool true) ∧ Grown w w' := by
  have c1000 : Rep 4652007308841189376 4652007308841189376 := Rep.self (by decide) (by decide +kernel)
  obtain ⟨b0, b1⟩ := bounds_u64 w1
  obtain ⟨y, rfl⟩ := Int.eq_ofNat_of_zero_le b0
  obtain ⟨c0, c1⟩ := bounds_i16 w0
  have hr : Rep (y / 2) (nrm (y / 2)) := ⟨by omega, rfl⟩
  clear w0 w1
  have k1 : -1074 ≤ a0.tmod 1075 := by have := Int.lt_tmod_of_pos a0 (show (0 : Int) < 1075 by decide); omega
  have k2 : a0.tmod 1075 ≤ 1074 := by have := Int.tmod_lt_of_pos a0 (show (0 : Int) < 1075 by decide); omega
  have HT := Lib.hid (log_two k1 k2)
  have HB := Lib.hid (show ∀ (h0 : 0 < y / 2) (h1 : y / 2 < 9218868437227405312), flt (fabs (logF (nrm (y / 2)))) 4652007308841189376 = true from fun h0 h1 => by
    rw [nrm_of_not (num_pos (Nat.le_of_lt h1))]; exact log_small h0 h1)
  have hf := hr.le' Rep.cmax
  have HF := Lib.hid (show fle (nrm (y / 2)) 9218868437227405311 = true → y / 2 < 9218868437227405312 from fun h => by
    rw [fle_eq] at h
    cases hn : isN (nrm (y / 2))
    · rw [isN_nrm] at hn
      rw [nrm_of_not hn, hn, sval_max, sval_pos (by omega)] at h
      simp at h
      have := mval_le_iff.1 h.2
      omega
    · rw [hn] at h; simp at h)
  cases g1 : feq (scaleF 4607182418800017408 (a0.tmod 1075)) 0 <;> cases g2 : isInf (scaleF 4607182418800017408 (a0.tmod 1075)) 1 <;> cases g3 : fle (nrm (y / 2)) 9218868437227405311 <;> rcases Nat.eq_zero_or_pos (y / 2) with g4 | g4
  all_goals
    have G1 := Lib.hid g1
    have G2 := Lib.hid g2
    have G3 := Lib.hid g3
    have G4 := Lib.hid g4
    clear g1 g2 g3 g4
    rw [G3.out] at hf
    go_enter Try.func4, Try.ntmps4
    go_wp2_with (first | (go_at_call 15; (with_reducible refine (elemAlive_c _).mono ?_); rintro e w' ⟨n, rfl, rfl⟩) | (go_at_call 12; (with_reducible refine (ldexpW_c Rep.cone _ _ (by omega) (by omega)).mono ?_); rintro e w' ⟨v, n, rfl, hv, rfl⟩; have p1 := hv.eq' Rep.c0; rw [G1.out] at p1) | (go_at_call 13; (with_reducible refine (two_c _).mono ?_); rintro e w' ⟨r1, r2, n, rfl, hr1, hr2, rfl⟩) | (go_at_call 6; (with_reducible refine (log_c hr _).mono ?_); rintro e w' ⟨l, n, rfl, hl, rfl⟩) | (go_at_call 6; (with_reducible refine (log_c hv _).mono ?_); rintro e w' ⟨l2, n, rfl, hl2, rfl⟩; have p2 : ∀ w1 w2 w3 : World, (FloatKind.f64.format.order l2 (fres .add (fres .mul (floatOfInt .f64 (a0.tmod 1075)) r1 w1) (fres .mul (floatOfInt .f64 (a0.tmod 1075)) r2 w2) w3) == some .eq) = true := fun w1 w2 w3 => (hl2.eq' (((ofInt_rep (a0.tmod 1075)).mul hr1).add ((ofInt_rep (a0.tmod 1075)).mul hr2))).trans (HT.out G1.out G2.out)) | (go_at_call 16; (with_reducible refine (isInf_c hv _ _).mono ?_); rw [G2.out]; rintro e w' ⟨n, rfl, rfl⟩) | (go_at_call 17; (exfalso; have := G4.out; omega)) | (go_at_call 17; (with_reducible refine (abs_c hl _).mono ?_); rintro e w' ⟨l3, n, rfl, hl3, rfl⟩; have p3 := hl3.lt' c1000; rw [HB.out G4.out (HF.out G3.out)] at p3))
    all_goals go_ret
    all_goals exact ⟨rfl, grown_drewN _ _⟩

/-! ### THE ROW's STEP: WRITTEN OUT: LEAVE IT -/
set_option maxRecDepth 100000 in
theorem lifted (os : Os) (started : os.Started) (H : Type) (enc : TypeId × Value → H) :
    ReturnsInHanded {} Try.checked os 4 .any (Rows.elemTwosSpec.pre6 enc Try.prog Try.f4 Rows.elemTwosRow.domain false) (Rows.elemTwosSpec.post enc Try.prog Try.f4 false true false false) := by
  refine returnsInHanded_of_change (C := Try.checked) own started (by kernel_rfl) Try.func4
    (ChangeSpec.witness6 (enc := enc) (C := Try.checked) false ⟨#[], #[.int .i16 0, .int .u64 0], []⟩ 8 (by kernel_rfl) (by kernel_rfl) (by kernel_rfl) (by kernel_rfl)) ?_
  intro W base args ds gs before hval0 hW hcnd _
  have hval : ∀ (j : Nat) t v, Try.f4.params[j]? = some t → args[j]? = some v → Value.okWide Try.prog W .any base t v := hval0
  have hW' := hW
  obtain ⟨p, q, hA0, hV, rfl, hfz, hnd⟩ := hW
  have hA : DataW.TrodAll enc Try.prog W 0 (fun _ => true) true Try.f4.params.toList args.toList ds p := hA0
  rw [Try.params4] at hA hval
  obtain ⟨v0, vs0, d0, ds0, p0, q0, hargs, rfl, rfl, h0, r0⟩ := trodAll_cons hA
  obtain ⟨v1, vs1, d1, ds1, p1, q1, rfl, rfl, rfl, h1, r1⟩ := trodAll_cons r0
  obtain ⟨rfl, rfl, rfl⟩ := trodAll_nil r1
  obtain rfl : args = #[v0, v1] := by cases args; simp_all
  obtain ⟨rfl, rfl⟩ := trodVars_none hV
  obtain ⟨a0, rfl, rfl, rfl, w0⟩ := open_int Try.underlying29 (hval 0 29 v0 rfl rfl) h0
  obtain ⟨a1, rfl, rfl, rfl, w1⟩ := open_int Try.underlying26 (hval 1 26 v1 rfl rfl) h1
  clear hA0 hval0
  simp only [List.append_nil] at hW'
  refine (walk a0 a1 w0 w1 W).mono fun e W' ⟨he, hg⟩ => ?_
  subst he
  exact ⟨_, rfl, post_of_same (pa := []) (pv := []) hW' (fun _ _ _ => (trodAll_cons_mk (shut_bool Try.underlying4 _) trodAll_mk0)) (fun sp _ => (trodAll_cons_mk (shut_int Try.underlying29 w0) (trodAll_cons_mk (shut_int Try.underlying26 w1) trodAll_mk0))) (fun _ _ => rfl) rfl
    (hg.frame _) hg.2.1 (ok_one (by kernel_rfl) rfl (okWide_bool_mk Try.underlying4 _))⟩

theorem over : Rows.elemTwosRow.holds Try.pinned (OpenSpec.ofChange Rows.elemTwosSpec) :=
  OpenClaim.holds_of_wide 4 Try.f4 rfl rfl rfl rfl rfl rfl rfl ⟨rfl, rfl, rfl, rfl, rfl⟩ rfl rfl rfl rfl rfl (by kernel_rfl) Try.func4 (by kernel_rfl)
    (of_decide_eq_true (by kernel_rfl)) (by unfold Func.isWrapper; first | (rw [if_pos (by decide +kernel)]; kernel_rfl) | (rw [if_neg (by decide +kernel)]; exact ⟨rfl, rfl⟩))
    (fun os started H enc _ => lifted os started H enc)

/-- THE STATEMENT -/
theorem proved : Rows.ElemTwosSaid :=
  over
#print axioms proved
end Go.Proofs.Ytcbjiegheckomaa.elemTwos
