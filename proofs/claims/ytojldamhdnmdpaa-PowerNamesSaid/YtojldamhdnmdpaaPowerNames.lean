/- PowerNames holds: for every input the law returns true and every argument reads as before. No condition. -/
import Derived.Test.YtojldamhdnmdpaaRows
import Derived.Test.YtojldamhdnmdpaaPNames
import Derived.WalkKit
import Derived.ProofKit
import Derived.OpenShut
import Derived.ShutString
namespace Go.Proofs.Ytojldamhdnmdpaa.powerNames
open Go.ChangeShapes Go.WideShapes Go.ChangeAt Go.RowKit
open Go.ChangeMaps (open_string shut_string)
set_option linter.unusedVariables false      -- a walk need not use every 'w<i>' (that an integer argument fits its kind)

theorem own : ownKnob Try.prog.godebug = none := by kernel_rfl

/-! ### STEP 1: THE WALK: the Go text returns true. 'Grown w w'': the world has at most new blocks (Derived/RowKit3.lean). Part the cases AHEAD of 'go_enter' where a test parts the walk; take each callee by a contract of your own. -/
set_option maxHeartbeats 4000000 in
set_option maxRecDepth 100000 in
theorem walk  (w : World) :
    Calls Try.prog 6 #[] w fun e w' => e = .returned (.bool true) ∧ Grown w w' := by
  have G := Grown.refl w
  have o1 : (FloatKind.f64.format.order 0 0 == some .eq) = true := by decide +kernel
  have o2 : (FloatKind.f64.format.order 9223372036854775808 0 == some .eq) = true := by decide +kernel
  have f1 : ∀ w : World, fres .quo 4614256656552045848 4611686018427387904 w = 4609753056924675352 := fun w => (Rep.quo (Rep.lit7 (f := 4614256656552045848) (by decide) (by decide +kernel)) (Rep.lit7 (f := 4611686018427387904) (by decide) (by decide +kernel))).eq_of (by decide +kernel)
  have f2 : ∀ w : World, fres .mul 4611686018427387904 4614256656552045848 w = 4618760256179416344 := fun w => (Rep.mul (Rep.lit7 (f := 4611686018427387904) (by decide) (by decide +kernel)) (Rep.lit7 (f := 4614256656552045848) (by decide) (by decide +kernel))).eq_of (by decide +kernel)
  go_enter Try.func6, Try.ntmps6
  go_wp2_with (first | (go_at_call 28; (with_reducible refine (Pi_c _).mono ?_); rintro e w' ⟨r1, r2, n, rfl, hr1, hr2, rfl⟩; obtain rfl := hr1.eq_of (by decide +kernel)) | (go_at_call 31; (with_reducible refine (inf_c _ _).mono ?_); rw [if_pos (by decide)]; rintro e w' ⟨r, n, rfl, hr, rfl⟩; obtain rfl : r = 9218868437227405312 := hr.eq_of (by decide +kernel)) | (go_at_call 30; (with_reducible refine (nan_c _).mono ?_); rintro e w' ⟨r, n, rfl, hr, rfl⟩) | (go_at_call 29; (with_reducible refine (copysign_c Rep.c0 Rep.none1 _ (by decide +kernel) (by decide +kernel)).mono ?_); rw [show copyF 0 13830554455654793216 = 9223372036854775808 by decide +kernel]; rintro e w' ⟨r, n, rfl, hr, rfl⟩; obtain rfl : r = 9223372036854775808 := hr.eq_of (by decide +kernel)) | (go_at_call 8; (with_reducible refine (alive7_c _).mono ?_); rintro e w' ⟨rfl, g1⟩; have G := grown_trans G g1) | (go_at_call 14; (with_reducible refine (cexp_c Rep.c0 Rep.c0 _).mono ?_); rw [k0x, k0y]; rintro e w' ⟨r, s, rfl, hr, hs, g1⟩; obtain rfl := hr.eq_of (by decide +kernel); obtain rfl := hs.eq_of (by decide +kernel); have G := grown_trans G g1) | (go_at_call 14; (with_reducible refine (cexp_c Rep.c0 (Rep.lit7 (f := 9223372036854775808) (by decide) (by decide +kernel)) _).mono ?_); rw [k1x, k1y]; rintro e w' ⟨r, s, rfl, hr, hs, g1⟩; obtain rfl := hr.eq_of (by decide +kernel); obtain rfl := hs.eq_of (by decide +kernel); have G := grown_trans G g1) | (go_at_call 14; (with_reducible refine (cexp_c (Rep.lit7 (f := 4650248090236747776) (by decide) (by decide +kernel)) Rep.c0 _).mono ?_); rw [k2x, k2y]; rintro e w' ⟨r, s, rfl, hr, hs, g1⟩; obtain rfl := hr.eq_of (by decide +kernel); obtain rfl := hs.eq_of (by decide +kernel); have G := grown_trans G g1) | (go_at_call 14; (with_reducible refine (cexp_c (Rep.lit7 (f := 18442240474082181120) (by decide) (by decide +kernel)) (Rep.lit7 (f := 4617315517961601024) (by decide) (by decide +kernel)) _).mono ?_); rw [k3x, k3y]; rintro e w' ⟨r, s, rfl, hr, hs, g1⟩; obtain rfl := hr.eq_of (by decide +kernel); obtain rfl := hs.eq_of (by decide +kernel); have G := grown_trans G g1) | (go_at_call 16; (with_reducible refine (clog_c (Rep.lit7 (f := 4607182418800017408) (by decide) (by decide +kernel)) Rep.c0 _).mono ?_); rw [k4x, k4y]; rintro e w' ⟨r, s, n, rfl, hr, hs, rfl⟩; obtain rfl := hr.eq_of (by decide +kernel); obtain rfl := hs.eq_of (by decide +kernel)) | (go_at_call 16; (with_reducible refine (clog_c (Rep.lit7 (f := 13830554455654793216) (by decide) (by decide +kernel)) (Rep.lit7 (f := 9223372036854775808) (by decide) (by decide +kernel)) _).mono ?_); rw [k5x, k5y]; rintro e w' ⟨r, s, n, rfl, hr, hs, rfl⟩; obtain rfl := hr.eq_of (by decide +kernel); obtain rfl := hs.eq_of (by decide +kernel)) | (go_at_call 16; (with_reducible refine (clog_c Rep.c0 Rep.c0 _).mono ?_); rw [k6x, k6y]; rintro e w' ⟨r, s, n, rfl, hr, hs, rfl⟩; obtain rfl := hr.eq_of (by decide +kernel); obtain rfl := hs.eq_of (by decide +kernel)) | (go_at_call 16; (with_reducible refine (clog_c Rep.c0 (Rep.lit7 (f := 4611686018427387904) (by decide) (by decide +kernel)) _).mono ?_); rw [k7x, k7y]; rintro e w' ⟨r, s, n, rfl, hr, hs, rfl⟩; obtain rfl := hr.eq_of (by decide +kernel); obtain rfl := hs.eq_of (by decide +kernel)) | (go_at_call 19; (with_reducible refine (creal_c (by with_reducible assumption : Rep _ nanB) Rep.c0 Rep.c0 _).mono ?_); rw [k8x, k8y]; rintro e w' ⟨r, s, rfl, hr, hs, g1⟩; obtain rfl := hr.eq_of (by decide +kernel); obtain rfl := hs.eq_of (by decide +kernel); have G := grown_trans G g1) | (go_at_call 19; (with_reducible refine (creal_c Rep.c0 Rep.c0 (Rep.lit7 (f := 4611686018427387904) (by decide) (by decide +kernel)) _).mono ?_); rw [k9x, k9y]; rintro e w' ⟨r, s, rfl, hr, hs, g1⟩; obtain rfl := hr.eq_of (by decide +kernel); obtain rfl := hs.eq_of (by decide +kernel); have G := grown_trans G g1) | (go_at_call 34; (with_reducible refine (cpow_c (Rep.lit7 (f := 4611686018427387904) (by decide) (by decide +kernel)) Rep.c0 Rep.c0 Rep.c0 _).mono ?_); rw [k10x, k10y]; rintro e w' ⟨r, s, rfl, hr, hs, g1⟩; obtain rfl := hr.eq_of (by decide +kernel); obtain rfl := hs.eq_of (by decide +kernel); have G := grown_trans G g1) | (go_at_call 24; (with_reducible refine (csin_c Rep.c0 Rep.c0 _).mono ?_); rw [k11x, k11y]; rintro e w' ⟨r, s, rfl, hr, hs, g1⟩; obtain rfl := hr.eq_of (by decide +kernel); obtain rfl := hs.eq_of (by decide +kernel); have G := grown_trans G g1) | (go_at_call 26; (with_reducible refine (ccos_c Rep.c0 Rep.c0 _).mono ?_); rw [k12x, k12y]; rintro e w' ⟨r, s, rfl, hr, hs, g1⟩; obtain rfl := hr.eq_of (by decide +kernel); obtain rfl := hs.eq_of (by decide +kernel); have G := grown_trans G g1) | (go_at_call 25; (with_reducible refine (csinh_c Rep.c0 (Rep.lit7 (f := 9223372036854775808) (by decide) (by decide +kernel)) _).mono ?_); rw [k13x, k13y]; rintro e w' ⟨r, s, rfl, hr, hs, g1⟩; obtain rfl := hr.eq_of (by decide +kernel); obtain rfl := hs.eq_of (by decide +kernel); have G := grown_trans G g1) | (go_at_call 27; (with_reducible refine (ccosh_c Rep.c0 Rep.c0 _).mono ?_); rw [k14x, k14y]; rintro e w' ⟨r, s, rfl, hr, hs, g1⟩; obtain rfl := hr.eq_of (by decide +kernel); obtain rfl := hs.eq_of (by decide +kernel); have G := grown_trans G g1) | (go_at_call 33; (with_reducible refine (log_c (Rep.lit7 (f := 4611686018427387904) (by decide) (by decide +kernel)) _).mono ?_); rw [kL2]; rintro e w' ⟨r, n, rfl, hr, rfl⟩; obtain rfl := hr.eq_of (by decide +kernel)) | (go_at_call 32; (with_reducible refine (is7_c (Rep.lit7 (f := 4607182418800017408) (by decide) (by decide +kernel)) Rep.c0 _ (by decide +kernel) (by decide +kernel)).mono ?_); rintro e w' ⟨n, rfl, rfl⟩) | (go_at_call 32; (with_reducible refine (is7_c (Rep.lit7 (f := 4607182418800017408) (by decide) (by decide +kernel)) (Rep.lit7 (f := 9223372036854775808) (by decide) (by decide +kernel)) _ (by decide +kernel) (by decide +kernel)).mono ?_); rintro e w' ⟨n, rfl, rfl⟩) | (go_at_call 32; (with_reducible refine (is7_c (Rep.lit7 (f := 9218868437227405312) (by decide) (by decide +kernel)) Rep.c0 _ (by decide +kernel) (by decide +kernel)).mono ?_); rintro e w' ⟨n, rfl, rfl⟩) | (go_at_call 32; (with_reducible refine (is7_c Rep.c0 Rep.c0 _ (by decide +kernel) (by decide +kernel)).mono ?_); rintro e w' ⟨n, rfl, rfl⟩) | (go_at_call 32; (with_reducible refine (is7_c Rep.c0 (Rep.lit7 (f := 13837628693406821656) (by decide) (by decide +kernel)) _ (by decide +kernel) (by decide +kernel)).mono ?_); rintro e w' ⟨n, rfl, rfl⟩) | (go_at_call 32; (with_reducible refine (is7_c (Rep.lit7 (f := 18442240474082181120) (by decide) (by decide +kernel)) Rep.c0 _ (by decide +kernel) (by decide +kernel)).mono ?_); rintro e w' ⟨n, rfl, rfl⟩) | (go_at_call 32; (with_reducible refine (is7_c (Rep.lit7 (f := 4604418534313441775) (by decide) (by decide +kernel)) (Rep.lit7 (f := 4609753056924675352) (by decide) (by decide +kernel)) _ (by decide +kernel) (by decide +kernel)).mono ?_); rintro e w' ⟨n, rfl, rfl⟩) | (go_at_call 32; (with_reducible refine (is7_c Rep.c0 (Rep.lit7 (f := 9223372036854775808) (by decide) (by decide +kernel)) _ (by decide +kernel) (by decide +kernel)).mono ?_); rintro e w' ⟨n, rfl, rfl⟩) | (go_at_call 32; (with_reducible refine (is7_c Rep.c0 (Rep.lit7 (f := 4618760256179416344) (by decide) (by decide +kernel)) _ (by decide +kernel) (by decide +kernel)).mono ?_); rintro e w' ⟨n, rfl, rfl⟩) | (go_at_call 35; (with_reducible refine (sheetYes_c (Rep.lit7 (f := 4607182418800017408) (by decide) (by decide +kernel)) Rep.c0 _ _ kS1 (by decide) (by decide)).mono ?_); rw [kS3.1, kS3.2]; rintro e w' ⟨r, s, n, rfl, hr, hs, rfl⟩; obtain rfl := hr.eq_of (by decide +kernel); obtain rfl := hs.eq_of (by decide +kernel)) | (go_at_call 35; (with_reducible refine (sheetNo_c Rep.c0 Rep.c0 _ _ kS2).mono ?_); rintro e w' ⟨r, s, n, rfl, hr, hs, rfl⟩) | (go_at_call 35; (with_reducible refine (sheetFar_c (Rep.lit7 (f := 4607182418800017408) (by decide) (by decide +kernel)) Rep.c0 _ _ kS1 (by decide)).mono ?_); rintro e w' ⟨r, s, n, rfl, hr, hs, rfl⟩))
  go_ret
  exact ⟨rfl, grown_drewN' _ G⟩

/-! ### THE ROW's STEP: WRITTEN OUT: LEAVE IT -/
set_option maxRecDepth 100000 in
theorem lifted (os : Os) (started : os.Started) (H : Type) (enc : TypeId × Value → H) :
    ReturnsInHanded {} Try.checked os 6 .any (Rows.powerNamesSpec.pre6 enc Try.prog Try.f6 Rows.powerNamesRow.domain false) (Rows.powerNamesSpec.post enc Try.prog Try.f6 false true false false) := by
  refine returnsInHanded_of_change (C := Try.checked) own started (by kernel_rfl) Try.func6
    (ChangeSpec.witness6 (enc := enc) (C := Try.checked) false ⟨#[], #[], []⟩ 8 (by kernel_rfl) (by kernel_rfl) (by kernel_rfl) (by kernel_rfl)) ?_
  intro W base args ds gs before hval0 hW hcnd _
  have hval : ∀ (j : Nat) t v, Try.f6.params[j]? = some t → args[j]? = some v → Value.okWide Try.prog W .any base t v := hval0
  have hW' := hW
  obtain ⟨p, q, hA0, hV, rfl, hfz, hnd⟩ := hW
  have hA : DataW.TrodAll enc Try.prog W 0 (fun _ => true) true Try.f6.params.toList args.toList ds p := hA0
  rw [Try.params6] at hA hval
  obtain ⟨rfl, rfl, rfl⟩ := trodAll_none hA
  obtain ⟨rfl, rfl⟩ := trodVars_none hV
  clear hA0 hval0
  simp only [List.append_nil] at hW'
  refine (walk  W).mono fun e W' ⟨he, hg⟩ => ?_
  subst he
  exact ⟨_, rfl, post_of_same (pa := []) (pv := []) hW' (fun _ _ _ => (trodAll_cons_mk (shut_bool Try.underlying4 _) trodAll_mk0)) (fun sp _ => rfl) (fun _ _ => rfl) rfl
    (hg.frame _) hg.2.1 (ok_one (by kernel_rfl) rfl (okWide_bool_mk Try.underlying4 _))⟩

theorem over : Rows.powerNamesRow.holds Try.pinned (OpenSpec.ofChange Rows.powerNamesSpec) :=
  OpenClaim.holds_of_wide 6 Try.f6 rfl rfl rfl rfl rfl rfl rfl ⟨rfl, rfl, rfl, rfl, rfl⟩ rfl rfl rfl rfl rfl (by kernel_rfl) Try.func6 (by kernel_rfl)
    (of_decide_eq_true (by kernel_rfl)) (by unfold Func.isWrapper; first | (rw [if_pos (by decide +kernel)]; kernel_rfl) | (rw [if_neg (by decide +kernel)]; exact ⟨rfl, rfl⟩))
    (fun os started H enc _ => lifted os started H enc)

/-- THE STATEMENT -/
theorem proved : Rows.PowerNamesSaid :=
  over
#print axioms proved
end Go.Proofs.Ytojldamhdnmdpaa.powerNames
