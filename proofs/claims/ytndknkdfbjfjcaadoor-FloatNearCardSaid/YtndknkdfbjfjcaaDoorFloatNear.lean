/- FloatNear holds: for every input the law returns true and every argument reads as before. No condition. -/
import Derived.Test.YtndknkdfbjfjcaaDoorRows
import Derived.Test.YtndknkdfbjfjcaaDoorLaid
import Derived.Test.YtndknkdfbjfjcaaDoorNeib
import Derived.Test.YtndknkdfbjfjcaaDoorWhole
import Derived.Test.YtndknkdfbjfjcaaDoorCards
import Derived.Test.YtndknkdfbjfjcaaDoorTie
import Derived.SevenTiedAt
import Derived.Test.YtndknkdfbjfjcaaDoorLaid
import Derived.WalkKit
import Derived.ProofKit
import Derived.OpenShut
import Derived.ShutString
namespace Go.Proofs.YtndknkdfbjfjcaaDoor.floatNear
open Go.ChangeShapes Go.WideShapes Go.ChangeAt Go.RowKit
open Go.ChangeMaps (open_string shut_string)
set_option linter.unusedVariables false      -- a walk need not use every 'w<i>' (that an integer argument fits its kind)

theorem own : ownKnob Tryd.prog.godebug = none := by kernel_rfl

/-! ### STEP 1: THE WALK: the Go text returns true. 'Grown w w'': the world has at most new blocks (Derived/RowKit3.lean). Part the cases AHEAD of 'go_enter' where a test parts the walk; take each callee by a contract of your own. -/
set_option maxHeartbeats 4000000 in
set_option maxRecDepth 100000 in
theorem walk (a0 : Int) (a1 : Int) (w0 : (Lit.int .u64 a0).wf = true) (w1 : (Lit.int .i64 a1).wf = true) (w : World) (hT : TabAt w) (htab : 1 < w.heap.size) :
    Calls Tryd.prog 5 #[.int .u64 a0, .int .i64 a1] w fun e w' => e = .returned (.bool true) ∧ Grown w w' := by
  obtain ⟨b0, b1⟩ := bounds_u64 w0
  obtain ⟨x, rfl⟩ := Int.eq_ofNat_of_zero_le b0
  have hx : Rep x (nrm x) := ⟨by omega, rfl⟩
  generalize nrm x = f at hx
  have HT := Lib.hid hT
  clear w0 w1 b0 b1 hT
  go_enter Tryd.func5, Tryd.ntmps5
  go_wp2_with (first | (go_at_call 22; (with_reducible refine (parts_c hx _).mono ?_); rintro e w' ⟨r1, n1, rfl, hr1, rfl⟩) | (go_at_call 23; (with_reducible refine (refParts_c hx _).mono ?_); rintro e w' ⟨r2, n2, rfl, hr2, rfl⟩) | (go_at_call 24; (with_reducible refine (up_c hx _).mono ?_); rintro e w' ⟨r3, n3, rfl, hr3, rfl⟩) | (go_at_call 25; (with_reducible refine (refUp_c hx _).mono ?_); rintro e w' ⟨r4, n4, rfl, hr4, rfl⟩) | (go_at_call 26; (with_reducible refine (down_c hx _).mono ?_); rintro e w' ⟨r5, n5, rfl, hr5, rfl⟩) | (go_at_call 27; (with_reducible refine (refDown_c hx _).mono ?_); rintro e w' ⟨r6, n6, rfl, hr6, rfl⟩) | (go_at_call 28; (with_reducible refine (scale_c hx _ a1).mono ?_); rintro e w' ⟨r7, n7, rfl, hr7, rfl⟩) | (go_at_call 29; (with_reducible refine (refScale_c a1 hx (tab_drew _ HT.out) (sz_drew _ htab)).mono ?_); rintro e w' ⟨r8, rfl, hr8, hg8⟩; have HG8 := Lib.hid hg8; clear hg8) | (go_at_call 30; (with_reducible refine (whole_c hx _).mono ?_); rintro e w' ⟨r9, n9, rfl, hr9, rfl⟩) | (go_at_call 31; (with_reducible refine (refWhole_c hx _).mono ?_); rintro e w' ⟨r10, n10, rfl, hr10, rfl⟩) | (go_at_call 12; (with_reducible refine (refSame_c (by assumption) (by assumption) _).mono ?_); rintro e w' ⟨n, rfl, rfl⟩) | (go_at_call 21; go_in))
  go_ret
  exact ⟨rfl, gr_drewN _ (gr_trans (gr_drewN _ (Grown.refl w)) HG8.out)⟩

/-! ### THE ROW's STEP: WRITTEN OUT: LEAVE IT -/
set_option maxRecDepth 100000 in
theorem lifted (os : Os) (started : os.Started) (H : Type) (enc : TypeId × Value → H) :
    ReturnsInHanded {} Tryd.checked os 5 .any (fun w args => (Rows.floatNearSpec.pre enc Tryd.prog Tryd.f5 [] false w args ∧ laidMetH Tryd.prog tabL w) ∧ sizedMet enc Tryd.prog Tryd.f5 (OpenSpec.ofChange Rows.floatNearSpec) false w args)
      (Rows.floatNearSpec.post enc Tryd.prog Tryd.f5 false true false false) := by
  refine returnsInHanded_of_change_and (C := Tryd.checked) (X := fun w _ => laidMetH Tryd.prog tabL w) (fun _ _ _ hh h => h.of_heap hh) own started (by kernel_rfl) Tryd.func5
    (ChangeSpec.witness_shaped (enc := enc) (C := Tryd.checked) (os := os) (X := fun w _ => laidMetH Tryd.prog tabL w) false (World.doorLaid Tryd.prog 400 os) #[.int .u64 0, .int .i64 0] 8 rfl (World.shaped_of_RefB (by kernel_rfl) (by kernel_rfl)) (by kernel_rfl) (by kernel_rfl) (by kernel_rfl) (door_met os _)) ?_
  intro W base args ds gs before hval0 hW _ _ hL _
  have hval : ∀ (j : Nat) t v, Tryd.f5.params[j]? = some t → args[j]? = some v → Value.okWide Tryd.prog W .any base t v := hval0
  have hW' := hW
  obtain ⟨p, q, hA0, hV, rfl, hfz, hnd⟩ := hW
  have hA : DataW.TrodAll enc Tryd.prog W 0 (fun _ => true) true Tryd.f5.params.toList args.toList ds p := hA0
  rw [Tryd.params5] at hA hval
  obtain ⟨v0, vs0, d0, ds0, p0, q0, hargs, rfl, rfl, h0, r0⟩ := trodAll_cons hA
  obtain ⟨v1, vs1, d1, ds1, p1, q1, rfl, rfl, rfl, h1, r1⟩ := trodAll_cons r0
  obtain ⟨rfl, rfl, rfl⟩ := trodAll_nil r1
  obtain rfl : args = #[v0, v1] := by cases args; simp_all
  obtain ⟨rfl, rfl⟩ := trodVars_none hV
  obtain ⟨a0, rfl, rfl, rfl, w0⟩ := open_int Tryd.underlying26 (hval 0 26 v0 rfl rfl) h0
  obtain ⟨a1, rfl, rfl, rfl, w1⟩ := open_int Tryd.underlying3 (hval 1 3 v1 rfl rfl) h1
  clear hA0 hval0
  simp only [List.append_nil] at hW'
  refine (walk a0 a1 w0 w1 W (tab_of_laid hL).1 (tab_of_laid hL).2).mono fun e W' ⟨he, hg⟩ => ?_
  subst he
  exact ⟨_, rfl, post_of_same (pa := []) (pv := []) hW' (fun _ _ _ => (trodAll_cons_mk (shut_bool Tryd.underlying4 _) trodAll_mk0)) (fun sp _ => (trodAll_cons_mk (shut_int Tryd.underlying26 w0) (trodAll_cons_mk (shut_int Tryd.underlying3 w1) trodAll_mk0))) (fun _ _ => rfl) rfl
    (hg.frame _) hg.2.1 (ok_one (by kernel_rfl) rfl (okWide_bool_mk Tryd.underlying4 _))⟩

theorem over : Rows.floatNearRow.holds Tryd.pinned (OpenSpec.ofChange Rows.floatNearSpec) :=
  OpenClaim.holds_of_wide 5 Tryd.f5 rfl rfl rfl rfl rfl rfl rfl ⟨rfl, rfl, rfl, rfl, rfl⟩ rfl rfl rfl rfl rfl (by kernel_rfl) Tryd.func5 (by kernel_rfl)
    (of_decide_eq_true (by kernel_rfl)) (by unfold Func.isWrapper; first | (rw [if_pos (by decide +kernel)]; kernel_rfl) | (rw [if_neg (by decide +kernel)]; exact ⟨rfl, rfl⟩))
    (fun os started H enc _ => lifted os started H enc)

/-- THE STATEMENT: the tied card. -/
theorem proved : Rows.FloatNearCardSaid :=
  Claim7.holds_tied_plain_at .later [] [.data] true (true, "0f531a19dc00c1f178bedfda43916f2076cd6e6d4dad4d008c76a110f6f4e0f3") false
    over (fun _ h => by cases h) (by kernel_rfl) (fun _ h => by cases h) floatNear_row_tie rfl ⟨rfl, rfl⟩ (by kernel_rfl) rfl
    (fun f fn hf hfn => by
      obtain rfl : f = 5 := Option.some.inj ((show Tryd.prog.funcNamed "eddy/eddylaw01.FloatNear" = some 5 by kernel_rfl).symm.trans hf) |>.symm
      obtain rfl : fn = Tryd.f5 := (Option.some.inj (Tryd.func5.symm.trans hfn)).symm
      exact ⟨by kernel_rfl, fun j t ht => by
        rw [Tryd.params5] at ht
        have hm : t ∈ ([26, 3] : List Nat) := by simpa using Array.mem_of_getElem? ht
        have hall : (([26, 3] : List Nat).all fun u => !Tryd.prog.wantsStandIn u) = true := by kernel_rfl
        exact (show Tryd.prog.wantsStandIn t = false by simpa using List.all_eq_true.1 hall t hm)⟩)
    (by kernel_rfl)
#print axioms proved
end Go.Proofs.YtndknkdfbjfjcaaDoor.floatNear
