/- AnglePlaces holds: for every input the law returns true and every argument reads as before. No condition. -/
import Derived.Test.YtncmppmkchbejaaRows
import Derived.Test.YtncmppmkchbejaaPlace
import Derived.WalkKit
import Derived.Laws.Cover2
import Derived.ProofKit
import Derived.OpenShut
import Derived.ShutString
namespace Go.Proofs.Ytncmppmkchbejaa.anglePlaces
open Go.ChangeShapes Go.WideShapes Go.ChangeAt Go.RowKit
open Go.ChangeMaps (open_string shut_string)
set_option linter.unusedVariables false      -- a walk need not use every 'w<i>' (that an integer argument fits its kind)

theorem own : ownKnob Try.prog.godebug = none := by kernel_rfl

/-! ### STEP 1: THE WALK: the Go text returns true. 'Grown w w'': the world has at most new blocks (Derived/RowKit3.lean). Part the cases AHEAD of 'go_enter' where a test parts the walk; take each callee by a contract of your own. -/
set_option maxHeartbeats 4000000 in
set_option maxRecDepth 100000 in
theorem walk (a0 : Nat) (a1 : Nat) (w0 : (Lit.float .f64 a0).wf = true) (w1 : (Lit.float .f64 a1).wf = true) (w : World) :
    Calls Try.prog 4 #[.float .f64 a0, .float .f64 a1] w fun e w' => e = .returned (.bool true) ∧ Grown w w' := by
  have hy : Rep a0 (nrm a0) := ⟨of_decide_eq_true w0, rfl⟩
  have hx : Rep a1 (nrm a1) := ⟨of_decide_eq_true w1, rfl⟩
  generalize nrm a0 = g at hy
  generalize nrm a1 = f at hx
  clear w0 w1
  have E1 := Lib.hid (ofR_eq g f)
  have E2 := Lib.hid (ofR_eq f g)
  have E3 := Lib.hid (ofR_eq g 4607182418800017408)
  go_enter Try.func4, Try.ntmps4
  go_wp2_with (first
    | (go_at_call 6; refine (alive_c _).mono ?_; rintro e w' ⟨rfl, g0⟩)
    | (go_at_call 17; (with_reducible refine (of_c hx hy _).mono ?_); rintro e w' ⟨r1, n1, rfl, hr1, rfl⟩)
    | (go_at_call 17; (with_reducible refine (of_c hy hx _).mono ?_); rintro e w' ⟨r2, n2, rfl, hr2, rfl⟩)
    | (go_at_call 18; (with_reducible refine (refOf_c hx hy _).mono ?_); rw [E1.out]; rintro e w' ⟨r3, n3, rfl, hr3, rfl⟩)
    | (go_at_call 18; (with_reducible refine (refOf_c hy hx _).mono ?_); rw [E2.out]; rintro e w' ⟨r4, n4, rfl, hr4, rfl⟩)
    | (go_at_call 19; (with_reducible refine (tan_c hy _).mono ?_); rintro e w' ⟨r5, n5, rfl, hr5, rfl⟩)
    | (go_at_call 20; (with_reducible refine (refTan_c hy _).mono ?_); rw [E3.out]; rintro e w' ⟨r6, n6, rfl, hr6, rfl⟩)
    | (go_at_call 12; (with_reducible refine (is_c (by with_reducible assumption) (by with_reducible assumption) _).mono ?_); rw [beq_self_eq_true]; rintro e w' ⟨n, rfl, rfl⟩))
  go_ret
  exact ⟨rfl, grown_drewN' _ g0⟩

/-! ### THE ROW's STEP: WRITTEN OUT: LEAVE IT -/
set_option maxRecDepth 100000 in
theorem lifted (os : Os) (started : os.Started) (H : Type) (enc : TypeId × Value → H) :
    ReturnsInHanded {} Try.checked os 4 .any (Rows.anglePlacesSpec.pre6 enc Try.prog Try.f4 Rows.anglePlacesRow.domain false) (Rows.anglePlacesSpec.post enc Try.prog Try.f4 false true false false) := by
  refine returnsInHanded_of_change (C := Try.checked) own started (by kernel_rfl) Try.func4
    (ChangeSpec.witness6 (enc := enc) (C := Try.checked) false ⟨#[], #[.float .f64 0, .float .f64 0], []⟩ 8 (by kernel_rfl) (by kernel_rfl) (by kernel_rfl) (by kernel_rfl)) ?_
  intro W base args ds gs before hval0 hW hcnd _
  have hval : ∀ (j : Nat) t v, Try.f4.params[j]? = some t → args[j]? = some v → Value.okWide Try.prog W .any base t v := hval0
  have hW' := hW
  obtain ⟨p, q, hA0, hV, rfl, hfz, hnd⟩ := hW
  have hA : DataW.TrodAll enc Try.prog W 0 (fun _ => true) true Try.f4.params.toList args.toList ds p := hA0
  rw [Try.params4] at hA hval
  obtain ⟨v0, vs0, d0, ds0, p0, q0, hargs, rfl, rfl, h0, r0⟩ := trodAll_cons hA
  obtain ⟨v1, vs1, d1, ds1, p1, q1, rfl, rfl, rfl, h1, r1⟩ := trodAll_cons r0
  obtain ⟨rfl, rfl, rfl⟩ := trodAll_nil r1
  obtain rfl : args = #[v0, v1] := by cases args; simp_all
  obtain ⟨rfl, rfl⟩ := trodVars_none hV
  obtain ⟨a0, rfl, rfl, rfl, w0⟩ := open_float Try.underlying22 (hval 0 22 v0 rfl rfl) h0
  obtain ⟨a1, rfl, rfl, rfl, w1⟩ := open_float Try.underlying22 (hval 1 22 v1 rfl rfl) h1
  clear hA0 hval0
  simp only [List.append_nil] at hW'
  refine (walk a0 a1 w0 w1 W).mono fun e W' ⟨he, hg⟩ => ?_
  subst he
  exact ⟨_, rfl, post_of_same (pa := []) (pv := []) hW' (fun _ _ _ => (trodAll_cons_mk (shut_bool Try.underlying4 _) trodAll_mk0)) (fun sp _ => (trodAll_cons_mk (shut_float Try.underlying22 w0) (trodAll_cons_mk (shut_float Try.underlying22 w1) trodAll_mk0))) (fun _ _ => rfl) rfl
    (hg.frame _) hg.2.1 (ok_one (by kernel_rfl) rfl (okWide_bool_mk Try.underlying4 _))⟩

theorem over : Rows.anglePlacesRow.holds Try.pinned (OpenSpec.ofChange Rows.anglePlacesSpec) :=
  OpenClaim.holds_of_wide 4 Try.f4 rfl rfl rfl rfl rfl rfl rfl ⟨rfl, rfl, rfl, rfl, rfl⟩ rfl rfl rfl rfl rfl (by kernel_rfl) Try.func4 (by kernel_rfl)
    (of_decide_eq_true (by kernel_rfl)) (by unfold Func.isWrapper; first | (rw [if_pos (by decide +kernel)]; kernel_rfl) | (rw [if_neg (by decide +kernel)]; exact ⟨rfl, rfl⟩))
    (fun os started H enc _ => lifted os started H enc)

/-- THE STATEMENT -/
theorem proved : Rows.AnglePlacesSaid :=
  over
#print axioms proved
end Go.Proofs.Ytncmppmkchbejaa.anglePlaces
