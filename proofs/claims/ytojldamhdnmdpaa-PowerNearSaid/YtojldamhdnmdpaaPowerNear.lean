/- PowerNear holds: for every input the law returns true and every argument reads as before. No condition. -/
import Derived.Test.YtojldamhdnmdpaaRows
import Derived.Test.YtojldamhdnmdpaaNear
import Derived.Test.YtojldamhdnmdpaaGrow
import Derived.WalkKit
import Derived.Lib.SmallJoins
import Derived.ProofKit
import Derived.OpenShut
import Derived.ShutString
namespace Go.Proofs.Ytojldamhdnmdpaa.powerNear
open Go.ChangeShapes Go.WideShapes Go.ChangeAt Go.RowKit
open Go.ChangeMaps (open_string shut_string)
set_option linter.unusedVariables false      -- a walk need not use every 'w<i>' (that an integer argument fits its kind)

theorem cells24 : Try.prog.cellsOf 24 = 2 := by kernel_rfl
theorem own : ownKnob Try.prog.godebug = none := by kernel_rfl

/-! ### STEP 1: THE WALK: the Go text returns true. 'Grown w w'': the world has at most new blocks (Derived/RowKit3.lean). Part the cases AHEAD of 'go_enter' where a test parts the walk; take each callee by a contract of your own. -/
set_option maxHeartbeats 4000000 in
set_option maxRecDepth 100000 in
theorem walk (a0 b0 : Int) (w0 : (Lit.int .u64 a0).wf = true) (u0 : (Lit.int .u64 b0).wf = true) (w : World) :
    Calls Try.prog 3 #[.agg #[.int .u64 a0, .int .u64 b0]] w fun e w' => e = .returned (.bool true) ∧ Grown w w' := by
  have ca : Rep 103582791429521408 103582791429521408 := Rep.self (by decide) (by decide +kernel)
  have cb : Rep 4372995238176751616 4372995238176751616 := Rep.self (by decide) (by decide +kernel)
  obtain ⟨_, i0⟩ := bounds_u64 w0
  obtain ⟨_, i1⟩ := bounds_u64 u0
  obtain ⟨x, rfl⟩ := Int.eq_ofNat_of_zero_le (bounds_u64 w0).1
  obtain ⟨y, rfl⟩ := Int.eq_ofNat_of_zero_le (bounds_u64 u0).1
  have hx : Rep x (nrm x) := ⟨by omega, rfl⟩
  have hy : Rep y (nrm y) := ⟨by omega, rfl⟩
  clear w0 u0 i0 i1
  generalize nrm x = f at hx
  generalize nrm y = g at hy
  have og := Lib.hid hy.ok
  have K := Lib.hid (fun a b c => near_ok (E := expF f) (f := f) (g := g) rfl hy.ok a b c)
  cases h1 : fit g <;> cases h2 : fle 103582791429521408 (expF f) <;> cases h3 : isInf (expF f) 1
  all_goals
    have H1 := Lib.hid h1
    have H2 := Lib.hid h2
    have H3 := Lib.hid h3
    clear h1 h2 h3
    go_enter Try.func3, Try.ntmps3
    go_wp2_with (first | (go_at_call 9; (with_reducible refine (number7x_c x y _).mono ?_); rintro e w' ⟨n, rfl, rfl⟩; have G := grown_drewN' n (G.alloc #[.int .u64 (x : Int), .int .u64 (y : Int)] 24)) | (go_at_call 8; (with_reducible refine (alive7_c _).mono ?_); rintro e w' ⟨rfl, g1⟩; obtain ⟨z0, z1, z2⟩ := grown_box2 g1; have G := grown_trans (show Grown w _ from by repeat (first | exact Grown.refl _ | apply grown_drewN' | apply Grown.drew | apply Grown.alloc)) g1) | (go_at_call 10; (with_reducible refine (exp_c hx _).mono ?_); rintro e w' ⟨r, n, rfl, hr, rfl⟩; have q2 := hr.ge' ca; rw [H2.out] at q2) | (go_at_call 11; (with_reducible refine (abs_c hy _).mono ?_); rintro e w' ⟨r2, n, rfl, hr2, rfl⟩; have q1 := (hr2.le' Rep.c20).trans (show fle (fabs g) 4697254411347427328 = fit g from rfl); rw [H1.out] at q1) | (go_at_call 12; (with_reducible refine (isInf_c hr _ _).mono ?_); rw [H3.out]; rintro e w' ⟨n, rfl, rfl⟩) | (go_at_call 13; (with_reducible refine (turn_c hy _).mono ?_); rintro e w' ⟨s, c, rfl, hs, hc, g1⟩; have G := grown_trans G g1) | (go_at_call 14; (with_reducible refine (cexp_c hx hy _).mono ?_); rintro e w' ⟨b1, b2, rfl, hb1, hb2, g1⟩; have G := grown_trans G g1) | (go_at_call 15; (with_reducible refine (close_c hb1 (hr.mul hc) (hr.mul cb) _).mono ?_); rw [(K.out H1.out H2.out H3.out).1]; rintro e w' ⟨n, rfl, rfl⟩) | (go_at_call 15; (with_reducible refine (close_c hb2 (hr.mul hs) (hr.mul cb) _).mono ?_); rw [(K.out H1.out H2.out H3.out).2]; rintro e w' ⟨n, rfl, rfl⟩))
    all_goals go_ret
    all_goals exact ⟨rfl, grown_drewN' _ G⟩

/-! ### THE ROW's STEP: WRITTEN OUT: LEAVE IT -/
set_option maxRecDepth 100000 in
theorem lifted (os : Os) (started : os.Started) (H : Type) (enc : TypeId × Value → H) :
    ReturnsInHanded {} Try.checked os 3 .any (Rows.powerNearSpec.pre6 enc Try.prog Try.f3 Rows.powerNearRow.domain false) (Rows.powerNearSpec.post enc Try.prog Try.f3 false true false false) := by
  refine returnsInHanded_of_change (C := Try.checked) own started (by kernel_rfl) Try.func3
    (ChangeSpec.witness6 (enc := enc) (C := Try.checked) false ⟨#[], #[.agg #[.int .u64 0, .int .u64 0]], []⟩ 8 (by kernel_rfl) (by kernel_rfl) (by kernel_rfl) (by kernel_rfl)) ?_
  intro W base args ds gs before hval0 hW hcnd _
  have hval : ∀ (j : Nat) t v, Try.f3.params[j]? = some t → args[j]? = some v → Value.okWide Try.prog W .any base t v := hval0
  have hW' := hW
  obtain ⟨p, q, hA0, hV, rfl, hfz, hnd⟩ := hW
  have hA : DataW.TrodAll enc Try.prog W 0 (fun _ => true) true Try.f3.params.toList args.toList ds p := hA0
  rw [Try.params3] at hA hval
  obtain ⟨v0, vs0, d0, ds0, p0, q0, hargs, rfl, rfl, h0, r0⟩ := trodAll_cons hA
  obtain ⟨rfl, rfl, rfl⟩ := trodAll_nil r0
  obtain rfl : args = #[v0] := by cases args; simp_all
  obtain ⟨rfl, rfl⟩ := trodVars_none hV
  obtain ⟨_, _, y0a, y0b, _, rfl, rfl, rfl, hy0a, hy0b⟩ := Joins.open_agg2 Try.underlying24 (by kernel_rfl) cells24 (hval 0 24 v0 rfl rfl) h0
  obtain ⟨a0, e0a, rfl, w0⟩ := DataW.trod_int Try.underlying22 hy0a
  obtain ⟨b0, e0b, rfl, u0⟩ := DataW.trod_int Try.underlying22 hy0b
  simp at e0a e0b
  subst e0a e0b
  clear hA0 hval0
  simp only [List.append_nil] at hW'
  refine (walk a0 b0 w0 u0 W).mono fun e W' ⟨he, hg⟩ => ?_
  subst he
  exact ⟨_, rfl, post_of_same (pa := []) (pv := []) hW' (fun _ _ _ => (trodAll_cons_mk (shut_bool Try.underlying4 _) trodAll_mk0)) (fun sp _ => (trodAll_cons_mk (Joins.shut_agg2 (y0 := (.lit (.int .u64 a0), [])) (y1 := (.lit (.int .u64 b0), [])) Try.underlying24 (by kernel_rfl) cells24 ⟨1, by simp [DataW.trod, Try.underlying22, w0]⟩ ⟨1, by simp [DataW.trod, Try.underlying22, u0]⟩) trodAll_mk0)) (fun _ _ => rfl) rfl
    (hg.frame _) hg.2.1 (ok_one (by kernel_rfl) rfl (okWide_bool_mk Try.underlying4 _))⟩

theorem over : Rows.powerNearRow.holds Try.pinned (OpenSpec.ofChange Rows.powerNearSpec) :=
  OpenClaim.holds_of_wide 3 Try.f3 rfl rfl rfl rfl rfl rfl rfl ⟨rfl, rfl, rfl, rfl, rfl⟩ rfl rfl rfl rfl rfl (by kernel_rfl) Try.func3 (by kernel_rfl)
    (of_decide_eq_true (by kernel_rfl)) (by unfold Func.isWrapper; first | (rw [if_pos (by decide +kernel)]; kernel_rfl) | (rw [if_neg (by decide +kernel)]; exact ⟨rfl, rfl⟩))
    (fun os started H enc _ => lifted os started H enc)

/-- THE STATEMENT -/
theorem proved : Rows.PowerNearSaid :=
  over
#print axioms proved
end Go.Proofs.Ytojldamhdnmdpaa.powerNear
