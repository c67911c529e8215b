/- AngleTurns holds: for every input the law returns true and every argument reads as before. No condition. -/
import Derived.Test.YtncmppmkchbejaaRows
import Derived.Test.YtncmppmkchbejaaAng7
import Derived.WalkKit
import Derived.Laws.Cover2
import Derived.ProofKit
import Derived.OpenShut
import Derived.ShutString
namespace Go.Proofs.Ytncmppmkchbejaa.angleTurns
open Go.ChangeShapes Go.WideShapes Go.ChangeAt Go.RowKit
open Go.ChangeMaps (open_string shut_string)
set_option linter.unusedVariables false      -- a walk need not use every 'w<i>' (that an integer argument fits its kind)

theorem own : ownKnob Try.prog.godebug = none := by kernel_rfl

/-! ### STEP 1: THE WALK: the Go text returns true. 'Grown w w'': the world has at most new blocks (Derived/RowKit3.lean). Part the cases AHEAD of 'go_enter' where a test parts the walk; take each callee by a contract of your own. -/
set_option maxHeartbeats 4000000 in
set_option maxRecDepth 100000 in
theorem walk (a0 : Nat) (w0 : (Lit.float .f64 a0).wf = true) (w : World) :
    Calls Try.prog 3 #[.float .f64 a0] w fun e w' => e = .returned (.bool true) ∧ Grown w w' := by
  have hx : Rep a0 (nrm a0) := ⟨of_decide_eq_true w0, rfl⟩
  generalize nrm a0 = f at hx
  clear w0
  go_enter Try.func3, Try.ntmps3
  go_wp2_with (first
    | (go_at_call 6; refine (alive_c _).mono ?_; rintro e w' ⟨rfl, g0⟩)
    | (go_at_call 7; refine (turn_c hx _).mono ?_; rintro e w' ⟨s, d, rfl, hs, hd, g1⟩)
    | (go_at_call 8; refine (refTurn_c hx _).mono ?_; rintro e w' ⟨s2, d2, n, rfl, hs2, hd2, rfl⟩)
    | (go_at_call 9; refine (quarter_c hx _).mono ?_; rintro e w' ⟨y, rfl, hy, g2⟩)
    | (go_at_call 10; refine (refQuarter_c hx _).mono ?_; rintro e w' ⟨y2, n, rfl, hy2, rfl⟩)
    | (go_at_call 11; refine (Pi_c _).mono ?_; rintro e w' ⟨r1, r2, n, rfl, h1, h2, rfl⟩)
    | (go_at_call 13; refine (wrap_c hx _).mono ?_; rintro e w' ⟨z, rfl, hz, g3⟩)
    | (go_at_call 14; refine (refWrap_c hx _).mono ?_; rintro e w' ⟨z2, n, rfl, hz2, rfl⟩)
    | (go_at_call 15; refine (High_c _).mono ?_; rintro e w' ⟨r3, n, rfl, h3, rfl⟩)
    | (go_at_call 16; refine (Low_c _).mono ?_; rintro e w' ⟨r4, n, rfl, h4, rfl⟩)
    | (go_at_call 12; (with_reducible refine (is_c (by with_reducible assumption) (by with_reducible assumption) _).mono ?_); rw [beq_self_eq_true]; rintro e w' ⟨n, rfl, rfl⟩))
  go_ret
  exact ⟨rfl, grown_drewN' _ (grown_trans g0 (grown_trans g1 (grown_trans (grown_trans (grown_drewN _ _) g2) (grown_trans (grown_drewN _ _) g3))))⟩

/-! ### THE ROW's STEP: WRITTEN OUT: LEAVE IT -/
set_option maxRecDepth 100000 in
theorem lifted (os : Os) (started : os.Started) (H : Type) (enc : TypeId × Value → H) :
    ReturnsInHanded {} Try.checked os 3 .any (Rows.angleTurnsSpec.pre6 enc Try.prog Try.f3 Rows.angleTurnsRow.domain false) (Rows.angleTurnsSpec.post enc Try.prog Try.f3 false true false false) := by
  refine returnsInHanded_of_change (C := Try.checked) own started (by kernel_rfl) Try.func3
    (ChangeSpec.witness6 (enc := enc) (C := Try.checked) false ⟨#[], #[.float .f64 0], []⟩ 8 (by kernel_rfl) (by kernel_rfl) (by kernel_rfl) (by kernel_rfl)) ?_
  intro W base args ds gs before hval0 hW hcnd _
  have hval : ∀ (j : Nat) t v, Try.f3.params[j]? = some t → args[j]? = some v → Value.okWide Try.prog W .any base t v := hval0
  have hW' := hW
  obtain ⟨p, q, hA0, hV, rfl, hfz, hnd⟩ := hW
  have hA : DataW.TrodAll enc Try.prog W 0 (fun _ => true) true Try.f3.params.toList args.toList ds p := hA0
  rw [Try.params3] at hA hval
  obtain ⟨v0, vs0, d0, ds0, p0, q0, hargs, rfl, rfl, h0, r0⟩ := trodAll_cons hA
  obtain ⟨rfl, rfl, rfl⟩ := trodAll_nil r0
  obtain rfl : args = #[v0] := by cases args; simp_all
  obtain ⟨rfl, rfl⟩ := trodVars_none hV
  obtain ⟨a0, rfl, rfl, rfl, w0⟩ := open_float Try.underlying22 (hval 0 22 v0 rfl rfl) h0
  clear hA0 hval0
  simp only [List.append_nil] at hW'
  refine (walk a0 w0 W).mono fun e W' ⟨he, hg⟩ => ?_
  subst he
  exact ⟨_, rfl, post_of_same (pa := []) (pv := []) hW' (fun _ _ _ => (trodAll_cons_mk (shut_bool Try.underlying4 _) trodAll_mk0)) (fun sp _ => (trodAll_cons_mk (shut_float Try.underlying22 w0) trodAll_mk0)) (fun _ _ => rfl) rfl
    (hg.frame _) hg.2.1 (ok_one (by kernel_rfl) rfl (okWide_bool_mk Try.underlying4 _))⟩

theorem over : Rows.angleTurnsRow.holds Try.pinned (OpenSpec.ofChange Rows.angleTurnsSpec) :=
  OpenClaim.holds_of_wide 3 Try.f3 rfl rfl rfl rfl rfl rfl rfl ⟨rfl, rfl, rfl, rfl, rfl⟩ rfl rfl rfl rfl rfl (by kernel_rfl) Try.func3 (by kernel_rfl)
    (of_decide_eq_true (by kernel_rfl)) (by unfold Func.isWrapper; first | (rw [if_pos (by decide +kernel)]; kernel_rfl) | (rw [if_neg (by decide +kernel)]; exact ⟨rfl, rfl⟩))
    (fun os started H enc _ => lifted os started H enc)

/-- THE STATEMENT -/
theorem proved : Rows.AngleTurnsSaid :=
  over
#print axioms proved
end Go.Proofs.Ytncmppmkchbejaa.angleTurns
