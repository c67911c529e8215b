/- AngleMirror holds: for every input the law returns true and every argument reads as before. No condition. -/
import Derived.Test.YtncmppmkchbejaaRows
import Derived.Test.YtncmppmkchbejaaMir2
import Derived.WalkKit
import Derived.Laws.Cover2
import Derived.ProofKit
import Derived.OpenShut
import Derived.ShutString
namespace Go.Proofs.Ytncmppmkchbejaa.angleMirror
open Go.ChangeShapes Go.WideShapes Go.ChangeAt Go.RowKit
open Go.ChangeMaps (open_string shut_string)
set_option linter.unusedVariables false      -- a walk need not use every 'w<i>' (that an integer argument fits its kind)

theorem own : ownKnob Try.prog.godebug = none := by kernel_rfl

/-! ### STEP 1: THE WALK: the Go text returns true. 'Grown w w'': the world has at most new blocks (Derived/RowKit3.lean). Part the cases AHEAD of 'go_enter' where a test parts the walk; take each callee by a contract of your own. -/
set_option maxHeartbeats 4000000 in
set_option maxRecDepth 100000 in
theorem walk (a0 : Nat) (a1 : Nat) (w0 : (Lit.float .f64 a0).wf = true) (w1 : (Lit.float .f64 a1).wf = true) (w : World) :
    Calls Try.prog 5 #[.float .f64 a0, .float .f64 a1] w fun e w' => e = .returned (.bool true) ∧ Grown w w' := by
  have hy : Rep a0 (nrm a0) := ⟨of_decide_eq_true w0, rfl⟩
  have hx : Rep a1 (nrm a1) := ⟨of_decide_eq_true w1, rfl⟩
  generalize nrm a0 = g at hy
  generalize nrm a1 = f at hx
  clear w0 w1
  obtain ⟨T1, T2⟩ := turn_turn hy.flt
  have E1 := Lib.hid T1
  have E2 := Lib.hid T2
  have E3 := Lib.hid (quarterX_turn hy.flt)
  have E4 := Lib.hid (quarterN_turn hy.flt)
  have HL := Lib.hid hy.flt
  clear T1 T2
  have ny := hy.none'
  have nx := hx.none'
  have K : RowKit.Hid (isN g = false → isN f = false → ofF (fneg g) f = fneg (ofF g f) ∧ ofF (fneg g) 4607182418800017408 = fneg (ofF g 4607182418800017408)) := Lib.hid fun a b => ⟨of_turn HL.out a b, of_turn HL.out a (by decide +kernel)⟩
  have H4 := Lib.hid (quarterN_cases g)
  cases hn : isN g <;> cases hm : isN f <;> rcases H4.out with hq | hq | hq | hq
  all_goals
    rw [hn] at ny
    rw [hm] at nx
    have HN := Lib.hid hn
    have HM := Lib.hid hm
    have HQ : RowKit.Hid (quarterN g = _) := Lib.hid hq
    have HQ2 := Lib.hid (E4.out.trans (by rw [HQ.out]))
    clear hn hm hq
    go_enter Try.func5, Try.ntmps5
    go_wp2_with (first
      | (go_at_call 6; refine (alive_c _).mono ?_; rintro e w' ⟨rfl, g0⟩)
      | (go_at_call 7; (with_reducible refine (turn_c hy _).mono ?_); rintro e w' ⟨s, c, rfl, hs, hc, g1⟩)
      | (go_at_call 7; (with_reducible refine (turn_c hy.neg _).mono ?_); rw [E1.out, E2.out]; rintro e w' ⟨t, d, rfl, ht, hd, g2⟩)
      | (go_at_call 9; (with_reducible refine (quarter_c hy _).mono ?_); rw [HQ.out]; rintro e w' ⟨q, rfl, hq1, g3⟩)
      | (go_at_call 9; (with_reducible refine (quarter_c hy.neg _).mono ?_); rw [HQ2.out, E3.out]; rintro e w' ⟨r, rfl, hr1, g4⟩)
      | (go_at_call 17; (with_reducible refine (of_c hx hy.neg _).mono ?_); rw [(K.out HN.out HM.out).1]; rintro e w' ⟨r3, n3, rfl, hr3, rfl⟩)
      | (go_at_call 17; (with_reducible refine (of_c hx hy _).mono ?_); rintro e w' ⟨r2, n2, rfl, hr2, rfl⟩)
      | (go_at_call 19; (with_reducible refine (tan_c hy.neg _).mono ?_); rw [(K.out HN.out HM.out).2]; rintro e w' ⟨r5, n5, rfl, hr5, rfl⟩)
      | (go_at_call 19; (with_reducible refine (tan_c hy _).mono ?_); rintro e w' ⟨r6, n6, rfl, hr6, rfl⟩)
      | (go_at_call 12; (with_reducible refine (is_c (by with_reducible assumption) (by with_reducible first | assumption | exact Rep.neg (by with_reducible assumption)) _).mono ?_); rw [beq_self_eq_true]; rintro e w' ⟨n, rfl, rfl⟩))
    go_ret
    exact ⟨rfl, grown_drewN' _ (grown_trans g0 (grown_trans g1 (grown_trans g2 (grown_trans g3 g4))))⟩

/-! ### THE ROW's STEP: WRITTEN OUT: LEAVE IT -/
set_option maxRecDepth 100000 in
theorem lifted (os : Os) (started : os.Started) (H : Type) (enc : TypeId × Value → H) :
    ReturnsInHanded {} Try.checked os 5 .any (Rows.angleMirrorSpec.pre6 enc Try.prog Try.f5 Rows.angleMirrorRow.domain false) (Rows.angleMirrorSpec.post enc Try.prog Try.f5 false true false false) := by
  refine returnsInHanded_of_change (C := Try.checked) own started (by kernel_rfl) Try.func5
    (ChangeSpec.witness6 (enc := enc) (C := Try.checked) false ⟨#[], #[.float .f64 0, .float .f64 0], []⟩ 8 (by kernel_rfl) (by kernel_rfl) (by kernel_rfl) (by kernel_rfl)) ?_
  intro W base args ds gs before hval0 hW hcnd _
  have hval : ∀ (j : Nat) t v, Try.f5.params[j]? = some t → args[j]? = some v → Value.okWide Try.prog W .any base t v := hval0
  have hW' := hW
  obtain ⟨p, q, hA0, hV, rfl, hfz, hnd⟩ := hW
  have hA : DataW.TrodAll enc Try.prog W 0 (fun _ => true) true Try.f5.params.toList args.toList ds p := hA0
  rw [Try.params5] at hA hval
  obtain ⟨v0, vs0, d0, ds0, p0, q0, hargs, rfl, rfl, h0, r0⟩ := trodAll_cons hA
  obtain ⟨v1, vs1, d1, ds1, p1, q1, rfl, rfl, rfl, h1, r1⟩ := trodAll_cons r0
  obtain ⟨rfl, rfl, rfl⟩ := trodAll_nil r1
  obtain rfl : args = #[v0, v1] := by cases args; simp_all
  obtain ⟨rfl, rfl⟩ := trodVars_none hV
  obtain ⟨a0, rfl, rfl, rfl, w0⟩ := open_float Try.underlying22 (hval 0 22 v0 rfl rfl) h0
  obtain ⟨a1, rfl, rfl, rfl, w1⟩ := open_float Try.underlying22 (hval 1 22 v1 rfl rfl) h1
  clear hA0 hval0
  simp only [List.append_nil] at hW'
  refine (walk a0 a1 w0 w1 W).mono fun e W' ⟨he, hg⟩ => ?_
  subst he
  exact ⟨_, rfl, post_of_same (pa := []) (pv := []) hW' (fun _ _ _ => (trodAll_cons_mk (shut_bool Try.underlying4 _) trodAll_mk0)) (fun sp _ => (trodAll_cons_mk (shut_float Try.underlying22 w0) (trodAll_cons_mk (shut_float Try.underlying22 w1) trodAll_mk0))) (fun _ _ => rfl) rfl
    (hg.frame _) hg.2.1 (ok_one (by kernel_rfl) rfl (okWide_bool_mk Try.underlying4 _))⟩

theorem over : Rows.angleMirrorRow.holds Try.pinned (OpenSpec.ofChange Rows.angleMirrorSpec) :=
  OpenClaim.holds_of_wide 5 Try.f5 rfl rfl rfl rfl rfl rfl rfl ⟨rfl, rfl, rfl, rfl, rfl⟩ rfl rfl rfl rfl rfl (by kernel_rfl) Try.func5 (by kernel_rfl)
    (of_decide_eq_true (by kernel_rfl)) (by unfold Func.isWrapper; first | (rw [if_pos (by decide +kernel)]; kernel_rfl) | (rw [if_neg (by decide +kernel)]; exact ⟨rfl, rfl⟩))
    (fun os started H enc _ => lifted os started H enc)

/-- THE STATEMENT -/
theorem proved : Rows.AngleMirrorSaid :=
  over
#print axioms proved
end Go.Proofs.Ytncmppmkchbejaa.angleMirror
