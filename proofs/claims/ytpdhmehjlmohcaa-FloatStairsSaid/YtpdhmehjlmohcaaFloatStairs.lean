/- FloatStairs holds: for every input the law returns true and every argument reads as before. No condition. -/
import Derived.Test.YtpdhmehjlmohcaaRows
import Derived.Test.YtpdhmehjlmohcaaStairsB
import Derived.Test.YtpdhmehjlmohcaaLawFin
import Derived.Lib.Hide
import Derived.WalkKit
import Derived.ProofKit
import Derived.OpenShut
namespace Go.Proofs.Ytpdhmehjlmohcaa.floatStairs
open Go.ChangeShapes Go.WideShapes Go.ChangeAt Go.RowKit
set_option linter.unusedVariables false      -- a walk need not use every 'w<i>' (that an integer argument fits its kind)

theorem own : ownKnob Try.prog.godebug = none := by kernel_rfl

/-! ### STEP 1: THE WALK: the Go text returns true. 'Grown w w'': the world has at most new blocks (Derived/RowKit3.lean). Part the cases AHEAD of 'go_enter' where a test parts the walk; take each callee by a contract of your own. -/
set_option maxHeartbeats 4000000 in
set_option maxRecDepth 100000 in
theorem walk (a0 : Int) (w0 : (Lit.int .u64 a0).wf = true) (w : World) :
    Calls Try.prog 5 #[.int .u64 a0] w fun e w' => e = .returned (.bool true) ∧ Grown w w' := by
  obtain ⟨b0, b1⟩ := bounds_u64 w0
  obtain ⟨x, rfl⟩ := Int.eq_ofNat_of_zero_le b0
  have hl : x < 18446744073709551616 := by omega
  clear w0 b0 b1
  cases hn : isN x
  · have hx : Rep x x := ⟨hl, nrm_of_not hn⟩
    have U := Lib.hid (up_ok hl hn)
    have hu : Rep (upF x) (upF x) := ⟨U.out.2, nrm_of_not U.out.1⟩
    have q0 := hx.none'
    rw [hn] at q0
    have q1 := hu.lt' hx
    rw [(stairsA hl hn).1] at q1
    have HE := Lib.hid (stairsE hl hn)
    have HB := Lib.hid (stairs_bits hl hn)
    have SA := Lib.hid (stairsA hl hn)
    have SB := Lib.hid (stairsB hl hn)
    rcases stairs_cases hl hn with h | h | h | h | h | h | h
    all_goals
      obtain ⟨e1, e2, e3, e4, e5, e6, e7, e8, e9⟩ := h
      try have HB2 := HB.out e1
      try have HE2 := HE.out e8
      have q3 := hu.eq' hx
      rw [SB.out.1, e1] at q3
      have q5 := hx.ne' Rep.c0
      rw [e3] at q5
      have q6 := hu.ne' Rep.c0
      rw [e4] at q6
      have q7 := hx.abs.le' Rep.c1
      rw [e5] at q7
      have q8 := hu.ne' Rep.c1
      rw [e6] at q8
      have q9 := hu.ne' (Rep.self (f := 2) (by decide) (by decide +kernel))
      rw [e7] at q9
      simp only [Bool.not_true, Bool.not_false] at q5 q6 q8 q9
      try have HB3 := HB2 e3 e4
      try have HE3 := HE2 e9
      try clear HB2
      try clear HE2
      clear e3 e4 e5 e6 e7
      go_enter Try.func5, Try.ntmps5
      go_wp2_with (first
        | (go_at_call 29; refine (up_c hx _).mono ?_; rintro e w' ⟨r, n, rfl, hr, rfl⟩; obtain rfl := hr.eq_of U.out.1)
        | (go_at_call 30; refine (down_c hx _).mono ?_; rintro e w' ⟨r, n, rfl, hr, rfl⟩; have q2 := hr.gt' hx; rw [SA.out.2] at q2; have q4 := hr.eq' hx; rw [SB.out.2, e2] at q4)
        | (go_at_call 30; refine (down_c hu _).mono ?_; rintro e w' ⟨r2, n, rfl, hr2, rfl⟩; have q10 := hr2.eq' hx)
        | (go_at_call 31; refine (alive_c _).mono ?_; rintro e w' ⟨rfl, hg⟩)
        | (go_at_call 32; refine (isInf_c (by assumption) _ _).mono ?_; rintro e w' ⟨n, rfl, rfl⟩)
        | (go_at_call 35; refine (lawFinite_c (by assumption) _).mono ?_; rintro e w' ⟨n, rfl, rfl⟩)
        | go_in)
      go_ret
      exact ⟨rfl, grown_drewN' _ hg⟩
  · have hx : Rep x nanB := ⟨hl, nrm_of hn⟩
    have q0 := hx.none'
    rw [isN_nanB] at q0
    have k1 := Lib.hid (up_nan isN_nanB)
    have k2 := Lib.hid (down_nan isN_nanB)
    clear hl
    go_enter Try.func5, Try.ntmps5
    go_wp2_with (first
      | (go_at_call 29; refine (up_c hx _).mono ?_; rintro e w' ⟨r, n, rfl, hr, rfl⟩; have q1 := hr.none'; rw [k1.out] at q1)
      | (go_at_call 30; refine (down_c hx _).mono ?_; rintro e w' ⟨r2, n, rfl, hr2, rfl⟩; have q2 := hr2.none'; rw [k2.out] at q2)
      | (go_at_call 31; refine (alive_c _).mono ?_; rintro e w' ⟨rfl, hg⟩)
      | go_in)
    go_ret
    exact ⟨rfl, hg⟩

/-! ### THE ROW's STEP: WRITTEN OUT: LEAVE IT -/
set_option maxRecDepth 100000 in
theorem lifted (os : Os) (started : os.Started) (H : Type) (enc : TypeId × Value → H) :
    ReturnsInHanded {} Try.checked os 5 .any (Rows.floatStairsSpec.pre6 enc Try.prog Try.f5 Rows.floatStairsRow.domain false) (Rows.floatStairsSpec.post enc Try.prog Try.f5 false true false false) := by
  refine returnsInHanded_of_change (C := Try.checked) own started (by kernel_rfl) Try.func5
    (ChangeSpec.witness6 (enc := enc) (C := Try.checked) false ⟨#[], #[.int .u64 0], []⟩ 8 (by kernel_rfl) (by kernel_rfl) (by kernel_rfl) (by kernel_rfl)) ?_
  intro W base args ds gs before hval0 hW hcnd _
  have hval : ∀ (j : Nat) t v, Try.f5.params[j]? = some t → args[j]? = some v → Value.okWide Try.prog W .any base t v := hval0
  have hW' := hW
  obtain ⟨p, q, hA0, hV, rfl, hfz, hnd⟩ := hW
  have hA : DataW.TrodAll enc Try.prog W 0 (fun _ => true) true Try.f5.params.toList args.toList ds p := hA0
  rw [Try.params5] at hA hval
  obtain ⟨v0, vs0, d0, ds0, p0, q0, hargs, rfl, rfl, h0, r0⟩ := trodAll_cons hA
  obtain ⟨rfl, rfl, rfl⟩ := trodAll_nil r0
  obtain rfl : args = #[v0] := by cases args; simp_all
  obtain ⟨rfl, rfl⟩ := trodVars_none hV
  obtain ⟨a0, rfl, rfl, rfl, w0⟩ := open_int Try.underlying22 (hval 0 22 v0 rfl rfl) h0
  clear hA0 hval0
  simp only [List.append_nil] at hW'
  refine (walk a0 w0 W).mono fun e W' ⟨he, hg⟩ => ?_
  subst he
  exact ⟨_, rfl, post_of_same (pa := []) (pv := []) hW' (fun _ _ _ => (trodAll_cons_mk (shut_bool Try.underlying4 _) trodAll_mk0)) (fun sp _ => (trodAll_cons_mk (shut_int Try.underlying22 w0) trodAll_mk0)) (fun _ _ => rfl) rfl
    (hg.frame _) hg.2.1 (ok_one (by kernel_rfl) rfl (okWide_bool_mk Try.underlying4 _))⟩

theorem over : Rows.floatStairsRow.holds Try.pinned (OpenSpec.ofChange Rows.floatStairsSpec) :=
  OpenClaim.holds_of_wide 5 Try.f5 rfl rfl rfl rfl rfl rfl rfl ⟨rfl, rfl, rfl, rfl, rfl⟩ rfl rfl rfl rfl rfl (by kernel_rfl) Try.func5 (by kernel_rfl)
    (of_decide_eq_true (by kernel_rfl)) (by unfold Func.isWrapper; first | (rw [if_pos (by decide +kernel)]; kernel_rfl) | (rw [if_neg (by decide +kernel)]; exact ⟨rfl, rfl⟩))
    (fun os started H enc _ => lifted os started H enc)

/-- THE STATEMENT -/
theorem proved : Rows.FloatStairsSaid :=
  over
#print axioms proved
end Go.Proofs.Ytpdhmehjlmohcaa.floatStairs
