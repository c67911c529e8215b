/- FloatTurned holds: for every input the law returns true and every argument reads as before. No condition. -/
import Derived.Test.YtpdhmehjlmohcaaRows
import Derived.Test.YtpdhmehjlmohcaaOpp
import Derived.Lib.Hide
import Derived.WalkKit
import Derived.ProofKit
import Derived.OpenShut
namespace Go.Proofs.Ytpdhmehjlmohcaa.floatTurned
open Go.ChangeShapes Go.WideShapes Go.ChangeAt Go.RowKit
set_option linter.unusedVariables false      -- a walk need not use every 'w<i>' (that an integer argument fits its kind)

theorem own : ownKnob Try.prog.godebug = none := by kernel_rfl

/-! ### STEP 1: THE WALK: the Go text returns true. 'Grown w w'': the world has at most new blocks (Derived/RowKit3.lean). Part the cases AHEAD of 'go_enter' where a test parts the walk; take each callee by a contract of your own. -/
set_option maxHeartbeats 4000000 in
set_option maxRecDepth 100000 in
theorem walk (a0 : Int) (a1 : Int) (a2 : Int) (w0 : (Lit.int .u64 a0).wf = true) (w1 : (Lit.int .u64 a1).wf = true) (w2 : (Lit.int .i64 a2).wf = true) (w : World) :
    Calls Try.prog 8 #[.int .u64 a0, .int .u64 a1, .int .i64 a2] w fun e w' => e = .returned (.bool true) ∧ Grown w w' := by
  obtain ⟨b0, b1⟩ := bounds_u64 w0
  obtain ⟨x, rfl⟩ := Int.eq_ofNat_of_zero_le b0
  obtain ⟨c0, c1⟩ := bounds_u64 w1
  obtain ⟨y, rfl⟩ := Int.eq_ofNat_of_zero_le c0
  have hx : Rep x (nrm x) := ⟨by omega, rfl⟩
  have hy : Rep y (nrm y) := ⟨by omega, rfl⟩
  have hlx := hx.flt
  have hly := hy.flt
  have hxn := hx.nrm
  generalize nrm x = f at hx hlx hxn
  generalize nrm y = g at hy hly
  clear w0 w1 b0 b1 c0 c1
  have E1 : (upF (fneg f) == fneg (downF f)) = true := by
    cases hn : isN f
    · rw [up_turn hlx hn]; simp
    · have := hx.nan_of hn; subst this; decide +kernel
  have E2 : ∀ n, (scaleF (fneg f) n == fneg (scaleF f n)) = true := fun n => by rw [scale_turn hlx n hxn]; simp
  have E3 : (wholeF (fneg f) == fneg (wholeF f)) = true := by rw [whole_turn hlx]; simp
  have hop := Lib.hid ((Opp.neg hlx).add (Opp.neg hly))
  have hlo := Lib.hid (lost_turn hlx hly)
  have hln := Lib.hid (lost_notN hlx hly)
  have hff := Lib.hid (feq_self f)
  have s1 := Lib.hid (fadd_lt f g)
  have s2 := Lib.hid (fadd_lt (fneg f) (fneg g))
  have e2 := Lib.hid (E2 (clampN a2))
  have e1 := Lib.hid E1
  have e3 := Lib.hid E3
  have hxn' := Lib.hid hxn
  clear E1 E2 E3 hxn hlx hly
  have hff2 : Rep f f := ⟨hx.flt, hxn'.out⟩
  have k3 := hff2.eq' hx
  rw [feq_self] at k3
  cases hn : isN f
  · obtain rfl := hx.eq_of hn
    rw [hn] at k3
    cases hm : isN (fadd x g)
    · have p1 := Opp.feq s1.out s2.out hop.out hm
      have p2 := Opp.feq (lost_lt _ _) (lost_lt _ _) hlo.out hln.out
      go_enter Try.func8, Try.ntmps8
      go_wp2_with (first
        | (go_at_call 11; refine (same_c (by first | assumption | exact Rep.neg (by assumption)) (by first | assumption | exact Rep.neg (by assumption)) _).mono ?_; (first | rw [e1.out] | rw [e2.out] | rw [e3.out]); rintro e w' ⟨n, rfl, rfl⟩)
        | (go_at_call 29; refine (up_c hx.neg _).mono ?_; rintro e w' ⟨r, n, rfl, hr, rfl⟩)
        | (go_at_call 30; refine (down_c hx _).mono ?_; rintro e w' ⟨r, n, rfl, hr, rfl⟩)
        | (go_at_call 42; refine (scale_c (by first | assumption | exact Rep.neg (by assumption)) _ _).mono ?_; rintro e w' ⟨r, n, rfl, hr, rfl⟩)
        | (go_at_call 48; refine (whole_c (by first | assumption | exact Rep.neg (by assumption)) _).mono ?_; rintro e w' ⟨r, n, rfl, hr, rfl⟩)
        | (go_at_call 25; (with_reducible refine (exact_c hx hy _).mono ?_); rintro e w' ⟨r1, t1, n, rfl, hr1, ht1, rfl⟩)
        | (go_at_call 25; (with_reducible refine (exact_c hx.neg hy.neg _).mono ?_); rintro e w' ⟨r2, t2, n, rfl, hr2, ht2, rfl⟩; have k1 := hr1.eq' hr2.neg; rw [p1] at k1; have k2 := ht1.eq' ht2.neg; rw [p2] at k2)
        | (go_at_call 17; refine (bits_c (by assumption) _).mono ?_; rintro e w' ⟨n, rfl, rfl⟩)
        | (go_at_call 36; refine (signbit_c (by assumption) _).mono ?_; rintro e w' ⟨n, rfl, rfl⟩)
        | (go_at_call 31; refine (alive_c _).mono ?_; rintro e w' ⟨rfl, hg⟩)
        | go_in)
      go_ret
      exact ⟨rfl, grown_drewN' _ hg⟩
    · have p1 : feq (fadd x g) (fneg (fadd (fneg x) (fneg g))) = false := by rw [feq_eq, hm]; rfl
      have hm2 : isN (fadd (fneg x) (fneg g)) = true := hop.out.nan.trans hm
      have p2 := Opp.feq (lost_lt _ _) (lost_lt _ _) hlo.out hln.out
      go_enter Try.func8, Try.ntmps8
      go_wp2_with (first
        | (go_at_call 11; refine (same_c (by first | assumption | exact Rep.neg (by assumption)) (by first | assumption | exact Rep.neg (by assumption)) _).mono ?_; (first | rw [e1.out] | rw [e2.out] | rw [e3.out]); rintro e w' ⟨n, rfl, rfl⟩)
        | (go_at_call 29; refine (up_c hx.neg _).mono ?_; rintro e w' ⟨r, n, rfl, hr, rfl⟩)
        | (go_at_call 30; refine (down_c hx _).mono ?_; rintro e w' ⟨r, n, rfl, hr, rfl⟩)
        | (go_at_call 42; refine (scale_c (by first | assumption | exact Rep.neg (by assumption)) _ _).mono ?_; rintro e w' ⟨r, n, rfl, hr, rfl⟩)
        | (go_at_call 48; refine (whole_c (by first | assumption | exact Rep.neg (by assumption)) _).mono ?_; rintro e w' ⟨r, n, rfl, hr, rfl⟩)
        | (go_at_call 25; (with_reducible refine (exact_c hx hy _).mono ?_); rintro e w' ⟨r1, t1, n, rfl, hr1, ht1, rfl⟩)
        | (go_at_call 25; (with_reducible refine (exact_c hx.neg hy.neg _).mono ?_); rintro e w' ⟨r2, t2, n, rfl, hr2, ht2, rfl⟩; have k1 := hr1.eq' hr2.neg; rw [p1] at k1; have k2 := ht1.eq' ht2.neg; rw [p2] at k2; have k6 := hr1.none'; rw [hm] at k6; have k7 := hr2.none'; rw [hm2] at k7)
        | (go_at_call 17; refine (bits_c (by assumption) _).mono ?_; rintro e w' ⟨n, rfl, rfl⟩)
        | (go_at_call 36; refine (signbit_c (by assumption) _).mono ?_; rintro e w' ⟨n, rfl, rfl⟩)
        | (go_at_call 31; refine (alive_c _).mono ?_; rintro e w' ⟨rfl, hg⟩)
        | go_in)
      go_ret
      exact ⟨rfl, grown_drewN' _ hg⟩
  · have k4 := hff2.none'
    rw [hn] at k4
    have k5 := hx.none'
    rw [hn] at k5
    rw [hn] at k3
    have hm : isN (fadd f g) = true := by rw [fadd_nan (.inl hn)]; exact isN_nanB
    have p1 : feq (fadd f g) (fneg (fadd (fneg f) (fneg g))) = false := by rw [feq_eq, hm]; rfl
    have hm2 : isN (fadd (fneg f) (fneg g)) = true := hop.out.nan.trans hm
    have p2 := Opp.feq (lost_lt _ _) (lost_lt _ _) hlo.out hln.out
    go_enter Try.func8, Try.ntmps8
    go_wp2_with (first
      | (go_at_call 11; refine (same_c (by first | assumption | exact Rep.neg (by assumption)) (by first | assumption | exact Rep.neg (by assumption)) _).mono ?_; (first | rw [e1.out] | rw [e2.out] | rw [e3.out]); rintro e w' ⟨n, rfl, rfl⟩)
      | (go_at_call 29; refine (up_c hx.neg _).mono ?_; rintro e w' ⟨r, n, rfl, hr, rfl⟩)
      | (go_at_call 30; refine (down_c hx _).mono ?_; rintro e w' ⟨r, n, rfl, hr, rfl⟩)
      | (go_at_call 42; refine (scale_c (by first | assumption | exact Rep.neg (by assumption)) _ _).mono ?_; rintro e w' ⟨r, n, rfl, hr, rfl⟩)
      | (go_at_call 48; refine (whole_c (by first | assumption | exact Rep.neg (by assumption)) _).mono ?_; rintro e w' ⟨r, n, rfl, hr, rfl⟩)
      | (go_at_call 25; (with_reducible refine (exact_c hx hy _).mono ?_); rintro e w' ⟨r1, t1, n, rfl, hr1, ht1, rfl⟩)
      | (go_at_call 25; (with_reducible refine (exact_c hx.neg hy.neg _).mono ?_); rintro e w' ⟨r2, t2, n, rfl, hr2, ht2, rfl⟩; have k1 := hr1.eq' hr2.neg; rw [p1] at k1; have k2 := ht1.eq' ht2.neg; rw [p2] at k2; have k6 := hr1.none'; rw [hm] at k6; have k7 := hr2.none'; rw [hm2] at k7)
      | (go_at_call 17; refine (bits_c (by assumption) _).mono ?_; rintro e w' ⟨n, rfl, rfl⟩)
      | (go_at_call 36; refine (signbit_c (by assumption) _).mono ?_; rintro e w' ⟨n, rfl, rfl⟩)
      | (go_at_call 31; refine (alive_c _).mono ?_; rintro e w' ⟨rfl, hg⟩)
      | go_in)
    go_ret
    exact ⟨rfl, hg⟩

/-! ### THE ROW's STEP: WRITTEN OUT: LEAVE IT -/
set_option maxRecDepth 100000 in
theorem lifted (os : Os) (started : os.Started) (H : Type) (enc : TypeId × Value → H) :
    ReturnsInHanded {} Try.checked os 8 .any (Rows.floatTurnedSpec.pre6 enc Try.prog Try.f8 Rows.floatTurnedRow.domain false) (Rows.floatTurnedSpec.post enc Try.prog Try.f8 false true false false) := by
  refine returnsInHanded_of_change (C := Try.checked) own started (by kernel_rfl) Try.func8
    (ChangeSpec.witness6 (enc := enc) (C := Try.checked) false ⟨#[], #[.int .u64 0, .int .u64 0, .int .i64 0], []⟩ 8 (by kernel_rfl) (by kernel_rfl) (by kernel_rfl) (by kernel_rfl)) ?_
  intro W base args ds gs before hval0 hW hcnd _
  have hval : ∀ (j : Nat) t v, Try.f8.params[j]? = some t → args[j]? = some v → Value.okWide Try.prog W .any base t v := hval0
  have hW' := hW
  obtain ⟨p, q, hA0, hV, rfl, hfz, hnd⟩ := hW
  have hA : DataW.TrodAll enc Try.prog W 0 (fun _ => true) true Try.f8.params.toList args.toList ds p := hA0
  rw [Try.params8] at hA hval
  obtain ⟨v0, vs0, d0, ds0, p0, q0, hargs, rfl, rfl, h0, r0⟩ := trodAll_cons hA
  obtain ⟨v1, vs1, d1, ds1, p1, q1, rfl, rfl, rfl, h1, r1⟩ := trodAll_cons r0
  obtain ⟨v2, vs2, d2, ds2, p2, q2, rfl, rfl, rfl, h2, r2⟩ := trodAll_cons r1
  obtain ⟨rfl, rfl, rfl⟩ := trodAll_nil r2
  obtain rfl : args = #[v0, v1, v2] := by cases args; simp_all
  obtain ⟨rfl, rfl⟩ := trodVars_none hV
  obtain ⟨a0, rfl, rfl, rfl, w0⟩ := open_int Try.underlying22 (hval 0 22 v0 rfl rfl) h0
  obtain ⟨a1, rfl, rfl, rfl, w1⟩ := open_int Try.underlying22 (hval 1 22 v1 rfl rfl) h1
  obtain ⟨a2, rfl, rfl, rfl, w2⟩ := open_int Try.underlying3 (hval 2 3 v2 rfl rfl) h2
  clear hA0 hval0
  simp only [List.append_nil] at hW'
  refine (walk a0 a1 a2 w0 w1 w2 W).mono fun e W' ⟨he, hg⟩ => ?_
  subst he
  exact ⟨_, rfl, post_of_same (pa := []) (pv := []) hW' (fun _ _ _ => (trodAll_cons_mk (shut_bool Try.underlying4 _) trodAll_mk0)) (fun sp _ => (trodAll_cons_mk (shut_int Try.underlying22 w0) (trodAll_cons_mk (shut_int Try.underlying22 w1) (trodAll_cons_mk (shut_int Try.underlying3 w2) trodAll_mk0)))) (fun _ _ => rfl) rfl
    (hg.frame _) hg.2.1 (ok_one (by kernel_rfl) rfl (okWide_bool_mk Try.underlying4 _))⟩

theorem over : Rows.floatTurnedRow.holds Try.pinned (OpenSpec.ofChange Rows.floatTurnedSpec) :=
  OpenClaim.holds_of_wide 8 Try.f8 rfl rfl rfl rfl rfl rfl rfl ⟨rfl, rfl, rfl, rfl, rfl⟩ rfl rfl rfl rfl rfl (by kernel_rfl) Try.func8 (by kernel_rfl)
    (of_decide_eq_true (by kernel_rfl)) (by unfold Func.isWrapper; first | (rw [if_pos (by decide +kernel)]; kernel_rfl) | (rw [if_neg (by decide +kernel)]; exact ⟨rfl, rfl⟩))
    (fun os started H enc _ => lifted os started H enc)

/-- THE STATEMENT -/
theorem proved : Rows.FloatTurnedSaid :=
  over
#print axioms proved
end Go.Proofs.Ytpdhmehjlmohcaa.floatTurned
