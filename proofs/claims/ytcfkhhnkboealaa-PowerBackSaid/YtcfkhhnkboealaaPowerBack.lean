/- PowerBack holds: for every input the law returns true and every argument reads as before. No condition. -/
import Derived.Test.YtcfkhhnkboealaaRows
import Derived.Test.YtcfkhhnkboealaaPe
import Derived.WalkKit
import Derived.Lib.SmallJoins
import Derived.ProofKit
import Derived.OpenShut
import Derived.ShutString
namespace Go.Proofs.Ytcfkhhnkboealaa.powerBack
open Go.ChangeShapes Go.WideShapes Go.ChangeAt Go.RowKit
open Go.ChangeMaps (open_string shut_string)
set_option linter.unusedVariables false      -- a walk need not use every 'w<i>' (that an integer argument fits its kind)

theorem cells76 : Try.prog.cellsOf 76 = 2 := by kernel_rfl
theorem own : ownKnob Try.prog.godebug = none := by kernel_rfl

/-! ### STEP 1: THE WALK: the Go text returns true. 'Grown w w'': the world has at most new blocks (Derived/RowKit3.lean). Part the cases AHEAD of 'go_enter' where a test parts the walk; take each callee by a contract of your own. -/
set_option maxHeartbeats 4000000 in
set_option maxRecDepth 100000 in
theorem walk (a0 b0 : Int) (a1 : Int) (w0 : (Lit.int .u64 a0).wf = true) (u0 : (Lit.int .u64 b0).wf = true) (w1 : (Lit.int .u64 a1).wf = true) (w : World) :
    Calls Try.prog 8 #[.agg #[.int .u64 a0, .int .u64 b0], .int .u64 a1] w fun e w' => e = .returned (.bool true) ∧ Grown w w' := by
  obtain ⟨x, rfl⟩ := Int.eq_ofNat_of_zero_le (bounds_u64 w0).1
  obtain ⟨y, rfl⟩ := Int.eq_ofNat_of_zero_le (bounds_u64 u0).1
  obtain ⟨z, rfl⟩ := Int.eq_ofNat_of_zero_le (bounds_u64 w1).1
  obtain ⟨_, i0⟩ := bounds_u64 w0
  obtain ⟨_, i1⟩ := bounds_u64 u0
  obtain ⟨_, i2⟩ := bounds_u64 w1
  have hx : Rep x (nrm x) := ⟨by omega, rfl⟩
  have hy : Rep y (nrm y) := ⟨by omega, rfl⟩
  have hz : Rep z (nrm z) := ⟨by omega, rfl⟩
  clear w0 u0 w1 i0 i1 i2
  generalize nrm x = f at hx
  generalize nrm y = g at hy
  generalize nrm z = h at hz
  have c700 : Rep 4649368480934526976 4649368480934526976 := Rep.self (by decide) (by decide +kernel)
  have c3 : Rep 4613937818241073152 4613937818241073152 := Rep.self (by decide) (by decide +kernel)
  have c46 : Rep 4400016835940974592 4400016835940974592 := Rep.self (by decide) (by decide +kernel)
  have hM : Rep (max 4607182418800017408 (capP (rung f))) (max 4607182418800017408 (capP (rung f))) := by
    have l := capP_le (rung f)
    exact Rep.self (by omega) (nrm_of_not (num_pos (by omega)))
  have K1 := Lib.hid (fun a b => back_first hx.flt hy.flt a b)
  have K2 := Lib.hid (fun a b => back_third (f := f) (g := g) hz.flt a b)
  have NC := Lib.hid (num_pos (capP_le (rung f)))
  obtain ⟨b1, e1⟩ : ∃ b, fle (fabs f) 4649368480934526976 = b := ⟨_, rfl⟩
  obtain ⟨b2, e2⟩ : ∃ b, fle (fabs g) 4613937818241073152 = b := ⟨_, rfl⟩
  obtain ⟨b3, e3⟩ : ∃ b, fle (fabs (fmul (clogX f g) h)) 4649368480934526976 = b := ⟨_, rfl⟩
  obtain ⟨b4, e4⟩ : ∃ b, (fin (crealX f g h) && fin (crealY f g h)) = b := ⟨_, rfl⟩
  obtain ⟨b5, e5⟩ : ∃ b, (fin (crealX f g (fneg h)) && fin (crealY f g (fneg h))) = b := ⟨_, rfl⟩
  have E1 := Lib.hid e1
  have E2 := Lib.hid e2
  have E3 := Lib.hid e3
  have E4 := Lib.hid e4
  have E5 := Lib.hid e5
  clear e1 e2 e3 e4 e5
  have G := Grown.refl w
  rcases (show b1 = false ∨ (b1 = true ∧ b2 = false) ∨ (b1 = true ∧ b2 = true) by cases b1 <;> cases b2 <;> simp) with rfl | ⟨rfl, rfl⟩ | ⟨rfl, rfl⟩
  all_goals
    rcases (show b3 = false ∨ (b3 = true ∧ b4 = false) ∨ (b3 = true ∧ b4 = true ∧ b5 = false) ∨ (b3 = true ∧ b4 = true ∧ b5 = true) by cases b3 <;> cases b4 <;> cases b5 <;> simp) with rfl | ⟨rfl, rfl⟩ | ⟨rfl, rfl, rfl⟩ | ⟨rfl, rfl, rfl⟩
    all_goals
      go_enter Try.func8, Try.ntmps8
      go_wp2_with (first | (go_at_call 55; (with_reducible refine (alive7_c _).mono ?_); rintro e w' ⟨rfl, g1⟩; obtain ⟨z0, z1, z2⟩ := grown_box2 g1; have G := (by first | exact grown_trans G g1 | exact grown_trans (G.alloc _ _) g1 | exact grown_trans ((G.alloc _ _).alloc _ _) g1 : Grown w _)) | (go_at_call 56; (with_reducible refine (number7_c x y _).mono ?_); rintro e w' ⟨rfl, g1⟩; have G := (by first | exact grown_trans G g1 | exact grown_trans (G.alloc _ _) g1 | exact grown_trans ((G.alloc _ _).alloc _ _) g1 : Grown w _)) | (go_at_call 23; (with_reducible refine (abs_c hx _).mono ?_); rintro e w' ⟨r, n, rfl, hr, rfl⟩; have q1 := hr.le' c700; rw [E1.out] at q1; (first | (have e := (K1.out E1.out E2.out).1; rw [e] at hr; obtain rfl : r = capP (rung f) := hr.eq_of NC.out) | skip)) | (go_at_call 23; (with_reducible refine (abs_c hy _).mono ?_); rintro e w' ⟨r, n, rfl, hr, rfl⟩; have q2 := hr.le' c3; rw [E2.out] at q2) | (go_at_call 58; (with_reducible refine (cexp_c hx hy _).mono ?_); rintro e w' ⟨x1, x2, rfl, hx1, hx2, g1⟩; have G := grown_trans G g1) | (go_at_call 57; (with_reducible refine (clog_c hx1 hx2 _).mono ?_); rintro e w' ⟨l1, l2, n, rfl, hl1, hl2, rfl⟩) | (go_at_call 59; (with_reducible refine (closeP_c hl1 hx (c46.mul hM) _).mono ?_); rw [(K1.out E1.out E2.out).2.1]; rintro e w' ⟨n, rfl, rfl⟩) | (go_at_call 59; (with_reducible refine (closeP_c hl2 hy (c46.mul hM) _).mono ?_); rw [(K1.out E1.out E2.out).2.2]; rintro e w' ⟨n, rfl, rfl⟩) | (go_at_call 57; (with_reducible refine (clog_c hx hy _).mono ?_); rintro e w' ⟨m1, m2, n, rfl, hm1, hm2, rfl⟩) | (go_at_call 48; (with_reducible refine (cscale_c hm1 hm2 hz _).mono ?_); rintro e w' ⟨s1, s2, n, rfl, hs1, hs2, rfl⟩) | (go_at_call 60; (with_reducible refine (creal_c hx hy hz _).mono ?_); rintro e w' ⟨a1, a2, rfl, ha1, ha2, g1⟩; have G := grown_trans G g1) | (go_at_call 60; (with_reducible refine (creal_c hx hy hz.neg _).mono ?_); rintro e w' ⟨b1, b2, rfl, hb1, hb2, g1⟩; have G := grown_trans G g1) | (go_at_call 23; (with_reducible refine (abs_c hs1 _).mono ?_); rintro e w' ⟨r, n, rfl, hr, rfl⟩; have q3 := hr.le' c700; rw [E3.out] at q3) | (go_at_call 61; (with_reducible refine (cfinite_c ha1 ha2 _).mono ?_); rw [E4.out]; rintro e w' ⟨n, rfl, rfl⟩) | (go_at_call 61; (with_reducible refine (cfinite_c hb1 hb2 _).mono ?_); rw [E5.out]; rintro e w' ⟨n, rfl, rfl⟩) | (go_at_call 62; (with_reducible refine (cmul_c ha1 ha2 hb1 hb2 _).mono ?_); rintro e w' ⟨p1, p2, n, rfl, hp1, hp2, rfl⟩) | (go_at_call 59; (with_reducible refine (closeP_c hp1 Rep.cone c46 _).mono ?_); rw [(K2.out E3.out E4.out).1]; rintro e w' ⟨n, rfl, rfl⟩) | (go_at_call 59; (with_reducible refine (closeP_c hp2 Rep.c0 c46 _).mono ?_); rw [(K2.out E3.out E4.out).2]; rintro e w' ⟨n, rfl, rfl⟩))
      go_ret
      exact ⟨rfl, by first | exact G | exact gr_drewN _ G⟩

/-! ### THE ROW's STEP: WRITTEN OUT: LEAVE IT -/
set_option maxRecDepth 100000 in
theorem lifted (os : Os) (started : os.Started) (H : Type) (enc : TypeId × Value → H) :
    ReturnsInHanded {} Try.checked os 8 .any (Rows.powerBackSpec.pre6 enc Try.prog Try.f8 Rows.powerBackRow.domain false) (Rows.powerBackSpec.post enc Try.prog Try.f8 false true false false) := by
  refine returnsInHanded_of_change (C := Try.checked) own started (by kernel_rfl) Try.func8
    (ChangeSpec.witness6 (enc := enc) (C := Try.checked) false ⟨#[], #[.agg #[.int .u64 0, .int .u64 0], .int .u64 0], []⟩ 8 (by kernel_rfl) (by kernel_rfl) (by kernel_rfl) (by kernel_rfl)) ?_
  intro W base args ds gs before hval0 hW hcnd _
  have hval : ∀ (j : Nat) t v, Try.f8.params[j]? = some t → args[j]? = some v → Value.okWide Try.prog W .any base t v := hval0
  have hW' := hW
  obtain ⟨p, q, hA0, hV, rfl, hfz, hnd⟩ := hW
  have hA : DataW.TrodAll enc Try.prog W 0 (fun _ => true) true Try.f8.params.toList args.toList ds p := hA0
  rw [Try.params8] at hA hval
  obtain ⟨v0, vs0, d0, ds0, p0, q0, hargs, rfl, rfl, h0, r0⟩ := trodAll_cons hA
  obtain ⟨v1, vs1, d1, ds1, p1, q1, rfl, rfl, rfl, h1, r1⟩ := trodAll_cons r0
  obtain ⟨rfl, rfl, rfl⟩ := trodAll_nil r1
  obtain rfl : args = #[v0, v1] := by cases args; simp_all
  obtain ⟨rfl, rfl⟩ := trodVars_none hV
  obtain ⟨_, _, y0a, y0b, _, rfl, rfl, rfl, hy0a, hy0b⟩ := Joins.open_agg2 Try.underlying76 (by kernel_rfl) cells76 (hval 0 76 v0 rfl rfl) h0
  obtain ⟨a0, e0a, rfl, w0⟩ := DataW.trod_int Try.underlying23 hy0a
  obtain ⟨b0, e0b, rfl, u0⟩ := DataW.trod_int Try.underlying23 hy0b
  simp at e0a e0b
  subst e0a e0b
  obtain ⟨a1, rfl, rfl, rfl, w1⟩ := open_int Try.underlying23 (hval 1 23 v1 rfl rfl) h1
  clear hA0 hval0
  simp only [List.append_nil] at hW'
  refine (walk a0 b0 a1 w0 u0 w1 W).mono fun e W' ⟨he, hg⟩ => ?_
  subst he
  exact ⟨_, rfl, post_of_same (pa := []) (pv := []) hW' (fun _ _ _ => (trodAll_cons_mk (shut_bool Try.underlying4 _) trodAll_mk0)) (fun sp _ => (trodAll_cons_mk (Joins.shut_agg2 (y0 := (.lit (.int .u64 a0), [])) (y1 := (.lit (.int .u64 b0), [])) Try.underlying76 (by kernel_rfl) cells76 ⟨1, by simp [DataW.trod, Try.underlying23, w0]⟩ ⟨1, by simp [DataW.trod, Try.underlying23, u0]⟩) (trodAll_cons_mk (shut_int Try.underlying23 w1) trodAll_mk0))) (fun _ _ => rfl) rfl
    (hg.frame _) hg.2.1 (ok_one (by kernel_rfl) rfl (okWide_bool_mk Try.underlying4 _))⟩

theorem over : Rows.powerBackRow.holds Try.pinned (OpenSpec.ofChange Rows.powerBackSpec) :=
  OpenClaim.holds_of_wide 8 Try.f8 rfl rfl rfl rfl rfl rfl rfl ⟨rfl, rfl, rfl, rfl, rfl⟩ rfl rfl rfl rfl rfl (by kernel_rfl) Try.func8 (by kernel_rfl)
    (of_decide_eq_true (by kernel_rfl)) (by unfold Func.isWrapper; first | (rw [if_pos (by decide +kernel)]; kernel_rfl) | (rw [if_neg (by decide +kernel)]; exact ⟨rfl, rfl⟩))
    (fun os started H enc _ => lifted os started H enc)

/-- THE STATEMENT -/
theorem proved : Rows.PowerBackSaid :=
  over
#print axioms proved
end Go.Proofs.Ytcfkhhnkboealaa.powerBack
