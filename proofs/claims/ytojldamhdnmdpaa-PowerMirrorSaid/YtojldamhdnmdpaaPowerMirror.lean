/- PowerMirror holds: for every input the law returns true and every argument reads as before. No condition. -/
import Derived.Test.YtojldamhdnmdpaaRows
import Derived.Test.YtojldamhdnmdpaaNum7
import Derived.WalkKit
import Derived.Lib.SmallJoins
import Derived.ProofKit
import Derived.OpenShut
import Derived.ShutString
namespace Go.Proofs.Ytojldamhdnmdpaa.powerMirror
open Go.ChangeShapes Go.WideShapes Go.ChangeAt Go.RowKit
open Go.ChangeMaps (open_string shut_string)
set_option linter.unusedVariables false      -- a walk need not use every 'w<i>' (that an integer argument fits its kind)

theorem cells24 : Try.prog.cellsOf 24 = 2 := by kernel_rfl
theorem own : ownKnob Try.prog.godebug = none := by kernel_rfl

/-! ### STEP 1: THE WALK: the Go text returns true. 'Grown w w'': the world has at most new blocks (Derived/RowKit3.lean). Part the cases AHEAD of 'go_enter' where a test parts the walk; take each callee by a contract of your own. -/
set_option maxHeartbeats 4000000 in
set_option maxRecDepth 100000 in
theorem walk (a0 b0 : Int) (a1 b1 : Int) (w0 : (Lit.int .u64 a0).wf = true) (u0 : (Lit.int .u64 b0).wf = true) (w1 : (Lit.int .u64 a1).wf = true) (u1 : (Lit.int .u64 b1).wf = true) (w : World) :
    Calls Try.prog 7 #[.agg #[.int .u64 a0, .int .u64 b0], .agg #[.int .u64 a1, .int .u64 b1]] w fun e w' => e = .returned (.bool true) ∧ Grown w w' := by
  obtain ⟨_, i0⟩ := bounds_u64 w0
  obtain ⟨_, i1⟩ := bounds_u64 u0
  obtain ⟨_, i2⟩ := bounds_u64 w1
  obtain ⟨_, i3⟩ := bounds_u64 u1
  obtain ⟨x, rfl⟩ := Int.eq_ofNat_of_zero_le (bounds_u64 w0).1
  obtain ⟨y, rfl⟩ := Int.eq_ofNat_of_zero_le (bounds_u64 u0).1
  obtain ⟨z, rfl⟩ := Int.eq_ofNat_of_zero_le (bounds_u64 w1).1
  obtain ⟨t, rfl⟩ := Int.eq_ofNat_of_zero_le (bounds_u64 u1).1
  have hx : Rep x (nrm x) := ⟨by omega, rfl⟩
  have hy : Rep y (nrm y) := ⟨by omega, rfl⟩
  have hz : Rep z (nrm z) := ⟨by omega, rfl⟩
  have ht : Rep t (nrm t) := ⟨by omega, rfl⟩
  clear w0 u0 w1 u1 i0 i1 i2 i3
  generalize nrm x = f at hx
  generalize nrm y = g at hy
  generalize nrm z = h at hz
  generalize nrm t = k at ht
  have og := hy.ok
  have ok := ht.ok
  have E1 := Lib.hid (cexpX_conj (f := f) og)
  have E2 := Lib.hid (cexpY_conj (f := f) og)
  have L1 := Lib.hid (clogX_conj (f := f) og)
  have L2 := Lib.hid (clogY_conj (f := f) og)
  have R := Lib.hid (creal_conj (f := f) og h)
  have S1 := Lib.hid (cosh_even og)
  have S2 := Lib.hid (sinh_odd og)
  have T1 := Lib.hid (turn_turn og.lt).1
  have T2 := Lib.hid (turn_turn og.lt).2
  have M1 := Lib.hid (fun a => fmul_negr a (sinh_ok g).lt)
  have M2 := Lib.hid (fun a => fmul_negl a (turnS_lt og))
  have P := Lib.hid (cpow_conj (f := f) (h := h) og ok)
  clear og ok
  have q := hz.eq' Rep.c0
  cases h1 : feq h 0
  all_goals
    rw [h1] at q
    have H1 := Lib.hid h1
    clear h1
    go_enter Try.func7, Try.ntmps7
    go_wp2
    go_region_with (first | (go_at_call 9; (with_reducible refine (number7x_c x y _).mono ?_); rintro e w' ⟨n, rfl, rfl⟩) | (go_at_call 9; (with_reducible refine (number7x_c z t _).mono ?_); rintro e w' ⟨n, rfl, rfl⟩))
    all_goals
      go_wp2_with (first | (go_at_call 36; (with_reducible refine (conj_c hx hy _).mono ?_); rintro e w' ⟨c1, c2, n, rfl, hc1, hc2, rfl⟩) | (go_at_call 36; (with_reducible refine (conj_c hz ht _).mono ?_); rintro e w' ⟨d1, d2, n, rfl, hd1, hd2, rfl⟩) | (go_at_call 8; (with_reducible refine (alive7_c _).mono ?_); rintro e w' ⟨rfl, g1⟩; have G := grown_trans G g1) | (go_at_call 14; (with_reducible refine (cexp_c hx hy _).mono ?_); rintro e w' ⟨r, s, rfl, hr, hs, g1⟩; have G := grown_trans G g1) | (go_at_call 14; (with_reducible refine (cexp_c hc1 hc2 _).mono ?_); rw [E1.out, E2.out]; rintro e w' ⟨r, s, rfl, hr, hs, g1⟩; have G := grown_trans (show Grown w _ from by repeat (first | exact Grown.refl _ | apply grown_drewN' | apply Grown.drew | apply Grown.alloc)) g1) | (go_at_call 16; (with_reducible refine (clog_c hx hy _).mono ?_); rintro e w' ⟨r, s, n, rfl, hr, hs, rfl⟩) | (go_at_call 16; (with_reducible refine (clog_c hc1 hc2 _).mono ?_); rw [L1.out, L2.out]; rintro e w' ⟨r, s, n, rfl, hr, hs, rfl⟩) | (go_at_call 19; (with_reducible refine (creal_c hx hy hz _).mono ?_); rintro e w' ⟨r, s, rfl, hr, hs, g1⟩; have G := grown_trans G g1) | (go_at_call 19; (with_reducible refine (creal_c hc1 hc2 hz _).mono ?_); rw [(R.out H1.out).1, (R.out H1.out).2]; rintro e w' ⟨r, s, rfl, hr, hs, g1⟩; have G := grown_trans G g1) | (go_at_call 24; (with_reducible refine (csin_c hx hy _).mono ?_); rintro e w' ⟨r, s, rfl, hr, hs, g1⟩; have G := grown_trans G g1) | (go_at_call 24; (with_reducible refine (csin_c hc1 hc2 _).mono ?_); rw [S1.out, S2.out, M1.out]; rintro e w' ⟨r, s, rfl, hr, hs, g1⟩; have G := grown_trans G g1) | (go_at_call 26; (with_reducible refine (ccos_c hx hy _).mono ?_); rintro e w' ⟨r, s, rfl, hr, hs, g1⟩; have G := grown_trans G g1) | (go_at_call 26; (with_reducible refine (ccos_c hc1 hc2 _).mono ?_); rw [S1.out, S2.out, M1.out]; rintro e w' ⟨r, s, rfl, hr, hs, g1⟩; have G := grown_trans G g1) | (go_at_call 25; (with_reducible refine (csinh_c hx hy _).mono ?_); rintro e w' ⟨r, s, rfl, hr, hs, g1⟩; have G := grown_trans G g1) | (go_at_call 25; (with_reducible refine (csinh_c hc1 hc2 _).mono ?_); rw [T1.out, T2.out, M2.out]; rintro e w' ⟨r, s, rfl, hr, hs, g1⟩; have G := grown_trans G g1) | (go_at_call 27; (with_reducible refine (ccosh_c hx hy _).mono ?_); rintro e w' ⟨r, s, rfl, hr, hs, g1⟩; have G := grown_trans G g1) | (go_at_call 27; (with_reducible refine (ccosh_c hc1 hc2 _).mono ?_); rw [T1.out, T2.out, M2.out]; rintro e w' ⟨r, s, rfl, hr, hs, g1⟩; have G := grown_trans G g1) | (go_at_call 34; (with_reducible refine (cpow_c hx hy hz ht _).mono ?_); rintro e w' ⟨r, s, rfl, hr, hs, g1⟩; have G := grown_trans G g1) | (go_at_call 34; (with_reducible refine (cpow_c hc1 hc2 hd1 hd2 _).mono ?_); rintro e w' ⟨r, s, rfl, hr, hs, g1⟩; have G := grown_trans G g1) | (go_at_call 36; (with_reducible refine (conj_c (by with_reducible assumption) (by with_reducible assumption) _).mono ?_); rintro e w' ⟨r, s, n, rfl, hr, hs, rfl⟩) | (go_at_call 23; (with_reducible refine (same7_c (by with_reducible assumption) (by with_reducible assumption) (by with_reducible assumption) (by with_reducible assumption) _).mono ?_); rw [beq_self_eq_true, beq_self_eq_true, Bool.and_self]; rintro e w' ⟨n, rfl, rfl⟩) | (go_at_call 37; (with_reducible refine (clike_c (by with_reducible assumption) (by with_reducible assumption) (by with_reducible assumption) (by with_reducible assumption) _).mono ?_); rw [P.out.1, P.out.2, Bool.and_self]; rintro e w' ⟨n, rfl, rfl⟩))
      go_ret
      exact ⟨rfl, grown_drewN' _ G⟩

/-! ### THE ROW's STEP: WRITTEN OUT: LEAVE IT -/
set_option maxRecDepth 100000 in
theorem lifted (os : Os) (started : os.Started) (H : Type) (enc : TypeId × Value → H) :
    ReturnsInHanded {} Try.checked os 7 .any (Rows.powerMirrorSpec.pre6 enc Try.prog Try.f7 Rows.powerMirrorRow.domain false) (Rows.powerMirrorSpec.post enc Try.prog Try.f7 false true false false) := by
  refine returnsInHanded_of_change (C := Try.checked) own started (by kernel_rfl) Try.func7
    (ChangeSpec.witness6 (enc := enc) (C := Try.checked) false ⟨#[], #[.agg #[.int .u64 0, .int .u64 0], .agg #[.int .u64 0, .int .u64 0]], []⟩ 8 (by kernel_rfl) (by kernel_rfl) (by kernel_rfl) (by kernel_rfl)) ?_
  intro W base args ds gs before hval0 hW hcnd _
  have hval : ∀ (j : Nat) t v, Try.f7.params[j]? = some t → args[j]? = some v → Value.okWide Try.prog W .any base t v := hval0
  have hW' := hW
  obtain ⟨p, q, hA0, hV, rfl, hfz, hnd⟩ := hW
  have hA : DataW.TrodAll enc Try.prog W 0 (fun _ => true) true Try.f7.params.toList args.toList ds p := hA0
  rw [Try.params7] at hA hval
  obtain ⟨v0, vs0, d0, ds0, p0, q0, hargs, rfl, rfl, h0, r0⟩ := trodAll_cons hA
  obtain ⟨v1, vs1, d1, ds1, p1, q1, rfl, rfl, rfl, h1, r1⟩ := trodAll_cons r0
  obtain ⟨rfl, rfl, rfl⟩ := trodAll_nil r1
  obtain rfl : args = #[v0, v1] := by cases args; simp_all
  obtain ⟨rfl, rfl⟩ := trodVars_none hV
  obtain ⟨_, _, y0a, y0b, _, rfl, rfl, rfl, hy0a, hy0b⟩ := Joins.open_agg2 Try.underlying24 (by kernel_rfl) cells24 (hval 0 24 v0 rfl rfl) h0
  obtain ⟨a0, e0a, rfl, w0⟩ := DataW.trod_int Try.underlying22 hy0a
  obtain ⟨b0, e0b, rfl, u0⟩ := DataW.trod_int Try.underlying22 hy0b
  simp at e0a e0b
  subst e0a e0b
  obtain ⟨_, _, y1a, y1b, _, rfl, rfl, rfl, hy1a, hy1b⟩ := Joins.open_agg2 Try.underlying24 (by kernel_rfl) cells24 (hval 1 24 v1 rfl rfl) h1
  obtain ⟨a1, e1a, rfl, w1⟩ := DataW.trod_int Try.underlying22 hy1a
  obtain ⟨b1, e1b, rfl, u1⟩ := DataW.trod_int Try.underlying22 hy1b
  simp at e1a e1b
  subst e1a e1b
  clear hA0 hval0
  simp only [List.append_nil] at hW'
  refine (walk a0 b0 a1 b1 w0 u0 w1 u1 W).mono fun e W' ⟨he, hg⟩ => ?_
  subst he
  exact ⟨_, rfl, post_of_same (pa := []) (pv := []) hW' (fun _ _ _ => (trodAll_cons_mk (shut_bool Try.underlying4 _) trodAll_mk0)) (fun sp _ => (trodAll_cons_mk (Joins.shut_agg2 (y0 := (.lit (.int .u64 a0), [])) (y1 := (.lit (.int .u64 b0), [])) Try.underlying24 (by kernel_rfl) cells24 ⟨1, by simp [DataW.trod, Try.underlying22, w0]⟩ ⟨1, by simp [DataW.trod, Try.underlying22, u0]⟩) (trodAll_cons_mk (Joins.shut_agg2 (y0 := (.lit (.int .u64 a1), [])) (y1 := (.lit (.int .u64 b1), [])) Try.underlying24 (by kernel_rfl) cells24 ⟨1, by simp [DataW.trod, Try.underlying22, w1]⟩ ⟨1, by simp [DataW.trod, Try.underlying22, u1]⟩) trodAll_mk0))) (fun _ _ => rfl) rfl
    (hg.frame _) hg.2.1 (ok_one (by kernel_rfl) rfl (okWide_bool_mk Try.underlying4 _))⟩

theorem over : Rows.powerMirrorRow.holds Try.pinned (OpenSpec.ofChange Rows.powerMirrorSpec) :=
  OpenClaim.holds_of_wide 7 Try.f7 rfl rfl rfl rfl rfl rfl rfl ⟨rfl, rfl, rfl, rfl, rfl⟩ rfl rfl rfl rfl rfl (by kernel_rfl) Try.func7 (by kernel_rfl)
    (of_decide_eq_true (by kernel_rfl)) (by unfold Func.isWrapper; first | (rw [if_pos (by decide +kernel)]; kernel_rfl) | (rw [if_neg (by decide +kernel)]; exact ⟨rfl, rfl⟩))
    (fun os started H enc _ => lifted os started H enc)

/-- THE STATEMENT -/
theorem proved : Rows.PowerMirrorSaid :=
  over
#print axioms proved
end Go.Proofs.Ytojldamhdnmdpaa.powerMirror
