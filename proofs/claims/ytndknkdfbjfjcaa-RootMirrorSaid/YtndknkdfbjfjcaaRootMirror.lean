/- RootMirror holds: for every input the law returns true and every argument reads as before. No condition. -/
import Derived.Test.YtndknkdfbjfjcaaRows
import Derived.Test.YtndknkdfbjfjcaaAwm
import Derived.WalkKit
import Derived.Lib.SmallJoins
import Derived.ProofKit
import Derived.OpenShut
import Derived.ShutString
namespace Go.Proofs.Ytndknkdfbjfjcaa.rootMirror
open Go.ChangeShapes Go.WideShapes Go.ChangeAt Go.RowKit
open Go.ChangeMaps (open_string shut_string)
set_option linter.unusedVariables false      -- a walk need not use every 'w<i>' (that an integer argument fits its kind)

theorem cells40 : Try.prog.cellsOf 40 = 2 := by kernel_rfl
theorem own : ownKnob Try.prog.godebug = none := by kernel_rfl

/-! ### STEP 1: THE WALK: the Go text returns true. 'Grown w w'': the world has at most new blocks (Derived/RowKit3.lean). Part the cases AHEAD of 'go_enter' where a test parts the walk; take each callee by a contract of your own. -/
set_option maxHeartbeats 4000000 in
set_option maxRecDepth 100000 in
theorem walk (a0 b0 : Int) (w0 : (Lit.int .u64 a0).wf = true) (u0 : (Lit.int .u64 b0).wf = true) (w : World) :
    Calls Try.prog 4 #[.agg #[.int .u64 a0, .int .u64 b0]] w fun e w' => e = .returned (.bool true) ∧ Grown w w' := by
  obtain ⟨_, i0⟩ := bounds_u64 w0
  obtain ⟨_, i1⟩ := bounds_u64 u0
  obtain ⟨x, rfl⟩ := Int.eq_ofNat_of_zero_le (bounds_u64 w0).1
  obtain ⟨y, rfl⟩ := Int.eq_ofNat_of_zero_le (bounds_u64 u0).1
  have hx : Rep x (nrm x) := ⟨by omega, rfl⟩
  have hy : Rep y (nrm y) := ⟨by omega, rfl⟩
  clear w0 u0 i0 i1
  generalize nrm x = f at hx
  generalize nrm y = g at hy
  have G := Grown.refl w
  have L1 := Lib.hid (len_negr (f := f) hy.ok)
  have L2 := Lib.hid ((len_negl (g := fneg g) hx.ok).trans (len_negr (f := f) hy.ok))
  have L3 := Lib.hid (len_negl (g := g) hx.ok)
  have L4 := Lib.hid (len_turned hx.ok hy.ok)
  have q1 := hx.none'
  have q2 := hy.none'
  obtain ⟨b, hb⟩ : ∃ b, (isN f || isN g) = b := ⟨_, rfl⟩
  cases b
  · rw [Bool.or_eq_false_iff] at hb
    rw [hb.1] at q1
    rw [hb.2] at q2
    obtain ⟨m1, m2, m3, m4, m5, m6⟩ := root_mirror hx.ok hy.ok hb.1 hb.2
    obtain ⟨b1, b2, b3⟩ := len_bounds hx.ok hy.ok hb.1 hb.2
    have P1 := rung_le' hb.1
    have P2 := rung_le' hb.2
    have NX := Lib.hid hb.1
    have NY := Lib.hid hb.2
    have M1 := Lib.hid m1
    have M2 := Lib.hid m2
    have M3 := Lib.hid m3
    have M4 := Lib.hid m4
    have M5 := Lib.hid m5
    have M6 := Lib.hid m6
    have C1 : capI (rung f) = rung f := capI_of P1
    have C2 : capI (rung g) = rung g := capI_of P2
    have P3 : max (rung f) (rung g) ≤ 9218868437227405312 := by omega
    have B1 : RowKit.Hid (fle (max (capI (rung f)) (capI (rung g))) (lenF f g) = true) := Lib.hid (by rw [C1, C2]; exact (p_fle P3 (show lenF f g ≤ 9218868437227405312 by omega)).trans (decide_eq_true b1))
    have B2 : RowKit.Hid (fle (lenF f g) (fadd (capI (rung f)) (capI (rung g))) = true) := Lib.hid (by rw [C1, C2]; exact (p_fle (show lenF f g ≤ 9218868437227405312 by omega) b3).trans (decide_eq_true b2))
    have F1 : RowKit.Hid (fabs f = capI (rung f)) := Lib.hid (by rw [C1]; exact fabs_of hb.1)
    have F2 : RowKit.Hid (fabs g = capI (rung g)) := Lib.hid (by rw [C2]; exact fabs_of hb.2)
    have N1 := Lib.hid (p_isN (capI_le (rung f)))
    have N2 := Lib.hid (p_isN (capI_le (rung g)))
    have R3 : Rep (max (capI (rung f)) (capI (rung g))) (max (capI (rung f)) (capI (rung g))) := Rep.self (by rw [C1, C2]; omega) (by rw [C1, C2]; exact nrm_of_not (p_isN P3))
    clear C1 C2 P1 P2 P3
    have or_of : ∀ {a b c : Option Ordering}, (a == b || a == c) = true → a = b ∨ a = c := by intro a b c h; simpa using h
    clear m1 m2 m3 m4 m5 m6 b1 b2 b3 hb
    go_enter Try.func4, Try.ntmps4
    go_wp2_with (first | (go_at_call 25; (with_reducible refine (awake_c _).mono ?_); rintro e w' ⟨n, rfl, rfl⟩) | (go_at_call 26; (with_reducible refine (number6_c x y _).mono ?_); rintro e w' ⟨rfl, g1⟩; have G := (by first | exact grown_trans G g1 | exact grown_trans (G.alloc _ _) g1 : Grown w _)) | (go_at_call 29; (with_reducible refine (conj_c hx hy _).mono ?_); rintro e w' ⟨c1, c2, n, rfl, hc1, hc2, rfl⟩) | (go_at_call 30; (with_reducible refine (neg_c hx hy _).mono ?_); rintro e w' ⟨d1, d2, n, rfl, hd1, hd2, rfl⟩) | (go_at_call 31; (with_reducible refine (mirror_c hx hy _).mono ?_); rintro e w' ⟨e1, e2, n, rfl, he1, he2, rfl⟩) | (go_at_call 32; (with_reducible refine (times_c hx hy _).mono ?_); rintro e w' ⟨f1, f2, n, rfl, hf1, hf2, rfl⟩) | (go_at_call 27; (with_reducible refine (length_c hx hy _).mono ?_); rintro e w' ⟨l, n, rfl, hl, rfl⟩) | (go_at_call 27; (with_reducible refine (length_c hc1 hc2 _).mono ?_); rintro e w' ⟨l1, n, rfl, hl1, rfl⟩; rw [L1.out] at hl1) | (go_at_call 27; (with_reducible refine (length_c hd1 hd2 _).mono ?_); rintro e w' ⟨l2, n, rfl, hl2, rfl⟩; rw [L2.out] at hl2) | (go_at_call 27; (with_reducible refine (length_c he1 he2 _).mono ?_); rintro e w' ⟨l3, n, rfl, hl3, rfl⟩; rw [L3.out] at hl3) | (go_at_call 27; (with_reducible refine (length_c hf1 hf2 _).mono ?_); rintro e w' ⟨l4, n, rfl, hl4, rfl⟩; rw [L4.out] at hl4) | (go_at_call 28; (with_reducible refine (like06_c hl (by with_reducible assumption) _).mono ?_); rw [like_self]; rintro e w' ⟨n, rfl, rfl⟩) | (go_at_call 33; (with_reducible refine (root_c hx hy _).mono ?_); rintro e w' ⟨r, s, n, rfl, hr, hs, rfl⟩) | (go_at_call 33; (with_reducible refine (root_c hc1 hc2 _).mono ?_); rintro e w' ⟨u, v, n, rfl, hu, hv, rfl⟩; rw [M1.out] at hu; rw [M2.out] at hv) | (go_at_call 29; (with_reducible refine (conj_c hr hs _).mono ?_); rintro e w' ⟨z1, z2, n, rfl, hz1, hz2, rfl⟩) | (go_at_call 34; (with_reducible refine (same6_c hz1 hz2 hu hv _).mono ?_); rw [beq_self_eq_true, beq_self_eq_true]; rintro e w' ⟨n, rfl, rfl⟩) | (go_at_call 15; (with_reducible refine (signbit_c hr _).mono ?_); rw [hr.sgn_of M3.out, M4.out]; rintro e w' ⟨n, rfl, rfl⟩) | (go_at_call 15; (with_reducible refine (signbit_c hs _).mono ?_); rw [hs.sgn_of M5.out, M6.out]; rintro e w' ⟨n, rfl, rfl⟩) | (go_at_call 15; (with_reducible refine (signbit_c hy _).mono ?_); rw [hy.sgn_of NY.out]; rintro e w' ⟨n, rfl, rfl⟩) | (go_at_call 35; (with_reducible refine (abs_c hx _).mono ?_); rintro e w' ⟨a1, n, rfl, ha1, rfl⟩; rw [F1.out] at ha1; obtain rfl := ha1.eq_of N1.out) | (go_at_call 35; (with_reducible refine (abs_c hy _).mono ?_); rintro e w' ⟨a2, n, rfl, ha2, rfl⟩; rw [F2.out] at ha2; obtain rfl := ha2.eq_of N2.out; have q3 := hl.ge' R3; rw [B1.out] at q3; have q6 := or_of q3; have q5 := fun v => (@Rep.le' l (fres BinOp.add (capI (rung f)) (capI (rung g)) v) _ _ hl (ha1.add ha2)).trans B2.out; have q4 := fun v => or_of (q5 v)))
    all_goals first | (exfalso; rename_i hbad; exact (q4 _).elim hbad.1 hbad.2) | exact absurd (q4 _) h | (exfalso; rename_i hbad; exact hbad (q4 _)) | (exfalso; rename_i hbad; exact hbad q6) | skip
    all_goals go_ret
    all_goals refine ⟨congrArg (fun b => Ending.returned (.bool b)) (?_ : _ = true), by first | exact G | exact gr_drewN _ G⟩
    all_goals first | rfl | (rw [q5]; rfl) | (rw [q5, Bool.true_or])
  · cases h1 : isN f <;> cases h2 : isN g
    · rw [h1, h2] at hb; cases hb
    all_goals
      rw [h1] at q1
      rw [h2] at q2
      clear hb h1 h2
      go_enter Try.func4, Try.ntmps4
      go_wp2_with (first | (go_at_call 25; (with_reducible refine (awake_c _).mono ?_); rintro e w' ⟨n, rfl, rfl⟩) | (go_at_call 26; (with_reducible refine (number6_c x y _).mono ?_); rintro e w' ⟨rfl, g1⟩; have G := (by first | exact grown_trans G g1 | exact grown_trans (G.alloc _ _) g1 : Grown w _)) | (go_at_call 29; (with_reducible refine (conj_c hx hy _).mono ?_); rintro e w' ⟨c1, c2, n, rfl, hc1, hc2, rfl⟩) | (go_at_call 30; (with_reducible refine (neg_c hx hy _).mono ?_); rintro e w' ⟨d1, d2, n, rfl, hd1, hd2, rfl⟩) | (go_at_call 31; (with_reducible refine (mirror_c hx hy _).mono ?_); rintro e w' ⟨e1, e2, n, rfl, he1, he2, rfl⟩) | (go_at_call 32; (with_reducible refine (times_c hx hy _).mono ?_); rintro e w' ⟨f1, f2, n, rfl, hf1, hf2, rfl⟩) | (go_at_call 27; (with_reducible refine (length_c hx hy _).mono ?_); rintro e w' ⟨l, n, rfl, hl, rfl⟩) | (go_at_call 27; (with_reducible refine (length_c hc1 hc2 _).mono ?_); rintro e w' ⟨l1, n, rfl, hl1, rfl⟩; rw [L1.out] at hl1) | (go_at_call 27; (with_reducible refine (length_c hd1 hd2 _).mono ?_); rintro e w' ⟨l2, n, rfl, hl2, rfl⟩; rw [L2.out] at hl2) | (go_at_call 27; (with_reducible refine (length_c he1 he2 _).mono ?_); rintro e w' ⟨l3, n, rfl, hl3, rfl⟩; rw [L3.out] at hl3) | (go_at_call 27; (with_reducible refine (length_c hf1 hf2 _).mono ?_); rintro e w' ⟨l4, n, rfl, hl4, rfl⟩; rw [L4.out] at hl4) | (go_at_call 28; (with_reducible refine (like06_c hl (by with_reducible assumption) _).mono ?_); rw [like_self]; rintro e w' ⟨n, rfl, rfl⟩))
      go_ret
      exact ⟨rfl, by first | exact G | exact gr_drewN _ G⟩

/-! ### THE ROW's STEP: WRITTEN OUT: LEAVE IT -/
set_option maxRecDepth 100000 in
theorem lifted (os : Os) (started : os.Started) (H : Type) (enc : TypeId × Value → H) :
    ReturnsInHanded {} Try.checked os 4 .any (Rows.rootMirrorSpec.pre6 enc Try.prog Try.f4 Rows.rootMirrorRow.domain false) (Rows.rootMirrorSpec.post enc Try.prog Try.f4 false true false false) := by
  refine returnsInHanded_of_change (C := Try.checked) own started (by kernel_rfl) Try.func4
    (ChangeSpec.witness6 (enc := enc) (C := Try.checked) false ⟨#[], #[.agg #[.int .u64 0, .int .u64 0]], []⟩ 8 (by kernel_rfl) (by kernel_rfl) (by kernel_rfl) (by kernel_rfl)) ?_
  intro W base args ds gs before hval0 hW hcnd _
  have hval : ∀ (j : Nat) t v, Try.f4.params[j]? = some t → args[j]? = some v → Value.okWide Try.prog W .any base t v := hval0
  have hW' := hW
  obtain ⟨p, q, hA0, hV, rfl, hfz, hnd⟩ := hW
  have hA : DataW.TrodAll enc Try.prog W 0 (fun _ => true) true Try.f4.params.toList args.toList ds p := hA0
  rw [Try.params4] at hA hval
  obtain ⟨v0, vs0, d0, ds0, p0, q0, hargs, rfl, rfl, h0, r0⟩ := trodAll_cons hA
  obtain ⟨rfl, rfl, rfl⟩ := trodAll_nil r0
  obtain rfl : args = #[v0] := by cases args; simp_all
  obtain ⟨rfl, rfl⟩ := trodVars_none hV
  obtain ⟨_, _, y0a, y0b, _, rfl, rfl, rfl, hy0a, hy0b⟩ := Joins.open_agg2 Try.underlying40 (by kernel_rfl) cells40 (hval 0 40 v0 rfl rfl) h0
  obtain ⟨a0, e0a, rfl, w0⟩ := DataW.trod_int Try.underlying27 hy0a
  obtain ⟨b0, e0b, rfl, u0⟩ := DataW.trod_int Try.underlying27 hy0b
  simp at e0a e0b
  subst e0a e0b
  clear hA0 hval0
  simp only [List.append_nil] at hW'
  refine (walk a0 b0 w0 u0 W).mono fun e W' ⟨he, hg⟩ => ?_
  subst he
  exact ⟨_, rfl, post_of_same (pa := []) (pv := []) hW' (fun _ _ _ => (trodAll_cons_mk (shut_bool Try.underlying4 _) trodAll_mk0)) (fun sp _ => (trodAll_cons_mk (Joins.shut_agg2 (y0 := (.lit (.int .u64 a0), [])) (y1 := (.lit (.int .u64 b0), [])) Try.underlying40 (by kernel_rfl) cells40 ⟨1, by simp [DataW.trod, Try.underlying27, w0]⟩ ⟨1, by simp [DataW.trod, Try.underlying27, u0]⟩) trodAll_mk0)) (fun _ _ => rfl) rfl
    (hg.frame _) hg.2.1 (ok_one (by kernel_rfl) rfl (okWide_bool_mk Try.underlying4 _))⟩

theorem over : Rows.rootMirrorRow.holds Try.pinned (OpenSpec.ofChange Rows.rootMirrorSpec) :=
  OpenClaim.holds_of_wide 4 Try.f4 rfl rfl rfl rfl rfl rfl rfl ⟨rfl, rfl, rfl, rfl, rfl⟩ rfl rfl rfl rfl rfl (by kernel_rfl) Try.func4 (by kernel_rfl)
    (of_decide_eq_true (by kernel_rfl)) (by unfold Func.isWrapper; first | (rw [if_pos (by decide +kernel)]; kernel_rfl) | (rw [if_neg (by decide +kernel)]; exact ⟨rfl, rfl⟩))
    (fun os started H enc _ => lifted os started H enc)

/-- THE STATEMENT -/
theorem proved : Rows.RootMirrorSaid :=
  over
#print axioms proved
end Go.Proofs.Ytndknkdfbjfjcaa.rootMirror
