/- RootScaled holds: for every input the law returns true and every argument reads as before. No condition. -/
import Derived.Test.YtcfkhhnkboealaaRows
import Derived.Test.YtcfkhhnkboealaaSh
import Derived.WalkKit
import Derived.Lib.SmallJoins
import Derived.ProofKit
import Derived.OpenShut
import Derived.ShutString
namespace Go.Proofs.Ytcfkhhnkboealaa.rootScaled
open Go.ChangeShapes Go.WideShapes Go.ChangeAt Go.RowKit
open Go.ChangeMaps (open_string shut_string)
set_option linter.unusedVariables false      -- a walk need not use every 'w<i>' (that an integer argument fits its kind)

theorem cells59 : Try.prog.cellsOf 59 = 2 := by kernel_rfl
theorem own : ownKnob Try.prog.godebug = none := by kernel_rfl

/-! ### STEP 1: THE WALK: the Go text returns true. 'Grown w w'': the world has at most new blocks (Derived/RowKit3.lean). Part the cases AHEAD of 'go_enter' where a test parts the walk; take each callee by a contract of your own. -/
set_option maxHeartbeats 4000000 in
set_option maxRecDepth 100000 in
theorem walk (a0 b0 : Int) (a1 : Int) (w0 : (Lit.int .u64 a0).wf = true) (u0 : (Lit.int .u64 b0).wf = true) (w1 : (Lit.int .i64 a1).wf = true) (w : World) :
    Calls Try.prog 7 #[.agg #[.int .u64 a0, .int .u64 b0], .int .i64 a1] w fun e w' => e = .returned (.bool true) ∧ Grown w w' := by
  obtain ⟨_, i0⟩ := bounds_u64 w0
  obtain ⟨_, i1⟩ := bounds_u64 u0
  obtain ⟨x, rfl⟩ := Int.eq_ofNat_of_zero_le (bounds_u64 w0).1
  obtain ⟨y, rfl⟩ := Int.eq_ofNat_of_zero_le (bounds_u64 u0).1
  have hx : Rep x (nrm x) := ⟨by omega, rfl⟩
  have hy : Rep y (nrm y) := ⟨by omega, rfl⟩
  clear w0 u0 i0 i1
  generalize nrm x = f at hx
  generalize nrm y = g at hy
  have r1 : Rep 4607182418800017408 4607182418800017408 := Rep.cone
  have ca : Rep 4607182418800017376 4607182418800017376 := Rep.lit6 (by decide) (by decide +kernel)
  have cb : Rep 4607182418800017424 4607182418800017424 := Rep.lit6 (by decide) (by decide +kernel)
  have cc : Rep 4409024035195715584 4409024035195715584 := Rep.lit6 (by decide) (by decide +kernel)
  have cd : Rep 13837647625067901747 13837647625067901747 := Rep.lit6 (by decide) (by decide +kernel)
  have ce : Rep 4614275588213125939 4614275588213125939 := Rep.lit6 (by decide) (by decide +kernel)
  cases h1 : mildF f
  · have H1 := Lib.hid h1
    clear h1
    go_enter Try.func7, Try.ntmps7
    go_wp2_with (first | (go_at_call 34; (with_reducible refine (awake_c _).mono ?_); rintro e w' ⟨n, rfl, rfl⟩) | (go_at_call 35; (with_reducible refine (number6_c x y _).mono ?_); rintro e w' ⟨rfl, g1⟩; have G1 := Lib.hid g1; clear g1) | (go_at_call 46; (with_reducible refine (mild_c hx _).mono ?_); rw [H1.out]; rintro e w' ⟨n, rfl, rfl⟩))
    go_ret
    exact ⟨rfl, gr_drewN _ (gr_trans (gr_drewN _ ((Grown.refl w).alloc _ _)) G1.out)⟩
  · have H1 := Lib.hid h1
    cases h2 : mildF g
    · have H2 := Lib.hid h2
      clear h1 h2
      go_enter Try.func7, Try.ntmps7
      go_wp2_with (first | (go_at_call 34; (with_reducible refine (awake_c _).mono ?_); rintro e w' ⟨n, rfl, rfl⟩) | (go_at_call 35; (with_reducible refine (number6_c x y _).mono ?_); rintro e w' ⟨rfl, g1⟩; have G1 := Lib.hid g1; clear g1) | (go_at_call 46; (with_reducible refine (mild_c hx _).mono ?_); rw [H1.out]; rintro e w' ⟨n, rfl, rfl⟩) | (go_at_call 46; (with_reducible refine (mild_c hy _).mono ?_); rw [H2.out]; rintro e w' ⟨n, rfl, rfl⟩))
      go_ret
      exact ⟨rfl, gr_drewN _ (gr_trans (gr_drewN _ ((Grown.refl w).alloc _ _)) G1.out)⟩
    · have H2 := Lib.hid h2
      by_cases k1 : a1 < -100
      · clear h1 h2
        go_enter Try.func7, Try.ntmps7
        go_wp2_with (first | (go_at_call 34; (with_reducible refine (awake_c _).mono ?_); rintro e w' ⟨n, rfl, rfl⟩) | (go_at_call 35; (with_reducible refine (number6_c x y _).mono ?_); rintro e w' ⟨rfl, g1⟩; have G1 := Lib.hid g1; clear g1) | (go_at_call 46; (with_reducible refine (mild_c hx _).mono ?_); rw [H1.out]; rintro e w' ⟨n, rfl, rfl⟩) | (go_at_call 46; (with_reducible refine (mild_c hy _).mono ?_); rw [H2.out]; rintro e w' ⟨n, rfl, rfl⟩))
        go_ret
        exact ⟨rfl, gr_drewN _ (gr_trans (gr_drewN _ ((Grown.refl w).alloc _ _)) G1.out)⟩
      · by_cases k2 : 100 < a1
        · clear h1 h2
          go_enter Try.func7, Try.ntmps7
          go_wp2_with (first | (go_at_call 34; (with_reducible refine (awake_c _).mono ?_); rintro e w' ⟨n, rfl, rfl⟩) | (go_at_call 35; (with_reducible refine (number6_c x y _).mono ?_); rintro e w' ⟨rfl, g1⟩; have G1 := Lib.hid g1; clear g1) | (go_at_call 46; (with_reducible refine (mild_c hx _).mono ?_); rw [H1.out]; rintro e w' ⟨n, rfl, rfl⟩) | (go_at_call 46; (with_reducible refine (mild_c hy _).mono ?_); rw [H2.out]; rintro e w' ⟨n, rfl, rfl⟩))
          go_ret
          exact ⟨rfl, gr_drewN _ (gr_trans (gr_drewN _ ((Grown.refl w).alloc _ _)) G1.out)⟩
        · have sc := mild_scaled hx.flt hy.flt h1 h2 (k := a1) (by omega) (by omega)
          have e1 := scale_1 (k := a1) (by omega) (by omega)
          obtain ⟨S, hS⟩ : ∃ S, (a1 + 1023).toNat * 4503599627370496 = S := ⟨_, rfl⟩
          rw [hS] at sc e1
          have E1 := Lib.hid e1
          have B1 : -100000 ≤ a1 := by omega
          have B2 : a1 ≤ 100000 := by omega
          have BB := Lib.hid (And.intro B1 B2)
          have LN := Lib.hid sc.len
          have RX := Lib.hid sc.rx
          have RY := Lib.hid sc.ry
          have NO := Lib.hid sc.no
          have YES := Lib.hid sc.yes
          clear sc e1 hS B1 B2 h1 h2
          cases hb : unitB f g
          · have UB := Lib.hid hb
            have ZL := Lib.hid (NO.out hb)
            clear hb
            go_enter Try.func7, Try.ntmps7
            go_wp2_with (first | (go_at_call 34; (with_reducible refine (awake_c _).mono ?_); rintro e w' ⟨n, rfl, rfl⟩) | (go_at_call 35; (with_reducible refine (number6_c x y _).mono ?_); rintro e w' ⟨rfl, g1⟩; have G1 := Lib.hid g1; clear g1) | (go_at_call 46; (with_reducible refine (mild_c hx _).mono ?_); rw [H1.out]; rintro e w' ⟨n, rfl, rfl⟩) | (go_at_call 46; (with_reducible refine (mild_c hy _).mono ?_); rw [H2.out]; rintro e w' ⟨n, rfl, rfl⟩) | (go_at_call 47; (with_reducible refine (ldexpW_c r1 _ _ BB.out.1 BB.out.2).mono ?_); rintro e w' ⟨rs, n, rfl, hs, rfl⟩; rw [E1.out] at hs) | (go_at_call 39; (with_reducible refine (length_c hx hy _).mono ?_); rintro e w' ⟨l, n, rfl, hl, rfl⟩; have ql := hl.eq' Rep.c0; rw [ZL.out] at ql; have qn : (FloatKind.f64.format.order l 0 != some .eq) = false := by rw [bne, ql]; rfl) | (go_at_call 48; (with_reducible refine (cscale_c hx hy hs _).mono ?_); rintro e w' ⟨b1, b2, n, rfl, hb1, hb2, rfl⟩) | (go_at_call 39; (with_reducible refine (length_c hb1 hb2 _).mono ?_); rintro e w' ⟨l2, n, rfl, hl2, rfl⟩; have q2 : ∀ W, (FloatKind.f64.format.order l2 (fres .mul l rs W) == some .eq) = true := fun W => (hl2.eq' (hl.mul hs)).trans LN.out; have qm : ∀ W, (FloatKind.f64.format.order l2 (fres .mul l rs W) != some .eq) = false := fun W => by rw [bne, q2 W]; rfl) | (go_at_call 48; (with_reducible refine (cscale_c hb1 hb2 hs _).mono ?_); rintro e w' ⟨d1, d2, n, rfl, hd1, hd2, rfl⟩) | (go_at_call 44; (with_reducible refine (root_c hd1 hd2 _).mono ?_); rintro e w' ⟨e1, e2, n, rfl, he1, he2, rfl⟩; rw [RX.out] at he1; rw [RY.out] at he2) | (go_at_call 44; (with_reducible refine (root_c hx hy _).mono ?_); rintro e w' ⟨m1, m2, n, rfl, hm1, hm2, rfl⟩) | (go_at_call 48; (with_reducible refine (cscale_c hm1 hm2 hs _).mono ?_); rintro e w' ⟨t1, t2, n, rfl, ht1, ht2, rfl⟩) | (go_at_call 49; (with_reducible refine (same6_c he1 he2 ht1 ht2 _).mono ?_); rw [beq_self_eq_true, beq_self_eq_true]; rintro e w' ⟨n, rfl, rfl⟩) | (go_at_call 50; (with_reducible refine (unit_c hx hy _).mono ?_); rw [UB.out, if_neg (by decide), if_neg (by decide)]; rintro e w' ⟨u1, u2, n, rfl, hu1, hu2, rfl⟩; obtain rfl := hu1.eq_of (by decide +kernel); obtain rfl := hu2.eq_of (by decide +kernel)))
            go_ret
            exact ⟨rfl, gr_drewN _ (gr_trans (gr_drewN _ ((Grown.refl w).alloc _ _)) G1.out)⟩
          · have UB := Lib.hid hb
            obtain ⟨y1, y2, y3, y4, y5, y6, y7⟩ := YES.out hb
            have Y1 := Lib.hid y1
            have Y2 := Lib.hid y2
            have Y3 := Lib.hid y3
            have Y4 := Lib.hid y4
            have Y5 := Lib.hid y5
            have Y6 := Lib.hid y6
            have Y7 := Lib.hid y7
            clear hb y1 y2 y3 y4 y5 y6 y7
            go_enter Try.func7, Try.ntmps7
            go_wp2_with (first | (go_at_call 34; (with_reducible refine (awake_c _).mono ?_); rintro e w' ⟨n, rfl, rfl⟩) | (go_at_call 35; (with_reducible refine (number6_c x y _).mono ?_); rintro e w' ⟨rfl, g1⟩; have G1 := Lib.hid g1; clear g1) | (go_at_call 46; (with_reducible refine (mild_c hx _).mono ?_); rw [H1.out]; rintro e w' ⟨n, rfl, rfl⟩) | (go_at_call 46; (with_reducible refine (mild_c hy _).mono ?_); rw [H2.out]; rintro e w' ⟨n, rfl, rfl⟩) | (go_at_call 47; (with_reducible refine (ldexpW_c r1 _ _ BB.out.1 BB.out.2).mono ?_); rintro e w' ⟨rs, n, rfl, hs, rfl⟩; rw [E1.out] at hs) | (go_at_call 39; (with_reducible refine (length_c hx hy _).mono ?_); rintro e w' ⟨l, n, rfl, hl, rfl⟩; have ql := hl.eq' Rep.c0; rw [Y1.out] at ql; have qn : (FloatKind.f64.format.order l 0 != some .eq) = true := by rw [bne, ql]; rfl) | (go_at_call 48; (with_reducible refine (cscale_c hx hy hs _).mono ?_); rintro e w' ⟨b1, b2, n, rfl, hb1, hb2, rfl⟩) | (go_at_call 39; (with_reducible refine (length_c hb1 hb2 _).mono ?_); rintro e w' ⟨l2, n, rfl, hl2, rfl⟩; have q2 : ∀ W, (FloatKind.f64.format.order l2 (fres .mul l rs W) == some .eq) = true := fun W => (hl2.eq' (hl.mul hs)).trans LN.out; have qm : ∀ W, (FloatKind.f64.format.order l2 (fres .mul l rs W) != some .eq) = false := fun W => by rw [bne, q2 W]; rfl) | (go_at_call 48; (with_reducible refine (cscale_c hb1 hb2 hs _).mono ?_); rintro e w' ⟨d1, d2, n, rfl, hd1, hd2, rfl⟩) | (go_at_call 44; (with_reducible refine (root_c hd1 hd2 _).mono ?_); rintro e w' ⟨e1, e2, n, rfl, he1, he2, rfl⟩; rw [RX.out] at he1; rw [RY.out] at he2) | (go_at_call 44; (with_reducible refine (root_c hx hy _).mono ?_); rintro e w' ⟨m1, m2, n, rfl, hm1, hm2, rfl⟩) | (go_at_call 48; (with_reducible refine (cscale_c hm1 hm2 hs _).mono ?_); rintro e w' ⟨t1, t2, n, rfl, ht1, ht2, rfl⟩) | (go_at_call 49; (with_reducible refine (same6_c he1 he2 ht1 ht2 _).mono ?_); rw [beq_self_eq_true, beq_self_eq_true]; rintro e w' ⟨n, rfl, rfl⟩) | (go_at_call 50; (with_reducible refine (unit_c hx hy _).mono ?_); rw [UB.out, if_pos rfl, if_pos rfl]; rintro e w' ⟨u1, u2, n, rfl, hu1, hu2, rfl⟩) | (go_at_call 51; (with_reducible refine (square_c hu1 hu2 _).mono ?_); rintro e w' ⟨sq, n, rfl, hsq, rfl⟩; have q3 := hsq.ge' ca; rw [Y2.out] at q3; have q4 := hsq.le' cb; rw [Y3.out] at q4) | (go_at_call 52; (with_reducible refine (polarP_c hx hy _).mono ?_); rintro e w' ⟨p1, p2, n, rfl, hp1, hp2, rfl⟩; have q5 := hp1.eq' hl; rw [Y5.out] at q5; have q6 := hp2.ge' cd; rw [Y6.out] at q6; have q7 := hp2.le' ce; rw [Y7.out] at q7) | (go_at_call 53; (with_reducible refine (placeP_c hp1 hp2 _).mono ?_); rintro e w' ⟨z1, z2, rfl, hz1, hz2, g2⟩; have G2 := Lib.hid g2; clear g2) | (go_at_call 54; (with_reducible refine (near_c hz1 hz2 hx hy _ (cc.mul hl)).mono ?_); rw [Y4.out]; rintro e w' ⟨n, rfl, rfl⟩))
            go_ret
            exact ⟨rfl, gr_drewN _ (gr_trans (gr_drewN _ (gr_trans (gr_drewN _ ((Grown.refl w).alloc _ _)) G1.out)) G2.out)⟩

/-! ### THE ROW's STEP: WRITTEN OUT: LEAVE IT -/
set_option maxRecDepth 100000 in
theorem lifted (os : Os) (started : os.Started) (H : Type) (enc : TypeId × Value → H) :
    ReturnsInHanded {} Try.checked os 7 .any (Rows.rootScaledSpec.pre6 enc Try.prog Try.f7 Rows.rootScaledRow.domain false) (Rows.rootScaledSpec.post enc Try.prog Try.f7 false true false false) := by
  refine returnsInHanded_of_change (C := Try.checked) own started (by kernel_rfl) Try.func7
    (ChangeSpec.witness6 (enc := enc) (C := Try.checked) false ⟨#[], #[.agg #[.int .u64 0, .int .u64 0], .int .i64 0], []⟩ 8 (by kernel_rfl) (by kernel_rfl) (by kernel_rfl) (by kernel_rfl)) ?_
  intro W base args ds gs before hval0 hW hcnd _
  have hval : ∀ (j : Nat) t v, Try.f7.params[j]? = some t → args[j]? = some v → Value.okWide Try.prog W .any base t v := hval0
  have hW' := hW
  obtain ⟨p, q, hA0, hV, rfl, hfz, hnd⟩ := hW
  have hA : DataW.TrodAll enc Try.prog W 0 (fun _ => true) true Try.f7.params.toList args.toList ds p := hA0
  rw [Try.params7] at hA hval
  obtain ⟨v0, vs0, d0, ds0, p0, q0, hargs, rfl, rfl, h0, r0⟩ := trodAll_cons hA
  obtain ⟨v1, vs1, d1, ds1, p1, q1, rfl, rfl, rfl, h1, r1⟩ := trodAll_cons r0
  obtain ⟨rfl, rfl, rfl⟩ := trodAll_nil r1
  obtain rfl : args = #[v0, v1] := by cases args; simp_all
  obtain ⟨rfl, rfl⟩ := trodVars_none hV
  obtain ⟨_, _, y0a, y0b, _, rfl, rfl, rfl, hy0a, hy0b⟩ := Joins.open_agg2 Try.underlying59 (by kernel_rfl) cells59 (hval 0 59 v0 rfl rfl) h0
  obtain ⟨a0, e0a, rfl, w0⟩ := DataW.trod_int Try.underlying23 hy0a
  obtain ⟨b0, e0b, rfl, u0⟩ := DataW.trod_int Try.underlying23 hy0b
  simp at e0a e0b
  subst e0a e0b
  obtain ⟨a1, rfl, rfl, rfl, w1⟩ := open_int Try.underlying3 (hval 1 3 v1 rfl rfl) h1
  clear hA0 hval0
  simp only [List.append_nil] at hW'
  refine (walk a0 b0 a1 w0 u0 w1 W).mono fun e W' ⟨he, hg⟩ => ?_
  subst he
  exact ⟨_, rfl, post_of_same (pa := []) (pv := []) hW' (fun _ _ _ => (trodAll_cons_mk (shut_bool Try.underlying4 _) trodAll_mk0)) (fun sp _ => (trodAll_cons_mk (Joins.shut_agg2 (y0 := (.lit (.int .u64 a0), [])) (y1 := (.lit (.int .u64 b0), [])) Try.underlying59 (by kernel_rfl) cells59 ⟨1, by simp [DataW.trod, Try.underlying23, w0]⟩ ⟨1, by simp [DataW.trod, Try.underlying23, u0]⟩) (trodAll_cons_mk (shut_int Try.underlying3 w1) trodAll_mk0))) (fun _ _ => rfl) rfl
    (hg.frame _) hg.2.1 (ok_one (by kernel_rfl) rfl (okWide_bool_mk Try.underlying4 _))⟩

theorem over : Rows.rootScaledRow.holds Try.pinned (OpenSpec.ofChange Rows.rootScaledSpec) :=
  OpenClaim.holds_of_wide 7 Try.f7 rfl rfl rfl rfl rfl rfl rfl ⟨rfl, rfl, rfl, rfl, rfl⟩ rfl rfl rfl rfl rfl (by kernel_rfl) Try.func7 (by kernel_rfl)
    (of_decide_eq_true (by kernel_rfl)) (by unfold Func.isWrapper; first | (rw [if_pos (by decide +kernel)]; kernel_rfl) | (rw [if_neg (by decide +kernel)]; exact ⟨rfl, rfl⟩))
    (fun os started H enc _ => lifted os started H enc)

/-- THE STATEMENT -/
theorem proved : Rows.RootScaledSaid :=
  over
#print axioms proved
end Go.Proofs.Ytcfkhhnkboealaa.rootScaled
