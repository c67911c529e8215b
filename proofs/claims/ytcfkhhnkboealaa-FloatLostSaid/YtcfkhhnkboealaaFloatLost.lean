/- FloatLost holds: for every input the law returns true and every argument reads as before. No condition. -/
import Derived.Test.YtcfkhhnkboealaaRows
import Derived.Test.YtcfkhhnkboealaaFLo
import Derived.WalkKit
import Derived.ProofKit
import Derived.OpenShut
import Derived.ShutString
namespace Go.Proofs.Ytcfkhhnkboealaa.floatLost
open Go.ChangeShapes Go.WideShapes Go.ChangeAt Go.RowKit
open Go.ChangeMaps (open_string shut_string)
set_option linter.unusedVariables false      -- a walk need not use every 'w<i>' (that an integer argument fits its kind)

theorem own : ownKnob Try.prog.godebug = none := by kernel_rfl

/-! ### STEP 1: THE WALK: the Go text returns true. 'Grown w w'': the world has at most new blocks (Derived/RowKit3.lean). Part the cases AHEAD of 'go_enter' where a test parts the walk; take each callee by a contract of your own. -/
set_option maxHeartbeats 4000000 in
set_option maxRecDepth 100000 in
theorem walk (a0 : Int) (a1 : Int) (w0 : (Lit.int .u64 a0).wf = true) (w1 : (Lit.int .u64 a1).wf = true) (w : World) :
    Calls Try.prog 4 #[.int .u64 a0, .int .u64 a1] w fun e w' => e = .returned (.bool true) ∧ Grown w w' := by
  obtain ⟨b0, b1⟩ := bounds_u64 w0
  obtain ⟨x, rfl⟩ := Int.eq_ofNat_of_zero_le b0
  obtain ⟨c0, c1⟩ := bounds_u64 w1
  obtain ⟨y, rfl⟩ := Int.eq_ofNat_of_zero_le c0
  have hx : Rep x (nrm x) := ⟨by omega, rfl⟩
  have hy : Rep y (nrm y) := ⟨by omega, rfl⟩
  have hlx := hx.flt
  have hly := hy.flt
  generalize nrm x = f at hx hlx
  generalize nrm y = g at hy hly
  clear w0 w1 b0 b1 c0 c1
  cases hs : fin (fadd f g)
  · -- nothing is told of a sum that is not finite
    have HS := Lib.hid hs
    have h0 : lostF f g = 0 := by unfold lostF; rw [hs]; rfl
    have HL := Lib.hid h0
    have hff := Lib.hid (show (fin f && (fin g && fin (fadd f g))) = false from by rw [hs]; simp)
    clear h0
    cases hf : fin f <;> cases hg : fin g
    all_goals
      have HF := Lib.hid hf
      have HG := Lib.hid hg
      go_enter Try.func4, Try.ntmps4
      go_wp2_with (first
        | (go_at_call 14; (with_reducible refine (exact_c hx hy _).mono ?_); rw [HL.out]; rintro e w' ⟨r1, t1, n, rfl, hr1, ht1, rfl⟩; have hn0 := ht1.eq_of (by decide +kernel : isN 0 = false); subst hn0; have k2 := Rep.c0.eq' Rep.c0; rw [feq_self, show (!isN 0) = true by decide +kernel] at k2)
        | (go_at_call 18; (with_reducible refine (lawFinite_c hx _).mono ?_); rw [HF.out]; rintro e w' ⟨n, rfl, rfl⟩)
        | (go_at_call 18; (with_reducible refine (lawFinite_c hy _).mono ?_); rw [HG.out]; rintro e w' ⟨n, rfl, rfl⟩)
        | (go_at_call 18; (with_reducible refine (lawFinite_c hr1 _).mono ?_); rw [HS.out]; rintro e w' ⟨n, rfl, rfl⟩)
        | (go_at_call 19; refine (alive_c _).mono ?_; rintro e w' ⟨rfl, hga⟩)
        | (go_at_call 20; refine (signbit_c Rep.c0 _).mono ?_; rw [show sgn 0 = false by decide +kernel]; rintro e w' ⟨n, rfl, rfl⟩)
        | go_in)
      go_ret
      exact ⟨rfl, grown_drewN' _ hga⟩
  · obtain ⟨hf, hg⟩ := fadd_notN_finite hs
    obtain rfl := hx.eq_of (fin_notN hf)
    obtain rfl := hy.eq_of (fin_notN hg)
    obtain ⟨q1, q2, q3, q4⟩ := lost_val hlx hly hs
    have lls := fadd_lt x y
    have lll := lost_lt x y
    have HE := Lib.hid (exact_c hx hy)
    obtain ⟨s, es⟩ : ∃ s, fadd x y = s := ⟨_, rfl⟩
    obtain ⟨l, el⟩ : ∃ l, lostF x y = l := ⟨_, rfl⟩
    rw [es] at hs q2 q4 lls HE
    rw [el] at q1 q2 lll HE
    have hrs : Rep s s := Rep.self lls (nrm_of_not (fin_notN hs))
    have hrl : Rep l l := Rep.self lll (nrm_of_not (fin_notN q1))
    have HF := Lib.hid hf
    have HG := Lib.hid hg
    have HS := Lib.hid hs
    have HL := Lib.hid q1
    have HNS := Lib.hid (fin_notN hs)
    have HNL := Lib.hid (fin_notN q1)
    have HC : RowKit.Hid (cmpQ (sval x * U + sval y * U) (U * U) (sval s * U + sval l * U) (U * U) = 0) := Lib.hid (by
      have : sval x * U + sval y * U = sval s * U + sval l * U := by rw [q2]; grind
      unfold cmpQ; rw [this]; simp)
    have k0 := hrl.eq' Rep.c0
    have hcase : feq l 0 = true ∨ (feq l 0 = false ∧ fin (unitF s) = false) ∨ (feq l 0 = false ∧ fin (unitF s) = true ∧ fle (fabs l) (fdiv (unitF s) 4611686018427387904) = true) := by
      by_cases hz : feq l 0 = true
      · exact .inl hz
      · right
        have hz : feq l 0 = false := by simpa using hz
        have hne : sval l ≠ 0 := by
          rw [feq_zero (fin_notN q1)] at hz
          have hz2 : rung l ≠ 0 := by simpa using hz
          exact fun h => hz2 ((sval_zero_iff l).1 h)
        rcases q4 with q4 | ⟨e, q, a1, a2, a3, a4, a5⟩
        · exact absurd (q2.trans q4) hne
        · rw [← q2] at a5
          rcases loss_small lls hs a1 a2 a3 a4 q1 a5 with h | ⟨h1, h2⟩
          · exact .inl ⟨hz, h⟩
          · exact .inr ⟨hz, h1, h2⟩
    have HSX := Lib.hid (fun W => exactQ_c W hlx hf)
    have HSY := Lib.hid (fun W => exactQ_c W hly hg)
    have HSS := Lib.hid (fun W => exactQ_c W lls hs)
    have HSL := Lib.hid (fun W => exactQ_c W lll q1)
    have HA1 := Lib.hid (And.intro (digs_sval hf) (digs_sval hg))
    have HA2 := Lib.hid (And.intro (digs_sval hs) (digs_sval q1))
    have HA3 := Lib.hid (And.intro (digs_sum2 hf hg) (digs_sum2 hs q1))
    have HU := Lib.hid (And.intro digs_U digs_UU)
    have HUF : RowKit.Hid (unitF s = fabs (fsub (nextF s (fmul 4611686018427387904 s)) s)) := Lib.hid rfl
    clear q1 q2 q3 q4 hs hf hg es el lls lll hlx hly
    rcases hcase with hz | ⟨hz, hu⟩ | ⟨hz, hu, hle⟩
    all_goals
      rw [hz] at k0
      go_enter Try.func4, Try.ntmps4
      go_upto_region 5 with (first
        | (go_at_call 14; (with_reducible refine (HE.out _).mono ?_); rintro e w' ⟨r1, t1, n, rfl, hr1, ht1, rfl⟩; obtain rfl : s = r1 := (hr1.eq_of HNS.out).symm; obtain rfl : l = t1 := (ht1.eq_of HNL.out).symm; clear hr1 ht1)
        | (go_at_call 18; (with_reducible refine (lawFinite_c hx _).mono ?_); rw [HF.out]; rintro e w' ⟨n, rfl, rfl⟩)
        | (go_at_call 18; (with_reducible refine (lawFinite_c hy _).mono ?_); rw [HG.out]; rintro e w' ⟨n, rfl, rfl⟩)
        | (go_at_call 18; (with_reducible refine (lawFinite_c hrs _).mono ?_); rw [HS.out]; rintro e w' ⟨n, rfl, rfl⟩)
        | fail)
      generalize eW : w.drewN _ = W
      have HG0 : RowKit.Hid (Grown w W) := Lib.hid (by rw [← eW]; exact gr_drewN _ (Grown.refl w))
      clear eW
      have HZ0 := Lib.hid (ratNew (Grown.refl W) 40)
      go_upto_region 7 with (first
        | (go_at_call_of 22 (Value.float FloatKind.f64 x); (with_reducible refine (HSX.out _).mono ?_); rintro e W1 ⟨g1, rfl, hr, hg, _⟩; have HR1 := Lib.hid hr; have HG1 := Lib.hid hg; clear hr hg)
        | (go_at_call_of 22 (Value.float FloatKind.f64 y); (with_reducible refine (HSY.out _).mono ?_); rintro e W2 ⟨g2, rfl, hr, hg, _⟩; have HR2 := Lib.hid hr; have HG2 := Lib.hid hg; clear hr hg)
        | (go_at_call_of 21 (Value.pointer (some (Addr.mk W.heap.size 0 none))); go_loud ((with_reducible refine (rAdd_c ((HZ0.out.grown HG1.out).grown HG2.out) (HR1.out.grown HG2.out) HR2.out (Nat.le_trans HA1.out.1 (by decide)) (Nat.le_trans HU.out.1 (by decide)) (Nat.le_trans HA1.out.2 (by decide)) (Nat.le_trans HU.out.1 (by decide))).mono ?_); rintro e W3 ⟨w1, hg1, rfl, hr, hg⟩; have HR3 := Lib.hid hr; have HG3 := Lib.hid (hg.grown (gr_trans (gr_trans (gr_trans ((Grown.refl W).alloc _ _) HG1.out) HG2.out) hg1) (Nat.le_refl _)); have HZ3 := Lib.hid (ratNew (Grown.refl W3) 40); clear hr hg hg1))
        | (go_at_call_of 22 (Value.float FloatKind.f64 s); (with_reducible refine (HSS.out _).mono ?_); rintro e W4 ⟨g4, rfl, hr, hg, _⟩; have HR4 := Lib.hid hr; have HG4 := Lib.hid hg; clear hr hg)
        | (go_at_call_of 22 (Value.float FloatKind.f64 l); (with_reducible refine (HSL.out _).mono ?_); rintro e W5 ⟨g5, rfl, hr, hg, _⟩; have HR5 := Lib.hid hr; have HG5 := Lib.hid hg; clear hr hg)
        | (go_at_call 21; go_loud ((with_reducible refine (rAdd_c ((HZ3.out.grown HG4.out).grown HG5.out) (HR4.out.grown HG5.out) HR5.out (Nat.le_trans HA2.out.1 (by decide)) (Nat.le_trans HU.out.1 (by decide)) (Nat.le_trans HA2.out.2 (by decide)) (Nat.le_trans HU.out.1 (by decide))).mono ?_); rintro e W6 ⟨w1, hg1, rfl, hr, hg⟩; have HR6 := Lib.hid hr; have HG6 := Lib.hid (hg.grown (gr_trans (gr_trans (gr_trans ((Grown.refl W3).alloc _ _) HG4.out) HG5.out) hg1) (Nat.le_refl _)); clear hr hg hg1))
        | fail)
      go_wp2_with (first
        | (go_at_call 24; (with_reducible refine (next_c hrs (Rep.two.mul hrs) _).mono ?_); rintro e w' ⟨r9, n9, rfl, hr9, rfl⟩)
        | (go_at_call 23; (with_reducible refine (abs_c (hr9.sub hrs) _).mono ?_); rw [← HUF.out]; rintro e w' ⟨u, n8, rfl, hru, rfl⟩)
        | (go_at_call 23; (with_reducible refine (abs_c hrl _).mono ?_); rintro e w' ⟨r7, n7, rfl, hr7, rfl⟩; have k5 := fun w => (hr7.le' (hru.quo (w := w) Rep.two)).trans hle)
        | (go_at_call 19; refine (alive_c _).mono ?_; rintro e W7 ⟨rfl, hga⟩; have HG7 := Lib.hid (gr_trans (gr_drewN _ (Grown.refl _)) hga); clear hga)
        | (go_at_call 25; go_loud ((with_reducible refine (rcmp_c (HR3.out.grown (gr_trans HG6.out HG7.out)) (HR6.out.grown HG7.out) (Nat.le_trans HA3.out.1 (by decide)) (Nat.le_trans HU.out.2 (by decide)) (Nat.le_trans HA3.out.2 (by decide)) (Nat.le_trans HU.out.2 (by decide))).mono ?_); rw [HC.out]; rintro e W8 ⟨rfl, hg⟩; have HG8 := Lib.hid hg; clear hg))
        | (go_at_call 18; (with_reducible refine (lawFinite_c hru _).mono ?_); rw [hu]; rintro e w' ⟨n, rfl, rfl⟩)
        | fail)
      go_ret
      have h1 := gr_trans (gr_trans (gr_trans (gr_trans HG0.out HG3.out) HG6.out) HG7.out) HG8.out
      first | exact ⟨rfl, h1⟩ | exact ⟨rfl, gr_drewN _ h1⟩

/-! ### THE ROW's STEP: WRITTEN OUT: LEAVE IT -/
set_option maxRecDepth 100000 in
theorem lifted (os : Os) (started : os.Started) (H : Type) (enc : TypeId × Value → H) :
    ReturnsInHanded {} Try.checked os 4 .any (Rows.floatLostSpec.pre6 enc Try.prog Try.f4 Rows.floatLostRow.domain false) (Rows.floatLostSpec.post enc Try.prog Try.f4 false true false false) := by
  refine returnsInHanded_of_change (C := Try.checked) own started (by kernel_rfl) Try.func4
    (ChangeSpec.witness6 (enc := enc) (C := Try.checked) false ⟨#[], #[.int .u64 0, .int .u64 0], []⟩ 8 (by kernel_rfl) (by kernel_rfl) (by kernel_rfl) (by kernel_rfl)) ?_
  intro W base args ds gs before hval0 hW hcnd _
  have hval : ∀ (j : Nat) t v, Try.f4.params[j]? = some t → args[j]? = some v → Value.okWide Try.prog W .any base t v := hval0
  have hW' := hW
  obtain ⟨p, q, hA0, hV, rfl, hfz, hnd⟩ := hW
  have hA : DataW.TrodAll enc Try.prog W 0 (fun _ => true) true Try.f4.params.toList args.toList ds p := hA0
  rw [Try.params4] at hA hval
  obtain ⟨v0, vs0, d0, ds0, p0, q0, hargs, rfl, rfl, h0, r0⟩ := trodAll_cons hA
  obtain ⟨v1, vs1, d1, ds1, p1, q1, rfl, rfl, rfl, h1, r1⟩ := trodAll_cons r0
  obtain ⟨rfl, rfl, rfl⟩ := trodAll_nil r1
  obtain rfl : args = #[v0, v1] := by cases args; simp_all
  obtain ⟨rfl, rfl⟩ := trodVars_none hV
  obtain ⟨a0, rfl, rfl, rfl, w0⟩ := open_int Try.underlying23 (hval 0 23 v0 rfl rfl) h0
  obtain ⟨a1, rfl, rfl, rfl, w1⟩ := open_int Try.underlying23 (hval 1 23 v1 rfl rfl) h1
  clear hA0 hval0
  simp only [List.append_nil] at hW'
  refine (walk a0 a1 w0 w1 W).mono fun e W' ⟨he, hg⟩ => ?_
  subst he
  exact ⟨_, rfl, post_of_same (pa := []) (pv := []) hW' (fun _ _ _ => (trodAll_cons_mk (shut_bool Try.underlying4 _) trodAll_mk0)) (fun sp _ => (trodAll_cons_mk (shut_int Try.underlying23 w0) (trodAll_cons_mk (shut_int Try.underlying23 w1) trodAll_mk0))) (fun _ _ => rfl) rfl
    (hg.frame _) hg.2.1 (ok_one (by kernel_rfl) rfl (okWide_bool_mk Try.underlying4 _))⟩

theorem over : Rows.floatLostRow.holds Try.pinned (OpenSpec.ofChange Rows.floatLostSpec) :=
  OpenClaim.holds_of_wide 4 Try.f4 rfl rfl rfl rfl rfl rfl rfl ⟨rfl, rfl, rfl, rfl, rfl⟩ rfl rfl rfl rfl rfl (by kernel_rfl) Try.func4 (by kernel_rfl)
    (of_decide_eq_true (by kernel_rfl)) (by unfold Func.isWrapper; first | (rw [if_pos (by decide +kernel)]; kernel_rfl) | (rw [if_neg (by decide +kernel)]; exact ⟨rfl, rfl⟩))
    (fun os started H enc _ => lifted os started H enc)

/-- THE STATEMENT -/
theorem proved : Rows.FloatLostSaid :=
  over
#print axioms proved
end Go.Proofs.Ytcfkhhnkboealaa.floatLost
