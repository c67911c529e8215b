/- RootPlace holds: for every input the law returns true and every argument reads as before. No condition. -/
import Derived.Test.YtndknkdfbjfjcaaDoorRows
import Derived.Test.YtndknkdfbjfjcaaDoorLaid
import Derived.Test.YtndknkdfbjfjcaaDoorSheet
import Derived.Test.YtndknkdfbjfjcaaDoorAwk
import Derived.Test.YtndknkdfbjfjcaaDoorCards
import Derived.Test.YtndknkdfbjfjcaaDoorTie
import Derived.SevenTiedAt
import Derived.Test.YtndknkdfbjfjcaaDoorLaid
import Derived.WalkKit
import Derived.Lib.SmallJoins
import Derived.ProofKit
import Derived.OpenShut
import Derived.ShutString
namespace Go.Proofs.YtndknkdfbjfjcaaDoor.rootPlace
open Go.ChangeShapes Go.WideShapes Go.ChangeAt Go.RowKit
open Go.ChangeMaps (open_string shut_string)
set_option linter.unusedVariables false      -- a walk need not use every 'w<i>' (that an integer argument fits its kind)

theorem cells45 : Tryd.prog.cellsOf 45 = 2 := by kernel_rfl
theorem own : ownKnob Tryd.prog.godebug = none := by kernel_rfl

/-! ### STEP 1: THE WALK: the Go text returns true. 'Grown w w'': the world has at most new blocks (Derived/RowKit3.lean). Part the cases AHEAD of 'go_enter' where a test parts the walk; take each callee by a contract of your own. -/
set_option maxHeartbeats 4000000 in
set_option maxRecDepth 100000 in
theorem walk (a0 : Int) (a1 : Int) (a2 b2 : Int) (a3 b3 : Int) (a4 : Int) (w0 : (Lit.int .u64 a0).wf = true) (w1 : (Lit.int .u64 a1).wf = true) (w2 : (Lit.int .u64 a2).wf = true) (u2 : (Lit.int .u64 b2).wf = true) (w3 : (Lit.int .u64 a3).wf = true) (u3 : (Lit.int .u64 b3).wf = true) (w4 : (Lit.int .u64 a4).wf = true) (w : World) (hT : TabAt w) (htab : 1 < w.heap.size) :
    Calls Tryd.prog 9 #[.int .u64 a0, .int .u64 a1, .agg #[.int .u64 a2, .int .u64 b2], .agg #[.int .u64 a3, .int .u64 b3], .int .u64 a4] w fun e w' => e = .returned (.bool true) ∧ Grown w w' := by
  obtain ⟨_, i0⟩ := bounds_u64 w0
  obtain ⟨_, i1⟩ := bounds_u64 w1
  obtain ⟨_, i2⟩ := bounds_u64 w2
  obtain ⟨_, j2⟩ := bounds_u64 u2
  obtain ⟨_, i3⟩ := bounds_u64 w3
  obtain ⟨_, j3⟩ := bounds_u64 u3
  obtain ⟨_, i4⟩ := bounds_u64 w4
  obtain ⟨x, rfl⟩ := Int.eq_ofNat_of_zero_le (bounds_u64 w0).1
  obtain ⟨y, rfl⟩ := Int.eq_ofNat_of_zero_le (bounds_u64 w1).1
  obtain ⟨p, rfl⟩ := Int.eq_ofNat_of_zero_le (bounds_u64 w2).1
  obtain ⟨q, rfl⟩ := Int.eq_ofNat_of_zero_le (bounds_u64 u2).1
  obtain ⟨r, rfl⟩ := Int.eq_ofNat_of_zero_le (bounds_u64 w3).1
  obtain ⟨s, rfl⟩ := Int.eq_ofNat_of_zero_le (bounds_u64 u3).1
  obtain ⟨v, rfl⟩ := Int.eq_ofNat_of_zero_le (bounds_u64 w4).1
  have hx : Rep x (nrm x) := ⟨by omega, rfl⟩
  have hy : Rep y (nrm y) := ⟨by omega, rfl⟩
  have hp : Rep p (nrm p) := ⟨by omega, rfl⟩
  have hq : Rep q (nrm q) := ⟨by omega, rfl⟩
  have hr : Rep r (nrm r) := ⟨by omega, rfl⟩
  have hs : Rep s (nrm s) := ⟨by omega, rfl⟩
  have hv : Rep v (nrm v) := ⟨by omega, rfl⟩
  have HT := Lib.hid hT
  clear w0 w1 w2 u2 w3 u3 w4 i0 i1 i2 j2 i3 j3 i4 hT
  generalize nrm x = f at hx
  generalize nrm y = g at hy
  generalize nrm p = fp at hp
  generalize nrm q = fq at hq
  generalize nrm r = fr at hr
  generalize nrm s = fs at hs
  generalize nrm v = fv at hv
  obtain ⟨b, hb⟩ : ∃ b, fle (lenF (fsub fp fr) (fsub fq fs)) fv = b := ⟨_, rfl⟩
  have HB := Lib.hid hb
  clear hb
  have HC := Lib.hid (box4 w (.int .u64 (p : Int)) (.int .u64 (q : Int)) (.int .u64 (r : Int)) (.int .u64 (s : Int)) 45)
  have G := Grown.refl ((w.alloc (.cells #[.int .u64 (p : Int), .int .u64 (q : Int)] 45)).alloc (.cells #[.int .u64 (r : Int), .int .u64 (s : Int)] 45))
  have GW := Lib.hid (((Grown.refl w).alloc (#[.int .u64 (p : Int), .int .u64 (q : Int)]) 45).alloc (#[.int .u64 (r : Int), .int .u64 (s : Int)]) 45)
  obtain ⟨c0, c1, c2, c3⟩ := HC.out _ G
  cases b
  all_goals
    go_enter Tryd.func9, Tryd.ntmps9
    go_upto_region 7 with (first
      | (go_at_call 44; (with_reducible refine (awake_c _).mono ?_); rintro e w' ⟨n, rfl, rfl⟩)
      | fail)
    go_region_held3 (fun w' => w'.cell? ⟨w.heap.size, 0, none⟩ = some (.int .u64 (p : Int)) ∧ w'.cell? ⟨w.heap.size, 1, none⟩ = some (.int .u64 (q : Int)) ∧ w'.cell? ⟨w.heap.size + 1, 0, none⟩ = some (.int .u64 (r : Int)) ∧ w'.cell? ⟨w.heap.size + 1, 1, none⟩ = some (.int .u64 (s : Int))) (first | exact ⟨by assumption, by assumption, by assumption, by assumption⟩ | go_keep) (first
      | (go_at_call 58; (with_reducible refine (place_c hx hy _).mono ?_); rintro e w' ⟨r1, s1, rfl, hr1, hs1, g1⟩; have G := grown_trans G g1; obtain ⟨c0, c1, c2, c3⟩ := HC.out _ G)
      | (go_at_call 59; (with_reducible refine (refPlace_c hx hy _).mono ?_); rintro e w' ⟨r2, s2, n2, rfl, hr2, hs2, rfl⟩)
      | (go_at_call 54; (with_reducible refine (same6_c hr1 hs1 hr2 hs2 _).mono ?_); rw [beq_self_eq_true, beq_self_eq_true]; rintro e w' ⟨n, rfl, rfl⟩)
      | (go_at_call 45; (with_reducible refine (number6_c p q _).mono ?_); rintro e w' ⟨rfl, g1⟩; have G := grown_trans G g1; obtain ⟨c0, c1, c2, c3⟩ := HC.out _ G)
      | (go_at_call 45; (with_reducible refine (number6_c r s _).mono ?_); rintro e w' ⟨rfl, g1⟩; have G := grown_trans G g1; obtain ⟨c0, c1, c2, c3⟩ := HC.out _ G)
      | (go_at_call 60; (with_reducible refine (near_c hp hq hr hs _ hv).mono ?_); rw [HB.out]; rintro e w' ⟨n3, rfl, rfl⟩)
      | (go_at_call 61; (with_reducible refine (refNear_c hp hq hr hs _ hv (by exact (tabs (grown_trans GW.out (by first | exact G | exact gr_drewN _ G | exact gr_drew1 G | exact gr_drew1 (gr_drewN _ G))) HT.out htab).1) (by exact (tabs (grown_trans GW.out (by first | exact G | exact gr_drewN _ G | exact gr_drew1 G | exact gr_drew1 (gr_drewN _ G))) HT.out htab).2)).mono ?_); rw [HB.out]; rintro e w' ⟨rfl, g1⟩; have G := grown_trans G g1; obtain ⟨c0, c1, c2, c3⟩ := HC.out _ G)
      | fail)
    all_goals
      go_wp2_with fail
      go_ret
      exact ⟨rfl, grown_trans GW.out (by first | exact G | exact gr_drewN _ G)⟩

/-! ### THE ROW's STEP: WRITTEN OUT: LEAVE IT -/
set_option maxRecDepth 100000 in
theorem lifted (os : Os) (started : os.Started) (H : Type) (enc : TypeId × Value → H) :
    ReturnsInHanded {} Tryd.checked os 9 .any (fun w args => (Rows.rootPlaceSpec.pre enc Tryd.prog Tryd.f9 [] false w args ∧ laidMetH Tryd.prog tabL w) ∧ sizedMet enc Tryd.prog Tryd.f9 (OpenSpec.ofChange Rows.rootPlaceSpec) false w args)
      (Rows.rootPlaceSpec.post enc Tryd.prog Tryd.f9 false true false false) := by
  refine returnsInHanded_of_change_and (C := Tryd.checked) (X := fun w _ => laidMetH Tryd.prog tabL w) (fun _ _ _ hh h => h.of_heap hh) own started (by kernel_rfl) Tryd.func9
    (ChangeSpec.witness_shaped (enc := enc) (C := Tryd.checked) (os := os) (X := fun w _ => laidMetH Tryd.prog tabL w) false (World.doorLaid Tryd.prog 400 os) #[.int .u64 0, .int .u64 0, .agg #[.int .u64 0, .int .u64 0], .agg #[.int .u64 0, .int .u64 0], .int .u64 0] 8 rfl (World.shaped_of_RefB (by kernel_rfl) (by kernel_rfl)) (by kernel_rfl) (by kernel_rfl) (by kernel_rfl) (door_met os _)) ?_
  intro W base args ds gs before hval0 hW _ _ hL _
  have hval : ∀ (j : Nat) t v, Tryd.f9.params[j]? = some t → args[j]? = some v → Value.okWide Tryd.prog W .any base t v := hval0
  have hW' := hW
  obtain ⟨p, q, hA0, hV, rfl, hfz, hnd⟩ := hW
  have hA : DataW.TrodAll enc Tryd.prog W 0 (fun _ => true) true Tryd.f9.params.toList args.toList ds p := hA0
  rw [Tryd.params9] at hA hval
  obtain ⟨v0, vs0, d0, ds0, p0, q0, hargs, rfl, rfl, h0, r0⟩ := trodAll_cons hA
  obtain ⟨v1, vs1, d1, ds1, p1, q1, rfl, rfl, rfl, h1, r1⟩ := trodAll_cons r0
  obtain ⟨v2, vs2, d2, ds2, p2, q2, rfl, rfl, rfl, h2, r2⟩ := trodAll_cons r1
  obtain ⟨v3, vs3, d3, ds3, p3, q3, rfl, rfl, rfl, h3, r3⟩ := trodAll_cons r2
  obtain ⟨v4, vs4, d4, ds4, p4, q4, rfl, rfl, rfl, h4, r4⟩ := trodAll_cons r3
  obtain ⟨rfl, rfl, rfl⟩ := trodAll_nil r4
  obtain rfl : args = #[v0, v1, v2, v3, v4] := by cases args; simp_all
  obtain ⟨rfl, rfl⟩ := trodVars_none hV
  obtain ⟨a0, rfl, rfl, rfl, w0⟩ := open_int Tryd.underlying26 (hval 0 26 v0 rfl rfl) h0
  obtain ⟨a1, rfl, rfl, rfl, w1⟩ := open_int Tryd.underlying26 (hval 1 26 v1 rfl rfl) h1
  obtain ⟨_, _, y2a, y2b, _, rfl, rfl, rfl, hy2a, hy2b⟩ := Joins.open_agg2 Tryd.underlying45 (by kernel_rfl) cells45 (hval 2 45 v2 rfl rfl) h2
  obtain ⟨a2, e2a, rfl, w2⟩ := DataW.trod_int Tryd.underlying26 hy2a
  obtain ⟨b2, e2b, rfl, u2⟩ := DataW.trod_int Tryd.underlying26 hy2b
  simp at e2a e2b
  subst e2a e2b
  obtain ⟨_, _, y3a, y3b, _, rfl, rfl, rfl, hy3a, hy3b⟩ := Joins.open_agg2 Tryd.underlying45 (by kernel_rfl) cells45 (hval 3 45 v3 rfl rfl) h3
  obtain ⟨a3, e3a, rfl, w3⟩ := DataW.trod_int Tryd.underlying26 hy3a
  obtain ⟨b3, e3b, rfl, u3⟩ := DataW.trod_int Tryd.underlying26 hy3b
  simp at e3a e3b
  subst e3a e3b
  obtain ⟨a4, rfl, rfl, rfl, w4⟩ := open_int Tryd.underlying26 (hval 4 26 v4 rfl rfl) h4
  clear hA0 hval0
  simp only [List.append_nil] at hW'
  refine (walk a0 a1 a2 b2 a3 b3 a4 w0 w1 w2 u2 w3 u3 w4 W (tab_of_laid hL).1 (tab_of_laid hL).2).mono fun e W' ⟨he, hg⟩ => ?_
  subst he
  exact ⟨_, rfl, post_of_same (pa := []) (pv := []) hW' (fun _ _ _ => (trodAll_cons_mk (shut_bool Tryd.underlying4 _) trodAll_mk0)) (fun sp _ => (trodAll_cons_mk (shut_int Tryd.underlying26 w0) (trodAll_cons_mk (shut_int Tryd.underlying26 w1) (trodAll_cons_mk (Joins.shut_agg2 (y0 := (.lit (.int .u64 a2), [])) (y1 := (.lit (.int .u64 b2), [])) Tryd.underlying45 (by kernel_rfl) cells45 ⟨1, by simp [DataW.trod, Tryd.underlying26, w2]⟩ ⟨1, by simp [DataW.trod, Tryd.underlying26, u2]⟩) (trodAll_cons_mk (Joins.shut_agg2 (y0 := (.lit (.int .u64 a3), [])) (y1 := (.lit (.int .u64 b3), [])) Tryd.underlying45 (by kernel_rfl) cells45 ⟨1, by simp [DataW.trod, Tryd.underlying26, w3]⟩ ⟨1, by simp [DataW.trod, Tryd.underlying26, u3]⟩) (trodAll_cons_mk (shut_int Tryd.underlying26 w4) trodAll_mk0)))))) (fun _ _ => rfl) rfl
    (hg.frame _) hg.2.1 (ok_one (by kernel_rfl) rfl (okWide_bool_mk Tryd.underlying4 _))⟩

theorem over : Rows.rootPlaceRow.holds Tryd.pinned (OpenSpec.ofChange Rows.rootPlaceSpec) :=
  OpenClaim.holds_of_wide 9 Tryd.f9 rfl rfl rfl rfl rfl rfl rfl ⟨rfl, rfl, rfl, rfl, rfl⟩ rfl rfl rfl rfl rfl (by kernel_rfl) Tryd.func9 (by kernel_rfl)
    (of_decide_eq_true (by kernel_rfl)) (by unfold Func.isWrapper; first | (rw [if_pos (by decide +kernel)]; kernel_rfl) | (rw [if_neg (by decide +kernel)]; exact ⟨rfl, rfl⟩))
    (fun os started H enc _ => lifted os started H enc)

/-- THE STATEMENT: the tied card. -/
theorem proved : Rows.RootPlaceCardSaid :=
  Claim7.holds_tied_plain_at .later [] [.data] true (true, "0f531a19dc00c1f178bedfda43916f2076cd6e6d4dad4d008c76a110f6f4e0f3") false
    over (fun _ h => by cases h) (by kernel_rfl) (fun _ h => by cases h) rootPlace_row_tie rfl ⟨rfl, rfl⟩ (by kernel_rfl) rfl
    (fun f fn hf hfn => by
      obtain rfl : f = 9 := Option.some.inj ((show Tryd.prog.funcNamed "eddy/eddylaw06.RootPlace" = some 9 by kernel_rfl).symm.trans hf) |>.symm
      obtain rfl : fn = Tryd.f9 := (Option.some.inj (Tryd.func9.symm.trans hfn)).symm
      exact ⟨by kernel_rfl, fun j t ht => by
        rw [Tryd.params9] at ht
        have hm : t ∈ ([26, 26, 45, 45, 26] : List Nat) := by simpa using Array.mem_of_getElem? ht
        have hall : (([26, 26, 45, 45, 26] : List Nat).all fun u => !Tryd.prog.wantsStandIn u) = true := by kernel_rfl
        exact (show Tryd.prog.wantsStandIn t = false by simpa using List.all_eq_true.1 hall t hm)⟩)
    (by kernel_rfl)
#print axioms proved
end Go.Proofs.YtndknkdfbjfjcaaDoor.rootPlace
