/- PowerReals holds: for every input the law returns true and every argument reads as before. No condition. -/
import Derived.Test.YtndknkdfbjfjcaaGreatDoorRows
import Derived.Test.YtndknkdfbjfjcaaGreatDoorLaid
import Derived.Test.YtndknkdfbjfjcaaGreatDoorPowR
import Derived.Test.YtndknkdfbjfjcaaGreatDoorNum7
import Derived.Test.YtndknkdfbjfjcaaGreatDoorCards
import Derived.Test.YtndknkdfbjfjcaaGreatDoorTie
import Derived.SevenTiedAt
import Derived.Test.YtndknkdfbjfjcaaGreatDoorLaid
import Derived.WalkKit
import Derived.Lib.SmallJoins
import Derived.ProofKit
import Derived.OpenShut
import Derived.ShutString
namespace Go.Proofs.YtndknkdfbjfjcaaGreatDoor.powerReals
open Go.ChangeShapes Go.WideShapes Go.ChangeAt Go.RowKit
open Go.ChangeMaps (open_string shut_string)
set_option linter.unusedVariables false      -- a walk need not use every 'w<i>' (that an integer argument fits its kind)

theorem cells24 : Tryz.prog.cellsOf 24 = 2 := by kernel_rfl
theorem own : ownKnob Tryz.prog.godebug = none := by kernel_rfl

/-! ### STEP 1: THE WALK: the Go text returns true. 'Grown w w'': the world has at most new blocks (Derived/RowKit3.lean). Part the cases AHEAD of 'go_enter' where a test parts the walk; take each callee by a contract of your own. -/
set_option maxHeartbeats 4000000 in
set_option maxRecDepth 100000 in
theorem walk (a0 b0 : Int) (a1 b1 : Int) (w0 : (Lit.int .u64 a0).wf = true) (u0 : (Lit.int .u64 b0).wf = true) (w1 : (Lit.int .u64 a1).wf = true) (u1 : (Lit.int .u64 b1).wf = true) (w : World) (hT : TabAt w) (htab : 1 < w.heap.size) :
    Calls Tryz.prog 4 #[.agg #[.int .u64 a0, .int .u64 b0], .agg #[.int .u64 a1, .int .u64 b1]] w fun e w' => e = .returned (.bool true) ∧ Grown w w' := by
  obtain ⟨_, i0⟩ := bounds_u64 w0
  obtain ⟨_, j0⟩ := bounds_u64 u0
  obtain ⟨_, i1⟩ := bounds_u64 w1
  obtain ⟨_, j1⟩ := bounds_u64 u1
  obtain ⟨x, rfl⟩ := Int.eq_ofNat_of_zero_le (bounds_u64 w0).1
  obtain ⟨y, rfl⟩ := Int.eq_ofNat_of_zero_le (bounds_u64 u0).1
  obtain ⟨z, rfl⟩ := Int.eq_ofNat_of_zero_le (bounds_u64 w1).1
  obtain ⟨t, rfl⟩ := Int.eq_ofNat_of_zero_le (bounds_u64 u1).1
  have hx : Rep x (nrm x) := ⟨by omega, rfl⟩
  have hy : Rep y (nrm y) := ⟨by omega, rfl⟩
  have hz : Rep z (nrm z) := ⟨by omega, rfl⟩
  have ht : Rep t (nrm t) := ⟨by omega, rfl⟩
  have HT := Lib.hid hT
  clear w0 u0 w1 u1 i0 i1 j0 j1 hT
  generalize nrm x = f at hx
  generalize nrm y = g at hy
  generalize nrm z = h at hz
  generalize nrm t = k at ht
  go_enter Tryz.func4, Tryz.ntmps4
  go_wp2
  go_region_with (first | (go_at_call 5; (with_reducible refine (number7x_c x y _).mono ?_); rintro e w' ⟨n, rfl, rfl⟩) | (go_at_call 5; (with_reducible refine (number7x_c z t _).mono ?_); rintro e w' ⟨n, rfl, rfl⟩))
  all_goals
    go_wp2_with (first | (go_at_call 11; (with_reducible refine (creal_c hx hy hz _).mono ?_); rintro e w' ⟨r1, s1, rfl, hr1, hs1, g1⟩; have G := grown_trans (show Grown w _ from by repeat (first | exact Grown.refl _ | apply grown_drewN' | apply Grown.drew | apply Grown.alloc)) g1) | (go_at_call 13; (with_reducible refine (cpow_c hx hy hz ht _).mono ?_); rintro e w' ⟨r2, s2, rfl, hr2, hs2, g1⟩; have G := grown_trans G g1) | (go_at_call 12; (with_reducible refine (refCreal_c hx hy hz _ (by exact (tabs7 (by first | exact G | exact gr_drewN _ G) HT.out htab).1) (by exact (tabs7 (by first | exact G | exact gr_drewN _ G) HT.out htab).2)).mono ?_); rintro e w' ⟨r5, s5, rfl, hr5, hs5, g1⟩; have G := grown_trans G g1) | (go_at_call 14; (with_reducible refine (refCpow_c hx hy hz ht _ (by exact (tabs7 (by first | exact G | exact gr_drewN _ G) HT.out htab).1) (by exact (tabs7 (by first | exact G | exact gr_drewN _ G) HT.out htab).2)).mono ?_); rintro e w' ⟨r6, s6, rfl, hr6, hs6, g1⟩; have G := grown_trans G g1) | (go_at_call 6; (with_reducible refine (refSame7_c (by with_reducible assumption) (by with_reducible assumption) (by with_reducible assumption) (by with_reducible assumption) _).mono ?_); rw [beq_self_eq_true, beq_self_eq_true]; rintro e w' ⟨n, rfl, rfl⟩))
    go_ret
    exact ⟨rfl, by first | exact G | exact gr_drewN _ G⟩

/-! ### THE ROW's STEP: WRITTEN OUT: LEAVE IT -/
set_option maxRecDepth 100000 in
theorem lifted (os : Os) (started : os.Started) (H : Type) (enc : TypeId × Value → H) :
    ReturnsInHanded {} Tryz.checked os 4 .any (fun w args => (Rows.powerRealsSpec.pre enc Tryz.prog Tryz.f4 [] false w args ∧ laidMetH Tryz.prog tabL w) ∧ sizedMet enc Tryz.prog Tryz.f4 (OpenSpec.ofChange Rows.powerRealsSpec) false w args)
      (Rows.powerRealsSpec.post enc Tryz.prog Tryz.f4 false true false false) := by
  refine returnsInHanded_of_change_and (C := Tryz.checked) (X := fun w _ => laidMetH Tryz.prog tabL w) (fun _ _ _ hh h => h.of_heap hh) own started (by kernel_rfl) Tryz.func4
    (ChangeSpec.witness_shaped (enc := enc) (C := Tryz.checked) (os := os) (X := fun w _ => laidMetH Tryz.prog tabL w) false (World.doorLaid Tryz.prog 400 os) #[.agg #[.int .u64 0, .int .u64 0], .agg #[.int .u64 0, .int .u64 0]] 8 rfl (World.shaped_of_RefB (by kernel_rfl) (by kernel_rfl)) (by kernel_rfl) (by kernel_rfl) (by kernel_rfl) (door_met os _)) ?_
  intro W base args ds gs before hval0 hW _ _ hL _
  have hval : ∀ (j : Nat) t v, Tryz.f4.params[j]? = some t → args[j]? = some v → Value.okWide Tryz.prog W .any base t v := hval0
  have hW' := hW
  obtain ⟨p, q, hA0, hV, rfl, hfz, hnd⟩ := hW
  have hA : DataW.TrodAll enc Tryz.prog W 0 (fun _ => true) true Tryz.f4.params.toList args.toList ds p := hA0
  rw [Tryz.params4] at hA hval
  obtain ⟨v0, vs0, d0, ds0, p0, q0, hargs, rfl, rfl, h0, r0⟩ := trodAll_cons hA
  obtain ⟨v1, vs1, d1, ds1, p1, q1, rfl, rfl, rfl, h1, r1⟩ := trodAll_cons r0
  obtain ⟨rfl, rfl, rfl⟩ := trodAll_nil r1
  obtain rfl : args = #[v0, v1] := by cases args; simp_all
  obtain ⟨rfl, rfl⟩ := trodVars_none hV
  obtain ⟨_, _, y0a, y0b, _, rfl, rfl, rfl, hy0a, hy0b⟩ := Joins.open_agg2 Tryz.underlying24 (by kernel_rfl) cells24 (hval 0 24 v0 rfl rfl) h0
  obtain ⟨a0, e0a, rfl, w0⟩ := DataW.trod_int Tryz.underlying22 hy0a
  obtain ⟨b0, e0b, rfl, u0⟩ := DataW.trod_int Tryz.underlying22 hy0b
  simp at e0a e0b
  subst e0a e0b
  obtain ⟨_, _, y1a, y1b, _, rfl, rfl, rfl, hy1a, hy1b⟩ := Joins.open_agg2 Tryz.underlying24 (by kernel_rfl) cells24 (hval 1 24 v1 rfl rfl) h1
  obtain ⟨a1, e1a, rfl, w1⟩ := DataW.trod_int Tryz.underlying22 hy1a
  obtain ⟨b1, e1b, rfl, u1⟩ := DataW.trod_int Tryz.underlying22 hy1b
  simp at e1a e1b
  subst e1a e1b
  clear hA0 hval0
  simp only [List.append_nil] at hW'
  refine (walk a0 b0 a1 b1 w0 u0 w1 u1 W (tab_of_laid hL).1 (tab_of_laid hL).2).mono fun e W' ⟨he, hg⟩ => ?_
  subst he
  exact ⟨_, rfl, post_of_same (pa := []) (pv := []) hW' (fun _ _ _ => (trodAll_cons_mk (shut_bool Tryz.underlying4 _) trodAll_mk0)) (fun sp _ => (trodAll_cons_mk (Joins.shut_agg2 (y0 := (.lit (.int .u64 a0), [])) (y1 := (.lit (.int .u64 b0), [])) Tryz.underlying24 (by kernel_rfl) cells24 ⟨1, by simp [DataW.trod, Tryz.underlying22, w0]⟩ ⟨1, by simp [DataW.trod, Tryz.underlying22, u0]⟩) (trodAll_cons_mk (Joins.shut_agg2 (y0 := (.lit (.int .u64 a1), [])) (y1 := (.lit (.int .u64 b1), [])) Tryz.underlying24 (by kernel_rfl) cells24 ⟨1, by simp [DataW.trod, Tryz.underlying22, w1]⟩ ⟨1, by simp [DataW.trod, Tryz.underlying22, u1]⟩) trodAll_mk0))) (fun _ _ => rfl) rfl
    (hg.frame _) hg.2.1 (ok_one (by kernel_rfl) rfl (okWide_bool_mk Tryz.underlying4 _))⟩

theorem over : Rows.powerRealsRow.holds Tryz.pinned (OpenSpec.ofChange Rows.powerRealsSpec) :=
  OpenClaim.holds_of_wide 4 Tryz.f4 rfl rfl rfl rfl rfl rfl rfl ⟨rfl, rfl, rfl, rfl, rfl⟩ rfl rfl rfl rfl rfl (by kernel_rfl) Tryz.func4 (by kernel_rfl)
    (of_decide_eq_true (by kernel_rfl)) (by unfold Func.isWrapper; first | (rw [if_pos (by decide +kernel)]; kernel_rfl) | (rw [if_neg (by decide +kernel)]; exact ⟨rfl, rfl⟩))
    (fun os started H enc _ => lifted os started H enc)

/-- THE STATEMENT: the tied card. -/
theorem proved : Rows.PowerRealsCardSaid :=
  Claim7.holds_tied_plain_at .later [] [.data] true (true, "1046e7d6cd372cedd95dfa5a09db9a7663c4c11264ead50df560b436a79cff9d") false
    over (fun _ h => by cases h) (by kernel_rfl) (fun _ h => by cases h) powerReals_row_tie rfl ⟨rfl, rfl⟩ (by kernel_rfl) rfl
    (fun f fn hf hfn => by
      obtain rfl : f = 4 := Option.some.inj ((show Tryz.prog.funcNamed "eddy/eddylaw07.PowerReals" = some 4 by kernel_rfl).symm.trans hf) |>.symm
      obtain rfl : fn = Tryz.f4 := (Option.some.inj (Tryz.func4.symm.trans hfn)).symm
      exact ⟨by kernel_rfl, fun j t ht => by
        rw [Tryz.params4] at ht
        have hm : t ∈ ([24, 24] : List Nat) := by simpa using Array.mem_of_getElem? ht
        have hall : (([24, 24] : List Nat).all fun u => !Tryz.prog.wantsStandIn u) = true := by kernel_rfl
        exact (show Tryz.prog.wantsStandIn t = false by simpa using List.all_eq_true.1 hall t hm)⟩)
    (by kernel_rfl)
#print axioms proved
end Go.Proofs.YtndknkdfbjfjcaaGreatDoor.powerReals
