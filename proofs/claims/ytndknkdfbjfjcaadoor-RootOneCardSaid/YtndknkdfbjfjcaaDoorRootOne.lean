/- RootOne holds: for every input the law returns true and every argument reads as before. No condition. -/
import Derived.Test.YtndknkdfbjfjcaaDoorRows
import Derived.Test.YtndknkdfbjfjcaaDoorLaid
import Derived.Test.YtndknkdfbjfjcaaDoorSheet
import Derived.Test.YtndknkdfbjfjcaaDoorAwk
import Derived.Test.YtndknkdfbjfjcaaDoorCards
import Derived.Test.YtndknkdfbjfjcaaDoorTie
import Derived.SevenTiedAt
import Derived.Test.YtndknkdfbjfjcaaDoorLaid
import Derived.WalkKit
import Derived.Lib.SmallJoins
import Derived.ProofKit
import Derived.OpenShut
import Derived.ShutString
namespace Go.Proofs.YtndknkdfbjfjcaaDoor.rootOne
open Go.ChangeShapes Go.WideShapes Go.ChangeAt Go.RowKit
open Go.ChangeMaps (open_string shut_string)
set_option linter.unusedVariables false      -- a walk need not use every 'w<i>' (that an integer argument fits its kind)

theorem cells45 : Tryd.prog.cellsOf 45 = 2 := by kernel_rfl
theorem own : ownKnob Tryd.prog.godebug = none := by kernel_rfl

/-! ### STEP 1: THE WALK: the Go text returns true. 'Grown w w'': the world has at most new blocks (Derived/RowKit3.lean). Part the cases AHEAD of 'go_enter' where a test parts the walk; take each callee by a contract of your own. -/
set_option maxHeartbeats 4000000 in
set_option maxRecDepth 100000 in
theorem walk (a0 b0 : Int) (w0 : (Lit.int .u64 a0).wf = true) (u0 : (Lit.int .u64 b0).wf = true) (w : World) (hT : TabAt w) (htab : 1 < w.heap.size) :
    Calls Tryd.prog 8 #[.agg #[.int .u64 a0, .int .u64 b0]] w fun e w' => e = .returned (.bool true) ∧ Grown w w' := by
  obtain ⟨_, i0⟩ := bounds_u64 w0
  obtain ⟨_, i1⟩ := bounds_u64 u0
  obtain ⟨x, rfl⟩ := Int.eq_ofNat_of_zero_le (bounds_u64 w0).1
  obtain ⟨y, rfl⟩ := Int.eq_ofNat_of_zero_le (bounds_u64 u0).1
  have hx : Rep x (nrm x) := ⟨by omega, rfl⟩
  have hy : Rep y (nrm y) := ⟨by omega, rfl⟩
  have HT := Lib.hid hT
  clear w0 u0 i0 i1 hT
  generalize nrm x = f at hx
  generalize nrm y = g at hy
  have G := Grown.refl w
  obtain ⟨b, hb⟩ : ∃ b, unitB f g = b := ⟨_, rfl⟩
  have HB := Lib.hid hb
  clear hb
  cases b
  all_goals
    go_enter Tryd.func8, Tryd.ntmps8
    go_wp2_with (first | (go_at_call 44; (with_reducible refine (awake_c _).mono ?_); rintro e w' ⟨n, rfl, rfl⟩) | (go_at_call 45; (with_reducible refine (number6_c x y _).mono ?_); rintro e w' ⟨rfl, g1⟩; have G := (by first | exact grown_trans G g1 | exact grown_trans (G.alloc _ _) g1 : Grown w _)) | (go_at_call 46; (with_reducible refine (polar_c hx hy _).mono ?_); rintro e w' ⟨r1, s1, n1, rfl, hr1, hs1, rfl⟩) | (go_at_call 47; (with_reducible refine (refPolar_c hx hy _ (by exact (tabs (by first | exact G | exact gr_drewN _ G) HT.out htab).1) (by exact (tabs (by first | exact G | exact gr_drewN _ G) HT.out htab).2)).mono ?_); rintro e w' ⟨r2, s2, rfl, hr2, hs2, g1⟩; have G := grown_trans G g1) | (go_at_call 48; (with_reducible refine (unit_c hx hy _).mono ?_); rw [HB.out]; rintro e w' ⟨r3, s3, n3, rfl, hr3, hs3, rfl⟩) | (go_at_call 49; (with_reducible refine (refUnit_c hx hy _ (by exact (tabs (by first | exact G | exact gr_drewN _ G) HT.out htab).1) (by exact (tabs (by first | exact G | exact gr_drewN _ G) HT.out htab).2)).mono ?_); rw [HB.out]; rintro e w' ⟨r4, s4, rfl, hr4, hs4, g1⟩; have G := grown_trans G g1) | (go_at_call 50; (with_reducible refine (length_c hx hy _).mono ?_); rintro e w' ⟨r5, n5, rfl, hr5, rfl⟩) | (go_at_call 51; (with_reducible refine (refLength_c hx hy _ (by exact (tabs (by first | exact G | exact gr_drewN _ G) HT.out htab).1) (by exact (tabs (by first | exact G | exact gr_drewN _ G) HT.out htab).2)).mono ?_); rintro e w' ⟨r6, rfl, hr6, g1⟩; have G := grown_trans G g1) | (go_at_call 52; (with_reducible refine (square_c hx hy _).mono ?_); rintro e w' ⟨r7, n7, rfl, hr7, rfl⟩) | (go_at_call 53; (with_reducible refine (refSquare_c hx hy _).mono ?_); rintro e w' ⟨r8, n8, rfl, hr8, rfl⟩) | (go_at_call 55; (with_reducible refine (root_c hx hy _).mono ?_); rintro e w' ⟨r9, s9, n9, rfl, hr9, hs9, rfl⟩) | (go_at_call 56; (with_reducible refine (refRoot_c hx hy _ (by exact (tabs (by first | exact G | exact gr_drewN _ G) HT.out htab).1) (by exact (tabs (by first | exact G | exact gr_drewN _ G) HT.out htab).2)).mono ?_); rintro e w' ⟨r10, s10, rfl, hr10, hs10, g1⟩; have G := grown_trans G g1) | (go_at_call 54; (with_reducible refine (same6_c (by with_reducible assumption) (by with_reducible assumption) (by with_reducible assumption) (by with_reducible assumption) _).mono ?_); rw [beq_self_eq_true, beq_self_eq_true]; rintro e w' ⟨n, rfl, rfl⟩) | (go_at_call 12; (with_reducible refine (refSame_c (by with_reducible assumption) (by with_reducible assumption) _).mono ?_); rw [beq_self_eq_true]; rintro e w' ⟨n, rfl, rfl⟩))
    go_ret
    exact ⟨rfl, by first | exact G | exact gr_drewN _ G⟩

/-! ### THE ROW's STEP: WRITTEN OUT: LEAVE IT -/
set_option maxRecDepth 100000 in
theorem lifted (os : Os) (started : os.Started) (H : Type) (enc : TypeId × Value → H) :
    ReturnsInHanded {} Tryd.checked os 8 .any (fun w args => (Rows.rootOneSpec.pre enc Tryd.prog Tryd.f8 [] false w args ∧ laidMetH Tryd.prog tabL w) ∧ sizedMet enc Tryd.prog Tryd.f8 (OpenSpec.ofChange Rows.rootOneSpec) false w args)
      (Rows.rootOneSpec.post enc Tryd.prog Tryd.f8 false true false false) := by
  refine returnsInHanded_of_change_and (C := Tryd.checked) (X := fun w _ => laidMetH Tryd.prog tabL w) (fun _ _ _ hh h => h.of_heap hh) own started (by kernel_rfl) Tryd.func8
    (ChangeSpec.witness_shaped (enc := enc) (C := Tryd.checked) (os := os) (X := fun w _ => laidMetH Tryd.prog tabL w) false (World.doorLaid Tryd.prog 400 os) #[.agg #[.int .u64 0, .int .u64 0]] 8 rfl (World.shaped_of_RefB (by kernel_rfl) (by kernel_rfl)) (by kernel_rfl) (by kernel_rfl) (by kernel_rfl) (door_met os _)) ?_
  intro W base args ds gs before hval0 hW _ _ hL _
  have hval : ∀ (j : Nat) t v, Tryd.f8.params[j]? = some t → args[j]? = some v → Value.okWide Tryd.prog W .any base t v := hval0
  have hW' := hW
  obtain ⟨p, q, hA0, hV, rfl, hfz, hnd⟩ := hW
  have hA : DataW.TrodAll enc Tryd.prog W 0 (fun _ => true) true Tryd.f8.params.toList args.toList ds p := hA0
  rw [Tryd.params8] at hA hval
  obtain ⟨v0, vs0, d0, ds0, p0, q0, hargs, rfl, rfl, h0, r0⟩ := trodAll_cons hA
  obtain ⟨rfl, rfl, rfl⟩ := trodAll_nil r0
  obtain rfl : args = #[v0] := by cases args; simp_all
  obtain ⟨rfl, rfl⟩ := trodVars_none hV
  obtain ⟨_, _, y0a, y0b, _, rfl, rfl, rfl, hy0a, hy0b⟩ := Joins.open_agg2 Tryd.underlying45 (by kernel_rfl) cells45 (hval 0 45 v0 rfl rfl) h0
  obtain ⟨a0, e0a, rfl, w0⟩ := DataW.trod_int Tryd.underlying26 hy0a
  obtain ⟨b0, e0b, rfl, u0⟩ := DataW.trod_int Tryd.underlying26 hy0b
  simp at e0a e0b
  subst e0a e0b
  clear hA0 hval0
  simp only [List.append_nil] at hW'
  refine (walk a0 b0 w0 u0 W (tab_of_laid hL).1 (tab_of_laid hL).2).mono fun e W' ⟨he, hg⟩ => ?_
  subst he
  exact ⟨_, rfl, post_of_same (pa := []) (pv := []) hW' (fun _ _ _ => (trodAll_cons_mk (shut_bool Tryd.underlying4 _) trodAll_mk0)) (fun sp _ => (trodAll_cons_mk (Joins.shut_agg2 (y0 := (.lit (.int .u64 a0), [])) (y1 := (.lit (.int .u64 b0), [])) Tryd.underlying45 (by kernel_rfl) cells45 ⟨1, by simp [DataW.trod, Tryd.underlying26, w0]⟩ ⟨1, by simp [DataW.trod, Tryd.underlying26, u0]⟩) trodAll_mk0)) (fun _ _ => rfl) rfl
    (hg.frame _) hg.2.1 (ok_one (by kernel_rfl) rfl (okWide_bool_mk Tryd.underlying4 _))⟩

theorem over : Rows.rootOneRow.holds Tryd.pinned (OpenSpec.ofChange Rows.rootOneSpec) :=
  OpenClaim.holds_of_wide 8 Tryd.f8 rfl rfl rfl rfl rfl rfl rfl ⟨rfl, rfl, rfl, rfl, rfl⟩ rfl rfl rfl rfl rfl (by kernel_rfl) Tryd.func8 (by kernel_rfl)
    (of_decide_eq_true (by kernel_rfl)) (by unfold Func.isWrapper; first | (rw [if_pos (by decide +kernel)]; kernel_rfl) | (rw [if_neg (by decide +kernel)]; exact ⟨rfl, rfl⟩))
    (fun os started H enc _ => lifted os started H enc)

/-- THE STATEMENT: the tied card. -/
theorem proved : Rows.RootOneCardSaid :=
  Claim7.holds_tied_plain_at .later [] [.data] true (true, "0f531a19dc00c1f178bedfda43916f2076cd6e6d4dad4d008c76a110f6f4e0f3") false
    over (fun _ h => by cases h) (by kernel_rfl) (fun _ h => by cases h) rootOne_row_tie rfl ⟨rfl, rfl⟩ (by kernel_rfl) rfl
    (fun f fn hf hfn => by
      obtain rfl : f = 8 := Option.some.inj ((show Tryd.prog.funcNamed "eddy/eddylaw06.RootOne" = some 8 by kernel_rfl).symm.trans hf) |>.symm
      obtain rfl : fn = Tryd.f8 := (Option.some.inj (Tryd.func8.symm.trans hfn)).symm
      exact ⟨by kernel_rfl, fun j t ht => by
        rw [Tryd.params8] at ht
        have hm : t ∈ ([45] : List Nat) := by simpa using Array.mem_of_getElem? ht
        have hall : (([45] : List Nat).all fun u => !Tryd.prog.wantsStandIn u) = true := by kernel_rfl
        exact (show Tryd.prog.wantsStandIn t = false by simpa using List.all_eq_true.1 hall t hm)⟩)
    (by kernel_rfl)
#print axioms proved
end Go.Proofs.YtndknkdfbjfjcaaDoor.rootOne
