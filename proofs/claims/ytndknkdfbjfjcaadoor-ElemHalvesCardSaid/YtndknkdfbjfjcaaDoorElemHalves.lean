/- ElemHalves holds: for every input the law returns true and every argument reads as before. No condition. -/
import Derived.Test.YtndknkdfbjfjcaaDoorRows
import Derived.Test.YtndknkdfbjfjcaaDoorLaid
import Derived.Test.YtndknkdfbjfjcaaDoorElemR
import Derived.Test.YtndknkdfbjfjcaaDoorCards
import Derived.Test.YtndknkdfbjfjcaaDoorTie
import Derived.SevenTiedAt
import Derived.Test.YtndknkdfbjfjcaaDoorLaid
import Derived.WalkKit
import Derived.ProofKit
import Derived.OpenShut
import Derived.ShutString
import Derived.ChangeOld
import Derived.Below
namespace Go.Proofs.YtndknkdfbjfjcaaDoor.elemHalves
open Go.ChangeShapes Go.WideShapes Go.ChangeAt Go.RowKit
open Go.ChangeMaps (open_string shut_string)
set_option linter.unusedVariables false

theorem own : ownKnob Tryd.prog.godebug = none := by kernel_rfl
theorem laidOut : laidOutB Tryd.prog = true := by kernel_rfl

/-- WHAT THE WALK IS TOLD OF A SLICE OF INTEGERS THAT CAME IN: it is nil; or it leads to a row of 'cap' cells, the numbers 'zs' (the first 'len' are its elements, the rest its spare room), each fitting its kind. -/
def IsRow (k : IntKind) (w : World) (a : Option Addr) (len cap : Nat) (zs : List Int) : Prop :=
  (a = none ∧ len = 0 ∧ cap = 0 ∧ zs = []) ∨
  ∃ x, a = some x ∧ len ≤ cap ∧ cap ≤ maxLen ∧ zs.length = cap ∧ (∀ i, i < zs.length → w.cell? (x.add i) = some (.int k (zs.getD i 0))) ∧ ∀ n ∈ zs, (Lit.int k n).wf = true

/-! ### STEP 1: THE WALK: the Go text returns true, AND WRITES NOTHING THAT WAS THERE: 'Grown w w'' (Derived/Below.lean: '.refl', '.alloc', '.drew', '.setCell' at a new block, '.trans'). Open each 'IsRow' by 'rcases' AHEAD of 'go_enter'; part every test ahead of the walk. -/
set_option maxHeartbeats 4000000 in
set_option maxRecDepth 100000 in
theorem walk (a0 : Option Addr) (len0 cap0 : Nat) (z0 : List Int) (w : World) (hT : TabAt w) (htab : 1 < w.heap.size) (w0 : IsRow .u64 w a0 len0 cap0 z0) :
    Calls Tryd.prog 4 #[.slice a0 len0 cap0] w fun e w' => e = .returned (.bool true) ∧ Grown w w' := by
  have HT := Lib.hid hT
  clear hT
  rcases w0 with ⟨rfl, rfl, rfl, rfl⟩ | ⟨x, rfl, hl, hm, hz, hcell, hwz⟩
  · go_enter Tryd.func4, Tryd.ntmps4
    go_wp2_with (first | (go_at_call 16; (with_reducible refine (two_c _).mono ?_); rintro e w' ⟨r, s, n, rfl, hr, hs, rfl⟩; have q1 := hr.eq' Rep.cH; have q2 := hs.eq' Rep.cL; rw [show feq 4604418534311723008 4604418534311723008 = true by decide +kernel] at q1; rw [show feq 4461442080421002358 4461442080421002358 = true by decide +kernel] at q2))
    go_loopw [5] (fun i wr => ∃ n : Nat, i = .int .i64 0 ∧ wr = w.drewN n) (fun _ _ => 0)
    case atStart => exact ⟨_, rfl, rfl⟩
    case round =>
      obtain ⟨n, rfl, rfl⟩ := hrel
      go_wp2
      go_ret
      exact ⟨rfl, gr_drewN _ (Grown.refl w)⟩
  · obtain ⟨b, off, spot⟩ := x
    unfold maxLen at hm
    have HC := Lib.hid hcell
    have HW := Lib.hid hwz
    have HZ := Lib.hid hz
    clear hcell hwz hz
    have hcap : (cap0 : Int) ≤ 9223372036854775807 := by omega
    have hlc : (len0 : Int) ≤ (cap0 : Int) := by omega
    go_enter Tryd.func4, Tryd.ntmps4
    go_wp2_with (first | (go_at_call 16; (with_reducible refine (two_c _).mono ?_); rintro e w' ⟨r, s, n, rfl, hr, hs, rfl⟩; have q1 := hr.eq' Rep.cH; have q2 := hs.eq' Rep.cL; rw [show feq 4604418534311723008 4604418534311723008 = true by decide +kernel] at q1; rw [show feq 4461442080421002358 4461442080421002358 = true by decide +kernel] at q2))
    go_loopw [5] (fun i wr => ∃ k : Nat, k ≤ len0 ∧ i = .int .i64 k ∧ RowKit.Hid (Grown w wr)) (fun i _ => len0 - (intOf i).toNat)
    case atStart => exact ⟨0, by omega, rfl, Lib.hid (gr_drewN _ (Grown.refl w))⟩
    case round =>
      obtain ⟨k, hk, rfl, HG⟩ := hrel
      have HT1 := Lib.hid (gr_tab HG.out HT.out htab)
      have ht1 : 1 < wr.heap.size := Nat.lt_of_lt_of_le htab HG.out.2.2
      by_cases hlt : k < len0
      · have hc := HC.out k (by rw [HZ.out]; omega)
        have hspot : spot = none := by simpa [Addr.add] using World.cell?_spot (HC.out 0 (by rw [HZ.out]; omega))
        subst hspot
        have hadd : (⟨b, off, none⟩ : Addr).add k = ⟨b, off + k, none⟩ := by cases k <;> simp [Addr.add]
        rw [hadd] at hc
        have hkz : k < z0.length := by rw [HZ.out]; omega
        have hw := HW.out (z0.getD k 0) (by simp [List.getD, hkz])
        obtain ⟨b0, b1⟩ := bounds_u64 hw
        obtain ⟨v, hv⟩ := Int.eq_ofNat_of_zero_le b0
        rw [hv] at hc b1
        have hblt : b < w.heap.size := by
          unfold World.cell? at hc
          cases hb : w.heap[b]? with
          | none => simp only [hb] at hc; cases hc
          | some o => exact (Array.getElem?_eq_some_iff.1 hb).1
        have hc0 : wr.cell? ⟨b, off + k, none⟩ = some (.int .u64 (v : Int)) := by rw [grown_cell HG.out hblt]; exact hc
        have hx : Rep v (nrm v) := ⟨by omega, rfl⟩
        generalize nrm v = f at hx
        clear hc hv b0 b1 hw hadd hkz hblt
        go_wp2_with (first | (go_at_call 17; (with_reducible refine (cosh_c hx _).mono ?_); rintro e w' ⟨r1, n1, rfl, hr1, rfl⟩) | (go_at_call 18; (with_reducible refine (refCosh_c hx _ (tab_drew _ HT1.out) (sz_drew _ ht1)).mono ?_); rintro e w' ⟨r2, rfl, hr2, hg2⟩; have HT2 := Lib.hid (gr_tab hg2 (tab_drew _ HT1.out) (sz_drew _ ht1)); have ht2 := Nat.lt_of_lt_of_le ht1 hg2.2.2; have HG2 := Lib.hid (gr_trans (gr_drewN _ HG.out) hg2); clear hg2) | (go_at_call 19; (with_reducible refine (sinh_c hx _).mono ?_); rintro e w' ⟨r3, n3, rfl, hr3, rfl⟩) | (go_at_call 20; (with_reducible refine (refSinh_c hx _ (tab_drew _ HT2.out) (sz_drew _ ht2)).mono ?_); rintro e w' ⟨r4, rfl, hr4, hg4⟩; have HG4 := Lib.hid (gr_trans (gr_drewN _ HG2.out) hg4); clear hg4) | (go_at_call 12; (with_reducible refine (refSame_c (by assumption) (by assumption) _).mono ?_); rintro e w' ⟨n, rfl, rfl⟩) | (go_at_call 11; go_in))
        go_roundw
        case rel => exact ⟨k + 1, by omega, by go_num, Lib.hid (gr_drewN _ HG4.out)⟩
        case measure => simp [intOf]; omega
      · have hk2 : k = len0 := by omega
        subst hk2
        go_wp2
        go_ret
        exact ⟨rfl, by first | exact HG.out | exact gr_drewN _ HG.out⟩

/-! ### THE ROW's STEP: WRITTEN OUT: LEAVE IT -/
set_option maxRecDepth 100000 in
theorem lifted (os : Os) (started : os.Started) (H : Type) (enc : TypeId × Value → H) :
    ReturnsInHanded {} Tryd.checked os 4 .any (fun w args => (Rows.elemHalvesSpec.pre enc Tryd.prog Tryd.f4 [] false w args ∧ laidMetH Tryd.prog tabL w) ∧ sizedMet enc Tryd.prog Tryd.f4 (OpenSpec.ofChange Rows.elemHalvesSpec) false w args)
      (Rows.elemHalvesSpec.post enc Tryd.prog Tryd.f4 false true false false) := by
  refine returnsInHanded_of_change_and (C := Tryd.checked) (X := fun w _ => laidMetH Tryd.prog tabL w) (fun _ _ _ hh h => h.of_heap hh) own started (by kernel_rfl) Tryd.func4
    (ChangeSpec.witness_shaped (enc := enc) (C := Tryd.checked) (os := os) (X := fun w _ => laidMetH Tryd.prog tabL w) false (World.doorLaid Tryd.prog 400 os) #[.slice none 0 0] 8 rfl (World.shaped_of_RefB (by kernel_rfl) (by kernel_rfl)) (by kernel_rfl) (by kernel_rfl) (by kernel_rfl) (door_met os _)) ?_
  intro W base args ds gs before hval0 hW _ _ hL _
  have hval : ∀ (j : Nat) t v, Tryd.f4.params[j]? = some t → args[j]? = some v → Value.okWide Tryd.prog W .any base t v := hval0
  have hW' := hW
  obtain ⟨p, q, hA0, hV, rfl, hfz, hnd⟩ := hW
  have hA : DataW.TrodAll enc Tryd.prog W 0 (fun _ => true) true Tryd.f4.params.toList args.toList ds p := hA0
  rw [Tryd.params4] at hA hval
  obtain ⟨v0, vs0, d0, ds0, p0, q0, hargs, rfl, rfl, h0, r0⟩ := trodAll_cons hA
  obtain ⟨rfl, rfl, rfl⟩ := trodAll_nil r0
  obtain rfl : args = #[v0] := by cases args; simp_all
  obtain ⟨rfl, rfl⟩ := trodVars_none hV
  obtain ⟨a0, len0, cap0, rfl⟩ := okWide_slice Tryd.underlying22 (hval 0 22 v0 rfl rfl)
  have k0 := h0
  have lt0 : ∀ x ∈ p0, x.block < W.heap.size := by obtain ⟨m, hm⟩ := k0; exact DataW.trod_lt m _ _ _ hm
  obtain ⟨z0, w0⟩ : ∃ zs, IsRow .u64 W a0 len0 cap0 zs := by
    obtain ⟨fuel, hf⟩ := h0
    rcases open_ints Tryd.underlying22 Tryd.underlying26 (by kernel_rfl) hf with ⟨hcs, _⟩ | ⟨x, l, c, zs, hcs, _, hl, hm, hz, _, hcell, hwz⟩
    · simp [Value.cells] at hcs
      obtain ⟨rfl, rfl, rfl⟩ := hcs
      exact ⟨[], .inl ⟨rfl, rfl, rfl, rfl⟩⟩
    · simp [Value.cells] at hcs
      obtain ⟨rfl, rfl, rfl⟩ := hcs
      exact ⟨zs, .inr ⟨_, rfl, hl, hm, by simpa using hz, hcell, hwz⟩⟩
  clear hA0 hval0
  refine (walk a0 len0 cap0 z0 W (tab_of_laid hL).1 (tab_of_laid hL).2 w0).mono fun e W' ⟨he, bel⟩ => ?_
  subst he
  exact ⟨_, rfl, _, _, _, [], _, [], hW', trodAll_mk1 (shut_bool Tryd.underlying4 _), (trodAll_cons_mk (gr_trod laidOut (by kernel_rfl) (of_decide_eq_true (by kernel_rfl)) k0 bel lt0) trodAll_mk0), rfl, bel.frame _, fun h => by cases h⟩

theorem over : Rows.elemHalvesRow.holds Tryd.pinned (OpenSpec.ofChange Rows.elemHalvesSpec) :=
  OpenClaim.holds_of_wide 4 Tryd.f4 rfl rfl rfl rfl rfl rfl rfl ⟨rfl, rfl, rfl, rfl, rfl⟩ rfl rfl rfl rfl rfl (by kernel_rfl) Tryd.func4 (by kernel_rfl)
    (of_decide_eq_true (by kernel_rfl)) (by unfold Func.isWrapper; first | (rw [if_pos (by decide +kernel)]; kernel_rfl) | (rw [if_neg (by decide +kernel)]; exact ⟨rfl, rfl⟩))
    (fun os started H enc _ => lifted os started H enc)

/-- THE STATEMENT: the tied card. -/
theorem proved : Rows.ElemHalvesCardSaid :=
  Claim7.holds_tied_plain_at .later [] [.data] true (true, "0f531a19dc00c1f178bedfda43916f2076cd6e6d4dad4d008c76a110f6f4e0f3") false
    over (fun _ h => by cases h) (by kernel_rfl) (fun _ h => by cases h) elemHalves_row_tie rfl ⟨rfl, rfl⟩ (by kernel_rfl) rfl
    (fun f fn hf hfn => by
      obtain rfl : f = 4 := Option.some.inj ((show Tryd.prog.funcNamed "eddy/eddylaw04.ElemHalves" = some 4 by kernel_rfl).symm.trans hf) |>.symm
      obtain rfl : fn = Tryd.f4 := (Option.some.inj (Tryd.func4.symm.trans hfn)).symm
      exact ⟨by kernel_rfl, fun j t ht => by
        rw [Tryd.params4] at ht
        have hm : t ∈ ([22] : List Nat) := by simpa using Array.mem_of_getElem? ht
        have hall : (([22] : List Nat).all fun u => !Tryd.prog.wantsStandIn u) = true := by kernel_rfl
        exact (show Tryd.prog.wantsStandIn t = false by simpa using List.all_eq_true.1 hall t hm)⟩)
    (by kernel_rfl)
#print axioms proved
end Go.Proofs.YtndknkdfbjfjcaaDoor.elemHalves
