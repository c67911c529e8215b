/- ElemLogs holds: for every input the law returns true and every argument reads as before. No condition. -/
import Derived.Test.YtcbjiegheckomaaRows
import Derived.Test.YtcbjiegheckomaaMore
import Derived.Lib.Hide
import Derived.WalkSmall
import Derived.WalkKit
import Derived.ProofKit
import Derived.OpenShut
import Derived.ShutString
import Derived.ChangeOld
import Derived.Below
namespace Go.Proofs.Ytcbjiegheckomaa.elemLogs
open Go.ChangeShapes Go.WideShapes Go.ChangeAt Go.RowKit
open Go.ChangeMaps (open_string shut_string)
set_option linter.unusedVariables false

theorem own : ownKnob Try.prog.godebug = none := by kernel_rfl
theorem laidOut : laidOutB Try.prog = true := by kernel_rfl

/-- WHAT THE WALK IS TOLD OF A SLICE OF INTEGERS THAT CAME IN: it is nil; or it leads to a row of 'cap' cells, the numbers 'zs' (the first 'len' are its elements, the rest its spare room), each fitting its kind. -/
def IsRow (k : IntKind) (w : World) (a : Option Addr) (len cap : Nat) (zs : List Int) : Prop :=
  (a = none ∧ len = 0 ∧ cap = 0 ∧ zs = []) ∨
  ∃ x, a = some x ∧ len ≤ cap ∧ cap ≤ maxLen ∧ zs.length = cap ∧ (∀ i, i < zs.length → w.cell? (x.add i) = some (.int k (zs.getD i 0))) ∧ ∀ n ∈ zs, (Lit.int k n).wf = true

/-! ### STEP 1: THE WALK: the Go text returns true, AND WRITES NOTHING THAT WAS THERE: 'Below w.heap.size w w'' (Derived/Below.lean: '.refl', '.alloc', '.drew', '.setCell' at a new block, '.trans'). Open each 'IsRow' by 'rcases' AHEAD of 'go_enter'; part every test ahead of the walk. -/
set_option maxHeartbeats 4000000 in
set_option maxRecDepth 100000 in
theorem walk (a0 : Option Addr) (len0 cap0 : Nat) (z0 : List Int) (w : World) (w0 : IsRow .u64 w a0 len0 cap0 z0) :
    Calls Try.prog 3 #[.slice a0 len0 cap0] w fun e w' => e = .returned (.bool true) ∧ Below w.heap.size w w' := by
  have r3 : Rep 4613937818241073152 4613937818241073152 := Rep.self (by decide) (by decide +kernel)
  rcases w0 with ⟨rfl, rfl, rfl, rfl⟩ | ⟨x, rfl, hl, hm, hz, hcell, hwz⟩
  · go_enter Try.func3, Try.ntmps3
    go_wp2_with (first
      | (go_at_call 6; refine (log_c (by assumption) _).mono ?_; rintro e w' ⟨r, n, rfl, hr, rfl⟩))
    go_loopw [4] (fun i wr => ∃ n : Nat, i = .int .i64 0 ∧ wr = w.drewN n) (fun _ _ => 0)
    case atStart => exact ⟨_, rfl, rfl⟩
    case round =>
      obtain ⟨n, rfl, rfl⟩ := hrel
      go_wp2_with (first
        | (go_at_call 9; refine (refLog_c (by assumption) _).mono ?_; rintro e w' ⟨r2, n, rfl, hr2, rfl⟩)
        | (go_at_call 8; refine (refSame_c (by assumption) (by assumption) _).mono ?_; rintro e w' ⟨n, rfl, rfl⟩))
      go_ret
      exact ⟨rfl, below_drewN (Below.refl _ _) _⟩
  · obtain ⟨b, off, spot⟩ := x
    unfold maxLen at hm
    have HC := Lib.hid hcell
    have HW := Lib.hid hwz
    have HZ := Lib.hid hz
    clear hcell hwz hz
    have hcap : (cap0 : Int) ≤ 9223372036854775807 := by omega
    have hlc : (len0 : Int) ≤ (cap0 : Int) := by omega
    go_enter Try.func3, Try.ntmps3
    go_wp2_with (first
      | (go_at_call 6; refine (log_c (by assumption) _).mono ?_; rintro e w' ⟨r, n, rfl, hr, rfl⟩))
    go_loopw [4] (fun i wr => ∃ k n : Nat, k ≤ len0 ∧ i = .int .i64 k ∧ wr = w.drewN n) (fun i _ => len0 - (intOf i).toNat)
    case atStart => exact ⟨0, _, by omega, rfl, rfl⟩
    case round =>
      obtain ⟨k, n, hk, rfl, rfl⟩ := hrel
      by_cases hlt : k < len0
      · have hc := HC.out k (by rw [HZ.out]; omega)
        have hspot : spot = none := by simpa [Addr.add] using World.cell?_spot (HC.out 0 (by rw [HZ.out]; omega))
        subst hspot
        have hadd : (⟨b, off, none⟩ : Addr).add k = ⟨b, off + k, none⟩ := by cases k <;> simp [Addr.add]
        rw [hadd] at hc
        have hkz : k < z0.length := by rw [HZ.out]; omega
        have hw := HW.out (z0.getD k 0) (by simp [List.getD, hkz])
        obtain ⟨b0, b1⟩ := bounds_u64 hw
        obtain ⟨v, hv⟩ := Int.eq_ofNat_of_zero_le b0
        rw [hv] at hc b1
        have hc0 : w.cell? ⟨b, off + k, none⟩ = some (.int .u64 (v : Int)) := hc
        have hx : Rep v (nrm v) := ⟨by omega, rfl⟩
        generalize nrm v = f at hx
        clear hc hv b0 b1 hw hadd hkz
        go_wp2_with (first
          | (go_at_call 6; refine (log_c (by assumption) _).mono ?_; rintro e w' ⟨r1, n, rfl, hr1, rfl⟩)
          | (go_at_call 9; refine (refLog_c (by assumption) _).mono ?_; rintro e w' ⟨r2, n, rfl, hr2, rfl⟩)
          | (go_at_call 10; refine (more_c (by assumption) _).mono ?_; rintro e w' ⟨r3, n, rfl, hr3, rfl⟩)
          | (go_at_call 11; refine (refMore_c (by assumption) _).mono ?_; rintro e w' ⟨r4, n, rfl, hr4, rfl⟩)
          | (go_at_call 8; refine (refSame_c (by assumption) (by assumption) _).mono ?_; rintro e w' ⟨n, rfl, rfl⟩)
          | go_in)
        go_roundw
        case rel => exact ⟨k + 1, _, by omega, by go_num, rfl⟩
        case measure => simp [intOf]; omega
      · have hk2 : k = len0 := by omega
        subst hk2
        go_wp2_with (first
          | (go_at_call 9; refine (refLog_c (by assumption) _).mono ?_; rintro e w' ⟨r2, n, rfl, hr2, rfl⟩)
          | (go_at_call 8; refine (refSame_c (by assumption) (by assumption) _).mono ?_; rintro e w' ⟨n, rfl, rfl⟩))
        go_ret
        exact ⟨rfl, below_drewN (Below.refl _ _) _⟩

/-! ### THE ROW's STEP: WRITTEN OUT: LEAVE IT -/
set_option maxRecDepth 100000 in
theorem lifted (os : Os) (started : os.Started) (H : Type) (enc : TypeId × Value → H) :
    ReturnsInHanded {} Try.checked os 3 .any (Rows.elemLogsSpec.pre6 enc Try.prog Try.f3 Rows.elemLogsRow.domain false) (Rows.elemLogsSpec.post enc Try.prog Try.f3 false true false false) := by
  refine returnsInHanded_of_change (C := Try.checked) own started (by kernel_rfl) Try.func3
    (ChangeSpec.witness6 (enc := enc) (C := Try.checked) false ⟨#[], #[.slice none 0 0], []⟩ 8 (by kernel_rfl) (by kernel_rfl) (by kernel_rfl) (by kernel_rfl)) ?_
  intro W base args ds gs before hval0 hW hcnd _
  have hval : ∀ (j : Nat) t v, Try.f3.params[j]? = some t → args[j]? = some v → Value.okWide Try.prog W .any base t v := hval0
  have hW' := hW
  obtain ⟨p, q, hA0, hV, rfl, hfz, hnd⟩ := hW
  have hA : DataW.TrodAll enc Try.prog W 0 (fun _ => true) true Try.f3.params.toList args.toList ds p := hA0
  rw [Try.params3] at hA hval
  obtain ⟨v0, vs0, d0, ds0, p0, q0, hargs, rfl, rfl, h0, r0⟩ := trodAll_cons hA
  obtain ⟨rfl, rfl, rfl⟩ := trodAll_nil r0
  obtain rfl : args = #[v0] := by cases args; simp_all
  obtain ⟨rfl, rfl⟩ := trodVars_none hV
  obtain ⟨a0, len0, cap0, rfl⟩ := okWide_slice Try.underlying22 (hval 0 22 v0 rfl rfl)
  have k0 := h0
  have lt0 : ∀ x ∈ p0, x.block < W.heap.size := by obtain ⟨m, hm⟩ := k0; exact DataW.trod_lt m _ _ _ hm
  obtain ⟨z0, w0⟩ : ∃ zs, IsRow .u64 W a0 len0 cap0 zs := by
    obtain ⟨fuel, hf⟩ := h0
    rcases open_ints Try.underlying22 Try.underlying26 (by kernel_rfl) hf with ⟨hcs, _⟩ | ⟨x, l, c, zs, hcs, _, hl, hm, hz, _, hcell, hwz⟩
    · simp [Value.cells] at hcs
      obtain ⟨rfl, rfl, rfl⟩ := hcs
      exact ⟨[], .inl ⟨rfl, rfl, rfl, rfl⟩⟩
    · simp [Value.cells] at hcs
      obtain ⟨rfl, rfl, rfl⟩ := hcs
      exact ⟨zs, .inr ⟨_, rfl, hl, hm, by simpa using hz, hcell, hwz⟩⟩
  clear hA0 hval0
  refine (walk a0 len0 cap0 z0 W w0).mono fun e W' ⟨he, bel⟩ => ?_
  subst he
  exact ⟨_, rfl, _, _, _, [], _, [], hW', trodAll_mk1 (shut_bool Try.underlying4 _), (trodAll_cons_mk (Below.trod laidOut (by kernel_rfl) (of_decide_eq_true (by kernel_rfl)) k0 bel lt0) trodAll_mk0), rfl, bel.frame _, fun h => by cases h⟩

theorem over : Rows.elemLogsRow.holds Try.pinned (OpenSpec.ofChange Rows.elemLogsSpec) :=
  OpenClaim.holds_of_wide 3 Try.f3 rfl rfl rfl rfl rfl rfl rfl ⟨rfl, rfl, rfl, rfl, rfl⟩ rfl rfl rfl rfl rfl (by kernel_rfl) Try.func3 (by kernel_rfl)
    (of_decide_eq_true (by kernel_rfl)) (by unfold Func.isWrapper; first | (rw [if_pos (by decide +kernel)]; kernel_rfl) | (rw [if_neg (by decide +kernel)]; exact ⟨rfl, rfl⟩))
    (fun os started H enc _ => lifted os started H enc)

/-- THE STATEMENT -/
theorem proved : Rows.ElemLogsSaid := over
#print axioms proved
end Go.Proofs.Ytcbjiegheckomaa.elemLogs
