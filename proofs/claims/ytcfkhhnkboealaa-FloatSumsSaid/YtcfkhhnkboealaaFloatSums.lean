/- FloatSums holds: for every input the law returns true and every argument reads as before. No condition. -/
import Derived.Test.YtcfkhhnkboealaaRows
import Derived.Test.YtcfkhhnkboealaaFSu
import Derived.WalkKit
import Derived.SizedLaws
import Derived.ProofKit
import Derived.OpenShut
import Derived.ShutString
import Derived.ChangeOld
import Derived.Below
namespace Go.Proofs.Ytcfkhhnkboealaa.floatSums
open Go.ChangeShapes Go.WideShapes Go.ChangeAt Go.RowKit
open Go.ChangeMaps (open_string shut_string)
set_option linter.unusedVariables false

theorem own : ownKnob Try.prog.godebug = none := by kernel_rfl
theorem laidOut : laidOutB Try.prog = true := by kernel_rfl

/-- WHAT THE WALK IS TOLD OF A SLICE OF INTEGERS THAT CAME IN: it is nil; or it leads to a row of 'cap' cells, the numbers 'zs' (the first 'len' are its elements, the rest its spare room), each fitting its kind. -/
def IsRow (k : IntKind) (w : World) (a : Option Addr) (len cap : Nat) (zs : List Int) : Prop :=
  (a = none ∧ len = 0 ∧ cap = 0 ∧ zs = []) ∨
  ∃ x, a = some x ∧ len ≤ cap ∧ cap ≤ maxLen ∧ zs.length = cap ∧ (∀ i, i < zs.length → w.cell? (x.add i) = some (.int k (zs.getD i 0))) ∧ ∀ n ∈ zs, (Lit.int k n).wf = true

/-! ### STEP 1: THE WALK: the Go text returns true, AND WRITES NOTHING THAT WAS THERE: 'GrW w w'' (Derived/Below.lean: '.refl', '.alloc', '.drew', '.setCell' at a new block, '.trans'). Open each 'IsRow' by 'rcases' AHEAD of 'go_enter'; part every test ahead of the walk. -/
set_option maxHeartbeats 4000000 in
set_option maxRecDepth 100000 in
theorem walk (a0 : Option Addr) (len0 cap0 : Nat) (z0 : List Int) (a1 : Int) (a2 : Int) (w : World) (hbulk : cap0 * 8 ≤ reachBytes) (w0 : IsRow .u64 w a0 len0 cap0 z0) (w1 : (Lit.int .u64 a1).wf = true) (w2 : (Lit.int .u64 a2).wf = true) :
    Calls Try.prog 3 #[.slice a0 len0 cap0, .int .u64 a1, .int .u64 a2] w fun e w' => e = .returned (.bool true) ∧ GrW w w' := by
  obtain ⟨B0, hB0⟩ : ∃ B : Nat → Nat, ∀ j, B j = (z0.getD j 0).toNat := ⟨_, fun _ => rfl⟩
  have hlc : len0 ≤ cap0 := by rcases w0 with ⟨_, rfl, rfl, _⟩ | ⟨_, _, h, _⟩ <;> omega
  have hB : (∀ j, j < len0 → ∃ b off, a0 = some ⟨b, off, none⟩ ∧ b < w.heap.size ∧ w.cell? ⟨b, off + j, none⟩ = some (.int .u64 ((B0 j : Nat) : Int))) ∧ ∀ j, j < len0 → B0 j < 18446744073709551616 := by
    rcases w0 with ⟨_, rfl, rfl, _⟩ | ⟨⟨b, off, sp⟩, rfl, hl, hm, hz, hcell, hwf⟩
    · exact ⟨fun j h => absurd h (by omega), fun j h => absurd h (by omega)⟩
    · have key : ∀ j, j < len0 → z0.getD j 0 = ((B0 j : Nat) : Int) ∧ B0 j < 18446744073709551616 := by
        intro j hj
        have hm : z0.getD j 0 ∈ z0 := by
          have : j < z0.length := by omega
          rw [List.getD_eq_getElem?_getD, List.getElem?_eq_getElem this]; simp
        obtain ⟨h1, h2⟩ := bounds_u64 (hwf _ hm)
        rw [hB0]
        omega
      refine ⟨fun j hj => ?_, fun j hj => (key j hj).2⟩
      have hc := hcell j (by omega)
      have hc0 := hcell 0 (by omega)
      have hsp : sp = none := by
        cases sp with
        | none => rfl
        | some s => exfalso; simp [Addr.add, cell_spot] at hc0
      subst hsp
      have hc2 : w.cell? ⟨b, off + j, none⟩ = some (.int .u64 (z0.getD j 0)) := by cases j <;> simpa [Addr.add] using hc
      refine ⟨b, off, rfl, World.block_lt_of_cell? w _ hc2, by rw [hc2, (key j hj).1]⟩
  clear w0 hB0
  have hrb : cap0 * 8 ≤ 140737488351232 := hbulk
  clear hbulk
  obtain ⟨b1, b2⟩ := bounds_u64 w1
  obtain ⟨x, rfl⟩ := Int.eq_ofNat_of_zero_le b1
  obtain ⟨c1, c2⟩ := bounds_u64 w2
  obtain ⟨y, rfl⟩ := Int.eq_ofNat_of_zero_le c1
  have hx : Rep x (nrm x) := ⟨by omega, rfl⟩
  have hy : Rep y (nrm y) := ⟨by omega, rfl⟩
  generalize nrm x = f at hx
  generalize nrm y = g at hy
  clear w1 w2 b1 b2 c1 c2
  have HB := Lib.hid hB
  clear hB
  obtain ⟨i0, hi, hz0, hz1, hz2⟩ := infoF64'
  go_enter Try.func3, Try.ntmps3
  go_wp2
  go_loopw [7, 8] (fun n7 n8 wr => ∃ k : Nat, n8 = .int .i64 k ∧ k ≤ len0 ∧ wr.ownsRow w.heap.size 25 1 n7 k (flts B0 k) ∧ GrW w wr) (fun _ n8 _ => len0 - (intOf n8).toNat)
  case atStart => exact ⟨0, rfl, Nat.zero_le _, World.ownsRow_nil _ _ _ _, GrW.refl _⟩
  case round =>
    obtain ⟨k, rfl, hk, hown, hg⟩ := hrel
    by_cases hlt : k < len0
    · obtain ⟨b, off, e, hb, hc⟩ := HB.out.1 k hlt
      subst e
      rw [← hg.cell (a := ⟨b, off + k, none⟩) hb] at hc
      have HO := Lib.hid hown
      have HG := Lib.hid hg
      have hsz := hg.size
      obtain ⟨q, hq⟩ : ∃ q, B0 k = q := ⟨_, rfl⟩
      rw [hq] at hc
      have HQ := Lib.hid hq
      have hqb : q < 18446744073709551616 := by rw [← hq]; exact HB.out.2 k hlt
      clear hown hg hq
      go_wp2_with (first
        | (go_at_call 11; (with_reducible refine (fb_c q _).mono ?_); rintro e w' ⟨rfl, rfl⟩)
        | (at_builtin; refine wpList_append_own _ rfl (.tmp 22) (.tmp 28) 24 rfl w.heap.size 25 i0 (.float .f64 0) 1 8 Try.underlying24 hi hz0 hz1 hz2 rfl (by decide) _ k (flts B0 k) rfl (HO.out.alloc _) _ 1 1 [.float .f64 q] rfl rfl (cell_one_new _ _ _) (by intro u hu; simp at hu; subst hu; rfl) (by unfold maxLen; omega) (by omega) (by rw [size_alloc]; omega) ?_; intro v1 w1 hown1 hgrow1 hnil1; have HO1 := Lib.hid hown1; have HG1 := Lib.hid ((HG.out.alloc _).by hgrow1 (fun j hj => (HO.out.lt j hj).1)); clear hown1 hgrow1 hnil1)
        | fail)
      go_roundw
      case rel => exact ⟨k + 1, by go_num, by omega, by rw [flts_succ, HQ.out]; exact HO1.out, HG1.out⟩
      case measure => simp [intOf]; omega
    · have hk2 : k = len0 := by omega
      subst hk2
      have HG := Lib.hid hg
      have hsz := hg.size
      have HO := Lib.hid hown
      rcases own_row hown with ⟨rfl, hz⟩ | ⟨g1, cp1, rfl, hg1, hg2, hg3, hg4, hcl⟩
      · subst hz
        clear hown hg
        go_upto_region 7 with (first
          | (at_builtin; refine wpList_append_own _ rfl (.tmp 31) (.tmp 32) 24 rfl wr.heap.size 25 i0 (.float .f64 0) 1 8 Try.underlying24 hi hz0 hz1 hz2 rfl (by decide) (.slice none 0 0) 0 [] rfl (World.ownsRow_nil _ _ _ _) _ 1 1 [.float .f64 4635118810238550016] rfl rfl (cell_one_new _ _ _) (by intro u hu; simp at hu; subst hu; rfl) (by unfold maxLen; omega) (by omega) (by rw [size_alloc]; omega) ?_; intro v2 W2 hown2 hgrow2 hnil2; have HO2 := Lib.hid hown2; have HGR2 := Lib.hid hgrow2; clear hown2 hgrow2 hnil2)
          | fail)
        have hO2 := HO2.out
        simp only [Nat.zero_add, List.nil_append] at hO2
        have GW := Lib.hid ((HG.out.alloc (.cells #[.float .f64 4635118810238550016] 25)).by HGR2.out (fun j hj => by cases hj))
        rcases own_row hO2 with ⟨_, hz⟩ | ⟨g3, cp3, rfl, hh1, hh2, hh3, hh4, hc3⟩
        · omega
        have c77 : W2.cell? ⟨g3, 0, none⟩ = some (.float .f64 4635118810238550016) := hc3 0 _ rfl
        have hmx3 : (cp3 : Int) ≤ 9223372036854775807 := by unfold maxLen at hh4; omega
        clear hc3 hO2 HO2 HGR2 HG
        have hS : sumF ((List.range 0).map fun j => nrm (B0 j)) = 0 := rfl
        go_upto_region 8 with (first
          | (go_at_call 12; (with_reducible refine (sum_nil _ cp3 _).mono ?_); rintro e w' ⟨s1, n1, rfl, hs1, rfl⟩)
          | fail)
        generalize eW : W2.drewN _ = W3
        have GW3 : RowKit.Hid (GrW w W3) := Lib.hid (by rw [← eW]; exact GW.out.drewN _)
        have C77 : RowKit.Hid (W3.cell? ⟨g3, 0, none⟩ = some (.float .f64 4635118810238550016) ∧ g3 < W3.heap.size) := Lib.hid (by
          rw [← eW]; exact ⟨c77, hh2⟩)
        clear eW c77
        go_wp2_with fail
        go_loopw [11] (fun n11 wq => ∃ d : Nat, n11 = .int .i64 0 ∧ wq = W3.drewN d) (fun n11 _ => 0)
        case atStart => exact ⟨0, rfl, rfl⟩
        case round =>
          obtain ⟨d, rfl, rfl⟩ := hrel
          have C7 := Lib.hid C77.out.1
          have HF := Lib.hid C77.out.2
          have k77 := (Rep.self (f := 4635118810238550016) (by decide) (by decide +kernel)).eq' (Rep.self (f := 4635118810238550016) (by decide) (by decide +kernel))
          rw [feq_self, show (!isN 4635118810238550016) = true by decide +kernel] at k77
          go_wp2_with (first
            | (go_at_call_of 11 (Value.int IntKind.u64 (x : Int)); (with_reducible refine (fb_c x _).mono ?_); rintro e w' ⟨rfl, e1⟩; subst e1)
            | (go_at_call_of 11 (Value.int IntKind.u64 (y : Int)); (with_reducible refine (fb_c y _).mono ?_); rintro e w' ⟨rfl, e1⟩; subst e1)
            | (go_at_call 14; (with_reducible refine (exact_c hx hy _).mono ?_); rintro e w' ⟨r1, t1, n, rfl, hr1, ht1, rfl⟩)
            | (go_at_call 15; (with_reducible refine (refExact_c hx hy _).mono ?_); rintro e W4 ⟨r2, t2, rfl, hr2, ht2, hg4⟩; have HG4 := Lib.hid (gr_trans (gr_drewN _ (Grown.refl W3)) hg4); have c7 := (grown_cell HG4.out HF.out).trans C7.out; clear hg4)
            | (go_at_call 16; (with_reducible refine (refSum_nil _ _ _).mono ?_); rintro e w' ⟨s2, n2, rfl, hs2, rfl⟩)
            | (go_at_call 13; (with_reducible refine (refSame_c (by assumption) (by assumption) _).mono ?_); (try rw [beq_self_eq_true]); rintro e w' ⟨n, rfl, rfl⟩)
            | fail)
          go_ret
          exact ⟨rfl, (GW3.out.trans (GrW.of HG4.out)).drewN _⟩
      · have HCL := Lib.hid hcl
        have hmx : (cp1 : Int) ≤ 9223372036854775807 := by unfold maxLen at hg4; omega
        have k0 : 0 < k ∨ k = 0 := by omega
        clear hcl hown hg
        go_upto_region 7 with (first
          | (at_builtin; refine wpList_append_own _ rfl (.const (.slice none 0 0)) (.tmp 30) 24 rfl wr.heap.size 25 i0 (.float .f64 0) 1 8 Try.underlying24 hi hz0 hz1 hz2 rfl (by decide) _ 0 [] rfl (World.ownsRow_nil _ _ _ _) ⟨g1, 0, none⟩ k cp1 (flts B0 k) rfl (by unfold flts; simp) (by intro j u hj; have := HCL.out j u hj; cases j <;> simpa [Addr.add] using this) (by intro u hu; unfold flts at hu; simp at hu; obtain ⟨_, _, rfl⟩ := hu; rfl) (by unfold maxLen; omega) (by omega) (Nat.le_refl _) ?_; intro v1 W1 hown1 hgrow1 hnil1; have HO1 := Lib.hid hown1; have HGR1 := Lib.hid hgrow1; clear hown1 hgrow1 hnil1)
          | (at_builtin; refine wpList_append_own _ rfl (.tmp 31) (.tmp 32) 24 rfl wr.heap.size 25 i0 (.float .f64 0) 1 8 Try.underlying24 hi hz0 hz1 hz2 rfl (by decide) v1 (0 + k) _ rfl (HO1.out.alloc _) _ 1 1 [.float .f64 4635118810238550016] rfl rfl (cell_one_new _ _ _) (by intro u hu; simp at hu; subst hu; rfl) (by unfold maxLen; omega) (by omega) (by rw [size_alloc]; have := HGR1.out.size; omega) ?_; intro v2 W2 hown2 hgrow2 hnil2; have HO2 := Lib.hid hown2; have HGR2 := Lib.hid hgrow2; clear hown2 hgrow2 hnil2)
          | fail)
        have hO2 := HO2.out
        simp only [Nat.zero_add, List.nil_append] at hO2
        have GW := Lib.hid (((HG.out.by HGR1.out (fun j hj => by cases hj)).alloc (.cells #[.float .f64 4635118810238550016] 25)).by HGR2.out (fun j hj => Nat.le_trans hsz (HO1.out.lt j hj).1))
        have hgle : wr.heap.size ≤ W2.heap.size := by
          have a1 := HGR1.out.size
          have a2 := HGR2.out.size
          rw [size_alloc] at a2
          omega
        have HL2 : RowKit.Hid (∀ j, j < k → W2.cell? ⟨g1, j, none⟩ = some (.float .f64 (B0 j))) := Lib.hid (by
          intro j hj
          have h1 := HCL.out j _ (flts_get B0 hj)
          have h2 := HGR1.out.cell h1 (by intro h; cases h)
          have h3 : (W1.alloc (.cells #[.float .f64 4635118810238550016] 25)).cell? ⟨g1, j, none⟩ = some (.float .f64 (B0 j)) := by
            rw [World.cell?_alloc_lt _ _ _ (by have := HGR1.out.size; show g1 < _; omega)]; exact h2
          exact HGR2.out.cell h3 (by
            intro h
            have := (HO1.out.lt g1 h.symm).1
            omega))
        rcases own_row hO2 with ⟨_, hz⟩ | ⟨g3, cp3, rfl, hh1, hh2, hh3, hh4, hc3⟩
        · omega
        have HOw : RowKit.Hid (∀ j, j < k → W2.cell? ⟨g3, j, none⟩ = some (.float .f64 (B0 j))) := Lib.hid (fun j hj => hc3 j _ (by rw [List.getElem?_append_left (by unfold flts; simp; exact hj)]; exact flts_get B0 hj))
        have c77 : W2.cell? ⟨g3, k, none⟩ = some (.float .f64 4635118810238550016) := hc3 k _ (by
          have e : (flts B0 k).length = k := by unfold flts; simp
          rw [List.getElem?_append_right (by omega), e, Nat.sub_self]; rfl)
        have hmx3 : (cp3 : Int) ≤ 9223372036854775807 := by unfold maxLen at hh4; omega
        have HMX3 := Lib.hid hmx3
        have HMX := Lib.hid hmx
        clear hc3 hO2 HO2 HO1 HGR1 HGR2 HCL HO HG
        obtain ⟨S, hS⟩ : ∃ S, sumF ((List.range k).map fun j => nrm (B0 j)) = S := ⟨_, rfl⟩
        have HSUM := Lib.hid hS
        clear hS
        have hk3 : (k : Int) ≤ (cp3 : Int) := by omega
        go_upto_region 8 with (first
          | (go_at_call 12; (with_reducible refine (sumR_c g3 k cp3 B0 _ (by omega) (by omega) HB.out.2 HOw.out).mono ?_); rw [HSUM.out]; rintro e w' ⟨s1, n1, rfl, hs1, rfl⟩)
          | fail)
        generalize eW : W2.drewN _ = W3
        have GW3 : RowKit.Hid (GrW w W3) := Lib.hid (by rw [← eW]; exact GW.out.drewN _)
        have HL3 : RowKit.Hid (∀ j, j < k → W3.cell? ⟨g1, j, none⟩ = some (.float .f64 (B0 j))) := Lib.hid (by rw [← eW]; exact HL2.out)
        have HO3 : RowKit.Hid (∀ j, j < k → W3.cell? ⟨g3, j, none⟩ = some (.float .f64 (B0 j))) := Lib.hid (by rw [← eW]; exact HOw.out)
        have C77 : RowKit.Hid (W3.cell? ⟨g3, k, none⟩ = some (.float .f64 4635118810238550016) ∧ g3 < W3.heap.size ∧ g1 < W3.heap.size) := Lib.hid (by
          rw [← eW]; exact ⟨c77, hh2, Nat.lt_of_lt_of_le hg2 hgle⟩)
        clear eW HL2 HOw c77
        go_wp2_with fail
        go_loopw [11] (fun n11 wq => ∃ i d : Nat, n11 = .int .i64 i ∧ i ≤ k ∧ wq = W3.drewN d) (fun n11 _ => k - (intOf n11).toNat)
        case atStart => exact ⟨0, 0, rfl, Nat.zero_le _, rfl⟩
        case round =>
          obtain ⟨i, d, rfl, hi2, rfl⟩ := hrel
          by_cases hik : i < k
          · have l1 := HL3.out i hik
            have l2 := HO3.out i hik
            have hr : Rep (B0 i) (nrm (B0 i)) := ⟨HB.out.2 i hik, rfl⟩
            have l1' : (W3.drewN d).cell? ⟨g1, i, none⟩ = some (.float .f64 (B0 i)) := l1
            have l2' : (W3.drewN d).cell? ⟨g3, i, none⟩ = some (.float .f64 (B0 i)) := l2
            have HRR := Lib.hid hr
            have j0 : (0 : Int) ≤ (i : Int) := by omega
            have j1 : (i : Int) < (k : Int) + 1 := by omega
            have j2 : (i : Int) < (k : Int) := by omega
            have j3 : (i : Int) ≤ (k : Int) := by omega
            go_wp2_with fail
            go_region_held3 (fun w' => w'.cell? ⟨g1, i, none⟩ = some (.float .f64 (B0 i)) ∧ w'.cell? ⟨g3, i, none⟩ = some (.float .f64 (B0 i))) (first | exact ⟨by assumption, by assumption⟩ | go_keep) (first
              | (go_at_call 13; (with_reducible refine (refSame_c HRR.out HRR.out _).mono ?_); rw [beq_self_eq_true]; rintro e w' ⟨n, rfl, rfl⟩)
              | fail)
            go_wp2_with fail
            go_roundw
            case rel => exact ⟨i + 1, _, by go_num, by omega, by first | rfl | (rw [World.drewN_drewN])⟩
            case measure => simp [intOf]; omega
          · have hi3 : i = k := by omega
            subst hi3
            have C7 := Lib.hid C77.out.1
            have HF := Lib.hid (And.intro C77.out.2.1 C77.out.2.2)
            have k77 := (Rep.self (f := 4635118810238550016) (by decide) (by decide +kernel)).eq' (Rep.self (f := 4635118810238550016) (by decide) (by decide +kernel))
            rw [feq_self, show (!isN 4635118810238550016) = true by decide +kernel] at k77
            go_wp2_with (first
              | (go_at_call_of 11 (Value.int IntKind.u64 (x : Int)); (with_reducible refine (fb_c x _).mono ?_); rintro e w' ⟨rfl, e1⟩; subst e1)
              | (go_at_call_of 11 (Value.int IntKind.u64 (y : Int)); (with_reducible refine (fb_c y _).mono ?_); rintro e w' ⟨rfl, e1⟩; subst e1)
              | (go_at_call 14; (with_reducible refine (exact_c hx hy _).mono ?_); rintro e w' ⟨r1, t1, n, rfl, hr1, ht1, rfl⟩)
              | (go_at_call 15; (with_reducible refine (refExact_c hx hy _).mono ?_); rintro e W4 ⟨r2, t2, rfl, hr2, ht2, hg4⟩; have HG4 := Lib.hid (gr_trans (gr_drewN _ (Grown.refl W3)) hg4); have c7 := (grown_cell HG4.out HF.out.1).trans C7.out; clear hg4)
              | (go_at_call 16; (with_reducible refine (refSumR_c g1 i cp1 B0 _ (by omega) (by omega) HB.out.2 (fun j hj => (grown_cell (gr_trans HG4.out (by first | exact Grown.refl _ | exact gr_drewN _ (Grown.refl _))) HF.out.2).trans (HL3.out j hj))).mono ?_); rw [HSUM.out]; rintro e w' ⟨s2, n2, rfl, hs2, rfl⟩)
              | (go_at_call 13; (with_reducible refine (refSame_c (by assumption) (by assumption) _).mono ?_); (try rw [beq_self_eq_true]); rintro e w' ⟨n, rfl, rfl⟩)
              | fail)
            go_ret
            exact ⟨rfl, (GW3.out.trans (GrW.of HG4.out)).drewN _⟩

/-! ### THE ROW's STEP: WRITTEN OUT: LEAVE IT -/
set_option maxRecDepth 100000 in
theorem lifted (os : Os) (started : os.Started) (H : Type) (enc : TypeId × Value → H) :
    ReturnsInHanded {} Try.checked os 3 .any (Rows.floatSumsSpec.pre6 enc Try.prog Try.f3 Rows.floatSumsRow.domain false) (Rows.floatSumsSpec.post enc Try.prog Try.f3 false true false false) := by
  refine returnsInHanded_of_change_sized (C := Try.checked) own started (by kernel_rfl) Try.func3
    (ChangeSpec.witness6 (enc := enc) (C := Try.checked) false ⟨#[], #[.slice none 0 0, .int .u64 0, .int .u64 0], []⟩ 8 (by kernel_rfl) (by kernel_rfl) (by kernel_rfl) (by kernel_rfl)) ?_
  intro W base args ds gs before hval0 hW hcnd hsz _
  have hval : ∀ (j : Nat) t v, Try.f3.params[j]? = some t → args[j]? = some v → Value.okWide Try.prog W .any base t v := hval0
  have hW' := hW
  obtain ⟨p, q, hA0, hV, rfl, hfz, hnd⟩ := hW
  have hA : DataW.TrodAll enc Try.prog W 0 (fun _ => true) true Try.f3.params.toList args.toList ds p := hA0
  rw [Try.params3] at hA hval
  obtain ⟨v0, vs0, d0, ds0, p0, q0, hargs, rfl, rfl, h0, r0⟩ := trodAll_cons hA
  obtain ⟨v1, vs1, d1, ds1, p1, q1, rfl, rfl, rfl, h1, r1⟩ := trodAll_cons r0
  obtain ⟨v2, vs2, d2, ds2, p2, q2, rfl, rfl, rfl, h2, r2⟩ := trodAll_cons r1
  obtain ⟨rfl, rfl, rfl⟩ := trodAll_nil r2
  obtain rfl : args = #[v0, v1, v2] := by cases args; simp_all
  obtain ⟨rfl, rfl⟩ := trodVars_none hV
  obtain ⟨a0, len0, cap0, rfl⟩ := okWide_slice Try.underlying22 (hval 0 22 v0 rfl rfl)
  have k0 := h0
  have lt0 : ∀ x ∈ p0, x.block < W.heap.size := by obtain ⟨m, hm⟩ := k0; exact DataW.trod_lt m _ _ _ hm
  obtain ⟨z0, w0, s0⟩ : ∃ zs, IsRow .u64 W a0 len0 cap0 zs ∧ cap0 * 8 ≤ reachBytes := by
    obtain ⟨fuel, hf⟩ := h0
    rcases open_ints Try.underlying22 Try.underlying23 (by kernel_rfl) hf with ⟨hcs, _⟩ | ⟨x, l, c, zs, hcs, _, hl, hm, hz, hx, hcell, hwz⟩
    · simp [Value.cells] at hcs
      obtain ⟨rfl, rfl, rfl⟩ := hcs
      exact ⟨[], .inl ⟨rfl, rfl, rfl, rfl⟩, by decide⟩
    · simp [Value.cells] at hcs
      obtain ⟨rfl, rfl, rfl⟩ := hcs
      have hx1 := congrArg Prod.fst hx
      simp only at hx1
      subst hx1
      have hb := sized_slice hsz (j := 0) (t := 22) (e := 23) rfl rfl Try.underlying22
      have hb8 : Try.checked.prog.bytesOf 23 = 8 := by kernel_rfl
      rw [hb8] at hb
      have hz2 : zs.length = cap0 := by simpa using hz
      refine ⟨zs, .inr ⟨_, rfl, hl, hm, hz2, hcell, hwz⟩, ?_⟩
      simp [lits] at hb
      omega
  obtain ⟨a1, rfl, rfl, rfl, w1⟩ := open_int Try.underlying23 (hval 1 23 v1 rfl rfl) h1
  obtain ⟨a2, rfl, rfl, rfl, w2⟩ := open_int Try.underlying23 (hval 2 23 v2 rfl rfl) h2
  clear hA0 hval0
  refine (walk a0 len0 cap0 z0 a1 a2 W s0 w0 w1 w2).mono fun e W' ⟨he, bel⟩ => ?_
  subst he
  exact ⟨_, rfl, _, _, _, [], _, [], hW', trodAll_mk1 (shut_bool Try.underlying4 _), (trodAll_cons_mk (grw_trod laidOut (by kernel_rfl) (of_decide_eq_true (by kernel_rfl)) k0 bel lt0) (trodAll_cons_mk (shut_int Try.underlying23 w1) (trodAll_cons_mk (shut_int Try.underlying23 w2) trodAll_mk0))), rfl, GrW.frame bel _, fun h => by cases h⟩

theorem over : Rows.floatSumsRow.holds Try.pinned (OpenSpec.ofChange Rows.floatSumsSpec) :=
  OpenClaim.holds_of_wide 3 Try.f3 rfl rfl rfl rfl rfl rfl rfl ⟨rfl, rfl, rfl, rfl, rfl⟩ rfl rfl rfl rfl rfl (by kernel_rfl) Try.func3 (by kernel_rfl)
    (of_decide_eq_true (by kernel_rfl)) (by unfold Func.isWrapper; first | (rw [if_pos (by decide +kernel)]; kernel_rfl) | (rw [if_neg (by decide +kernel)]; exact ⟨rfl, rfl⟩))
    (fun os started H enc _ => lifted os started H enc)

/-- THE STATEMENT -/
theorem proved : Rows.FloatSumsSaid := over
#print axioms proved
end Go.Proofs.Ytcfkhhnkboealaa.floatSums
