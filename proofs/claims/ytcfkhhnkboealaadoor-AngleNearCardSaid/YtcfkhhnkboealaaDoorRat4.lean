/- Whole numbers and fractions: of a number, times a power of two, set; products and quotients. -/
import Derived.Test.YtcfkhhnkboealaaDoorRtz
namespace Go.Proofs.YtcfkhhnkboealaaDoor
open Go.RowKit
set_option linter.unusedVariables false
set_option linter.unusedSimpArgs false
set_option maxRecDepth 100000
set_option maxHeartbeats 4000000
theorem isetn_c {g n : Nat} {b0 : Bool} {v0 : Value} {w : World} (hI : IntC w g b0 v0) (hn : n < 9223372036854775808) :
    Calls Tryd.prog 114 #[.pointer (some ⟨g, 0, none⟩), .int .i64 (n : Int)] w (fun e w' => ∃ w1, Grown w w1 ∧ RetIS g (n : Int) w1 e w') := by
  have HI := Lib.hid hI
  have HS := Lib.hid digs_sm
  have HW := Lib.hid wv_digs
  have hpos : ¬ ((n : Int) < 0) := by omega
  clear hI
  go_enter Tryd.func114, Tryd.ntmps114
  go_wp2_with (first
    | (go_at_call 86; (with_reducible refine (fromUint_c n (by omega) _).mono ?_); rintro e w1 ⟨v1, rfl, hv1, hg1⟩; have HV1 := Lib.hid hv1; have HG1 := Lib.hid hg1; clear hv1 hg1)
    | (go_at_call 87; (with_reducible refine (iset_c (HI.out.grown HG1.out) HV1.out (HS.out _) (HW.out _)).mono ?_); rintro e w2 ⟨v2, rfl, hv2, hi2, hg2, hk2⟩)
    | fail)
  go_ret
  exact ⟨w1, HG1.out, RetI2.to ⟨v2, rfl, hv2, hi2, hg2, hk2⟩ rfl⟩
/-- hands back a new whole number. -/
def RetNI (N : Nat) (w : World) (e : Ending) (w' : World) : Prop := ∃ g v, e = .returned (.pointer (some ⟨g, 0, none⟩)) ∧ IsW w' v (digs N) ∧ IntC w' g false v ∧ Grown w w' ∧ w.heap.size ≤ g
theorem newInt_c {n : Nat} (w : World) (hn : n < 9223372036854775808) : Calls Tryd.prog 102 #[.int .i64 (n : Int)] w (RetNI n w) := by
  have HI := Lib.hid (intNew (Grown.refl w) 66)
  go_enter Tryd.func102, Tryd.ntmps102
  go_wp2_with (first
    | (go_at_call 114; (with_reducible refine (isetn_c HI.out hn).mono ?_); rintro e w2 ⟨w1, hg1, v2, rfl, hv2, hi2, hg2, hk2⟩)
    | fail)
  go_ret
  have hb : decide (((n : Int)) < 0) = false := decide_eq_false (by omega)
  rw [hb] at hi2
  rw [Int.natAbs_natCast] at hv2
  exact ⟨_, v2, rfl, hv2, hi2, hg2.grown (gr_trans ((Grown.refl w).alloc _ _) hg1) (Nat.le_refl _), Nat.le_refl _⟩
end Go.Proofs.YtcfkhhnkboealaaDoor
