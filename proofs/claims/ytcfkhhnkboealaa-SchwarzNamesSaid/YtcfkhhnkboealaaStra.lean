/- What the sum of floats in a slice comes to. No condition. The law's own check on a few closed examples answers true. No condition. Whether a float is finite, as the laws ask it. No condition. The steps up and down of a float, plainly: the next bits. No condition. What the law of stairs asks of the steps, plainly. No condition. Sums, differences and products of finite floats: the exact worth, rounded once. No condition. With all signs turned the answers of the plain functions are turned, too. No condition. Sums of opposite floats are opposite, noughts' signs aside. No condition. -/
import Derived.Test.YtcfkhhnkboealaaMida
import Derived.Test.YtcfkhhnkboealaaFla
namespace Go.Proofs.Ytcfkhhnkboealaa
open Go.RowKit
set_option linter.unusedVariables false
set_option maxRecDepth 100000

def sumF : List Nat → Nat
  | [] => 0
  | f :: l => l.foldl fadd f
theorem sumF_take (fs : List Nat) (k : Nat) (hk : k + 1 < fs.length) : sumF (fs.take (k + 2)) = fadd (sumF (fs.take (k + 1))) (fs.getD (k + 1) 0) := by
  cases fs with
  | nil => simp at hk
  | cons f l =>
    simp only [List.take_succ_cons, sumF]
    have hk' : k < l.length := by simpa using hk
    rw [List.take_succ_eq_append_getElem hk', List.foldl_append]
    simp [List.getD, hk']
theorem sumF_one (fs : List Nat) (h : 0 < fs.length) : sumF (fs.take 1) = fs.getD 0 0 := by
  cases fs with
  | nil => simp at h
  | cons f l => rfl
theorem sum_nil (a : Option Addr) (cap : Nat) (w : World) : Calls Try.prog 12 #[.slice a 0 cap] w (RetF 0 w) := by
  go_enter Try.func12, Try.ntmps12
  go_wp2
  go_ret
  exact RetF.mk0 Rep.c0

theorem sum_c (b off len cap : Nat) (xs fs : List Nat) (w : World) (h1 : 0 < len) (hcap : len ≤ cap) (hbig : cap ≤ 9223372036854775807) (hf : fs.length = len)
    (hc : ∀ j, j < len → w.cell? ⟨b, off + j, none⟩ = some (.float .f64 (xs.getD j 0))) (hr : ∀ j, j < len → Rep (xs.getD j 0) (fs.getD j 0)) :
    Calls Try.prog 12 #[.slice (some ⟨b, off, none⟩) len cap] w (RetF (sumF fs) w) := by
  have c0 := hc 0 h1
  rw [Nat.add_zero] at c0
  have h0 : ((len : Int) == 0) = false := by simp; omega
  have hlen : (0 : Int) < (len : Int) := by omega
  have hcap' : (1 : Int) ≤ (cap : Int) := by omega
  have hl1 : (1 : Int) ≤ (len : Int) := by omega
  have HC := Lib.hid hc
  have HR := Lib.hid hr
  have HF := Lib.hid hf
  clear hc hr hf
  by_cases h2 : cap = 1
  · have h3 : len = 1 := by omega
    subst h2
    subst h3
    go_enter Try.func12, Try.ntmps12
    go_wp2
    go_loopw [3, 15] (fun s i wr => ∃ k n r : Nat, k + 1 ≤ 1 ∧ i = .int .i64 k ∧ s = .float .f64 r ∧ Rep r (sumF (fs.take (k + 1))) ∧ wr = w.drewN n) (fun _ i _ => 1 - (intOf i).toNat)
    case atStart => exact ⟨0, 0, _, by omega, rfl, rfl, by rw [sumF_one fs (by rw [HF.out]; omega)]; simpa [List.getD] using HR.out 0 (by omega), rfl⟩
    case round =>
      obtain ⟨k, n, r, hk, rfl, rfl, hrep, rfl⟩ := hrel
      by_cases hlt : k + 1 < 1
      · omega
      · have hk1 : k + 1 = 1 := by omega
        have HK := Lib.hid hk1
        clear hk1
        go_wp2
        go_ret
        have e : fs.take (k + 1) = fs := by rw [HK.out, ← HF.out]; exact List.take_length
        rw [e] at hrep
        exact RetF.mk _ hrep
  · have hcap2 : (1 : Int) < (cap : Int) := by omega
    go_enter Try.func12, Try.ntmps12
    go_wp2
    go_loopw [3, 15] (fun s i wr => ∃ k n r : Nat, k + 1 ≤ len ∧ i = .int .i64 k ∧ s = .float .f64 r ∧ Rep r (sumF (fs.take (k + 1))) ∧ wr = w.drewN n) (fun _ i _ => len - (intOf i).toNat)
    case atStart => exact ⟨0, 0, _, by omega, rfl, rfl, by rw [sumF_one fs (by rw [HF.out]; omega)]; simpa [List.getD] using HR.out 0 (by omega), rfl⟩
    case round =>
      obtain ⟨k, n, r, hk, rfl, rfl, hrep, rfl⟩ := hrel
      by_cases hlt : k + 1 < len
      · have hcell := HC.out (k + 1) hlt
        have ea : off + (k + 1) = off + 1 + k := by omega
        rw [ea] at hcell
        have hstep := Lib.hid (sumF_take fs k (by rw [HF.out]; exact hlt))
        have hx := Lib.hid (HR.out (k + 1) hlt)
        clear ea
        go_wp2
        go_roundw
        case rel => exact ⟨k + 1, _, _, by omega, by go_num, rfl, by rw [hstep.out]; simpa [List.getD] using hrep.add hx.out, rfl⟩
        case measure => simp [intOf]; omega
      · have hk1 : k + 1 = len := by omega
        have HK := Lib.hid hk1
        clear hk1
        go_wp2
        go_ret
        have e : fs.take (k + 1) = fs := by rw [HK.out, ← HF.out]; exact List.take_length
        rw [e] at hrep
        exact RetF.mk _ hrep
end Go.Proofs.Ytcfkhhnkboealaa
namespace Go.Proofs.Ytcfkhhnkboealaa
open Go.RowKit
set_option linter.unusedVariables false
set_option maxRecDepth 100000
theorem grown_drewN' {w w' : World} (n : Nat) (h : Grown w w') : Grown w (w'.drewN n) := h
theorem alive_c (w : World) : Calls Try.prog 19 #[] w fun e w' => e = .returned (.bool true) ∧ Grown w w' := by
  have r1 : Rep 4607182418800017408 4607182418800017408 := Rep.self (by decide) (by decide +kernel)
  have r2 : Rep 4845873199050653696 4845873199050653696 := Rep.self (by decide) (by decide +kernel)
  have r3 : Rep 4622945017495814144 4622945017495814144 := Rep.self (by decide) (by decide +kernel)
  have r4 : Rep 4611686018427387904 4611686018427387904 := Rep.self (by decide) (by decide +kernel)
  have r5 : Rep 4613937818241073152 4613937818241073152 := Rep.self (by decide) (by decide +kernel)
  go_enter Try.func19, Try.ntmps19
  go_wp2_with (first
    | (go_at_call 14; refine (exact_c r1 r2 _).mono ?_; rintro e w' ⟨r, s, n, rfl, hr, hs, rfl⟩; have q1 := hr.eq' r2; have q2 := hs.eq' r1; rw [show feq (fadd 4607182418800017408 4845873199050653696) 4845873199050653696 = true by decide +kernel] at q1; rw [show feq (lostF 4607182418800017408 4845873199050653696) 4607182418800017408 = true by decide +kernel] at q2)
    | (go_at_call 26; refine (parts_c r3 _).mono ?_; rintro e w' ⟨r, n, rfl, hr, rfl⟩; have q3 := hr.eq' (show Rep 4604930618986332160 4604930618986332160 from Rep.self (by decide) (by decide +kernel)); rw [show feq (partF 4622945017495814144) 4604930618986332160 = true by decide +kernel] at q3; rw [show partE 4622945017495814144 = 4 by decide +kernel])
    | (go_at_call 92; refine (up_c r1 _).mono ?_; rintro e w' ⟨r, n, rfl, hr, rfl⟩; have q4 := hr.eq' (show Rep 4607182418800017409 4607182418800017409 from Rep.self (by decide) (by decide +kernel)); rw [show feq (upF 4607182418800017408) 4607182418800017409 = true by decide +kernel] at q4))
  refine (sum_c _ 0 3 3 [4607182418800017408, 4611686018427387904, 4613937818241073152] [4607182418800017408, 4611686018427387904, 4613937818241073152] _ (by decide) (by decide) (by decide) rfl ?_ ?_).mono ?_
  · intro j hj
    have hj' : j = 0 ∨ j = 1 ∨ j = 2 := by omega
    rcases hj' with rfl | rfl | rfl <;> simp [World.cell?, World.alloc, World.drewN]
  · intro j hj
    have hj' : j = 0 ∨ j = 1 ∨ j = 2 := by omega
    rcases hj' with rfl | rfl | rfl
    · exact r1
    · exact r4
    · exact r5
  rintro e w' ⟨r, n, rfl, hr, rfl⟩
  have q5 := hr.eq' (show Rep 4618441417868443648 4618441417868443648 from Rep.self (by decide) (by decide +kernel))
  rw [show feq (sumF [4607182418800017408, 4611686018427387904, 4613937818241073152]) 4618441417868443648 = true by decide +kernel] at q5
  go_wp2
  go_ret
  exact ⟨rfl, grown_drewN' n ((grown_drewN w _).alloc _ _)⟩
end Go.Proofs.Ytcfkhhnkboealaa
namespace Go.Proofs.Ytcfkhhnkboealaa
open Go.RowKit
set_option linter.unusedVariables false
set_option maxRecDepth 100000
theorem fsub_self_fin {f : Nat} (h : fin f = true) : fsub f f = 0 := by
  obtain ⟨m, k, hr, hm, _⟩ := read_number (fin_rung h)
  rw [sub_def, hr]
  simp only [Ieee.Datum.opposite, Ieee.Datum.sum]
  have e : ∀ s m k, Ieee.signed s m k + Ieee.signed (!s) m k = 0 := by
    intro s m k
    rw [signed_eq, signed_eq]
    cases s <;> simp <;> omega
  rw [e]
  simp
  rfl
theorem sub_self_eq (f : Nat) : feq (fsub f f) 0 = fin f := by
  cases h : fin f
  · have : fsub f f = nanB := by
      unfold fin at h
      simp at h
      cases hn : isN f
      · have hb := (notN_iff f).1 hn
        rw [sub_def, read_inf (by omega)]
        cases sgn f <;> rfl
      · rw [sub_def, sum_none _ _ (.inl hn)]; rfl
    rw [this]; decide +kernel
  · rw [fsub_self_fin h]; decide +kernel
section
variable {x f : Nat} (hx : Rep x f) (w : World)
include hx
theorem lawFinite_c : Calls Try.prog 18 #[.float .f64 x] w (RetB (fin f) w) := by
  go_enter Try.func18, Try.ntmps18
  go_wp2
  go_ret
  exact RetB.mk _ (((hx.sub hx).eq' Rep.c0).trans (sub_self_eq f))
end
end Go.Proofs.Ytcfkhhnkboealaa
namespace Go.Proofs.Ytcfkhhnkboealaa
open Go.RowKit
set_option linter.unusedVariables false
set_option maxRecDepth 100000

theorem sval_max : sval 9218868437227405311 = ((mval 9218868437227405311 : Nat) : Int) := by
  unfold sval; rw [show sgn 9218868437227405311 = false by decide +kernel, show rung 9218868437227405311 = 9218868437227405311 by decide +kernel]; rfl
theorem sval_zero : sval 0 = 0 := by decide +kernel
theorem sval_zero_iff (f : Nat) : sval f = 0 ↔ rung f = 0 := by
  have h : mval (rung f) = 0 ↔ rung f = 0 := by
    constructor
    · intro h
      rcases Nat.eq_zero_or_pos (rung f) with h2 | h2
      · exact h2
      · have := mval_pos h2; omega
    · intro h; rw [h]; exact mval_zero
  rcases sval_cases f with ⟨_, e⟩ | ⟨_, e⟩ <;> rw [e] <;> omega
theorem feq_zero {f : Nat} (hn : isN f = false) : feq f 0 = decide (rung f = 0) := by
  rw [feq_eq, hn, show isN 0 = false by decide +kernel, sval_zero, Bool.eq_iff_iff]
  simp [sval_zero_iff]
theorem infP_iff {f : Nat} (hl : f < 18446744073709551616) (hn : isN f = false) : isInf f 1 = decide (f = 9218868437227405312) := by
  unfold isInf
  rw [if_neg (by decide), if_neg (by decide), flt_eq, isN_max, hn, sval_max, Bool.eq_iff_iff]
  simp only [Bool.not_false, Bool.true_and, decide_eq_true_eq]
  rw [notN_iff] at hn
  have hm := @mval_lt_iff 9218868437227405311 (rung f)
  rcases sval_cases f with ⟨h, e⟩ | ⟨h, e⟩ <;> rw [e]
  · have := sgn_false h hl
    omega
  · have := sgn_true h hl
    have := rung_lt f
    omega
theorem infN_iff {f : Nat} (hl : f < 18446744073709551616) (hn : isN f = false) : isInf f (-1) = decide (f = 18442240474082181120) := by
  unfold isInf
  rw [if_neg (by decide), if_pos (by decide), flt_eq, isN_max, isN_neg, hn, sval_max, sval_neg hl hn, Bool.eq_iff_iff]
  simp only [Bool.not_false, Bool.true_and, decide_eq_true_eq]
  rw [notN_iff] at hn
  have hm := @mval_lt_iff 9218868437227405311 (rung f)
  rcases sval_cases f with ⟨h, e⟩ | ⟨h, e⟩ <;> rw [e]
  · have := sgn_false h hl
    have := rung_lt f
    omega
  · have := sgn_true h hl
    omega
theorem sval_infP : sval 9218868437227405312 = ((mval 9218868437227405312 : Nat) : Int) := by
  unfold sval; rw [show sgn 9218868437227405312 = false by decide +kernel, show rung 9218868437227405312 = 9218868437227405312 by decide +kernel]; rfl
theorem sval_infN : sval 18442240474082181120 = -((mval 9218868437227405312 : Nat) : Int) := by
  unfold sval; rw [show sgn 18442240474082181120 = true by decide +kernel, show rung 18442240474082181120 = 9218868437227405312 by decide +kernel]; rfl
theorem mval_le_inf {f : Nat} (hn : isN f = false) : mval (rung f) ≤ mval 9218868437227405312 := mval_le_iff.2 ((notN_iff f).1 hn)
theorem sval_inj {f g : Nat} (hf : f < 18446744073709551616) (hg : g < 18446744073709551616) (h : sval f = sval g) (h0 : rung f ≠ 0) : f = g := by
  have hp : 0 < mval (rung f) := mval_pos (by omega)
  rcases sval_cases f with ⟨a, e⟩ | ⟨a, e⟩ <;> rcases sval_cases g with ⟨b, k⟩ | ⟨b, k⟩ <;> rw [e, k] at h
  · have := mval_inj (show mval (rung f) = mval (rung g) by omega)
    rw [sgn_false a hf, sgn_false b hg, this]
  · omega
  · omega
  · have := mval_inj (show mval (rung f) = mval (rung g) by omega)
    rw [sgn_true a hf, sgn_true b hg, this]

/-- THE STEP UP -/
theorem up_eq {f : Nat} (hl : f < 18446744073709551616) (hn : isN f = false) : upF f = if f = 9218868437227405312 then f else if rung f = 0 then 1 else if sgn f then f - 1 else f + 1 := by
  unfold upF
  rw [infP_iff hl hn]
  by_cases h1 : f = 9218868437227405312
  · simp [h1]
  · simp only [h1, decide_false, Bool.false_eq_true, if_false]
    unfold nextF infP
    have hi : isN 9218868437227405312 = false := by decide +kernel
    rw [hn, hi]
    have hne : feq f 9218868437227405312 = false := by
      rw [feq_eq, hn, hi]
      simp only [Bool.not_false, Bool.true_and, decide_eq_false_iff_not]
      intro h
      by_cases h0 : rung f = 0
      · rw [(sval_zero_iff f).2 h0, sval_infP] at h
        have : 0 < mval 9218868437227405312 := mval_pos (by decide)
        omega
      · exact h1 (sval_inj hl (by decide) h h0)
    rw [hne, feq_zero hn]
    have hlt : flt f 9218868437227405312 = true := by
      rw [flt_eq, hn, hi, sval_infP]
      have := mval_le_inf hn
      have hne2 : sval f ≠ sval 9218868437227405312 := by
        rw [feq_eq, hn, hi] at hne; simpa using hne
      rw [sval_infP] at hne2
      simp only [Bool.not_false, Bool.true_and, decide_eq_true_eq]
      rcases sval_cases f with ⟨_, e⟩ | ⟨_, e⟩ <;> rw [e] at hne2 ⊢ <;> omega
    rw [hlt]
    have h0 : isN 0 = false := by decide +kernel
    by_cases hz : rung f = 0
    · simp [hz, show sgn 9218868437227405312 = false by decide +kernel]
    · have hp : flt 0 f = !sgn f := by
        rw [flt_eq, hn, h0, sval_zero]
        have : 0 < mval (rung f) := mval_pos (by omega)
        rcases sval_cases f with ⟨a, e⟩ | ⟨a, e⟩ <;> rw [e, a] <;> simp <;> omega
      rw [hp]
      have hb := (notN_iff f).1 hn
      cases hs : sgn f
      · have := sgn_false hs hl
        have hk : isN (f + 1) = false := by rw [isN_false_iff]; omega
        simp [hz, nrm_of_not hk]
      · have := sgn_true hs hl
        have hk : isN (f - 1) = false := by rw [isN_false_iff]; omega
        simp [hz, nrm_of_not hk]
/-- THE STEP DOWN -/
theorem down_eq {f : Nat} (hl : f < 18446744073709551616) (hn : isN f = false) : downF f = if f = 18442240474082181120 then f else if rung f = 0 then 9223372036854775809 else if sgn f then f + 1 else f - 1 := by
  unfold downF
  rw [infN_iff hl hn]
  by_cases h1 : f = 18442240474082181120
  · simp [h1]
  · simp only [h1, decide_false, Bool.false_eq_true, if_false]
    unfold nextF infN
    have hi : isN 18442240474082181120 = false := by decide +kernel
    rw [hn, hi]
    have hne : feq f 18442240474082181120 = false := by
      rw [feq_eq, hn, hi]
      simp only [Bool.not_false, Bool.true_and, decide_eq_false_iff_not]
      intro h
      by_cases h0 : rung f = 0
      · rw [(sval_zero_iff f).2 h0, sval_infN] at h
        have : 0 < mval 9218868437227405312 := mval_pos (by decide)
        omega
      · exact h1 (sval_inj hl (by decide) h h0)
    rw [hne, feq_zero hn]
    have hlt : flt f 18442240474082181120 = false := by
      rw [flt_eq, hn, hi, sval_infN]
      have := mval_le_inf hn
      simp only [Bool.not_false, Bool.true_and, decide_eq_false_iff_not]
      rcases sval_cases f with ⟨_, e⟩ | ⟨_, e⟩ <;> rw [e] <;> omega
    rw [hlt]
    have h0 : isN 0 = false := by decide +kernel
    by_cases hz : rung f = 0
    · simp [hz, show sgn 18442240474082181120 = true by decide +kernel]
    · have hp : flt 0 f = !sgn f := by
        rw [flt_eq, hn, h0, sval_zero]
        have : 0 < mval (rung f) := mval_pos (by omega)
        rcases sval_cases f with ⟨a, e⟩ | ⟨a, e⟩ <;> rw [e, a] <;> simp <;> omega
      rw [hp]
      have hb := (notN_iff f).1 hn
      cases hs : sgn f
      · have := sgn_false hs hl
        have hk : isN (f - 1) = false := by rw [isN_false_iff]; omega
        simp [hz, nrm_of_not hk]
      · have := sgn_true hs hl
        have hne3 : rung f ≠ 9218868437227405312 := by omega
        have hk : isN (f + 1) = false := by rw [isN_false_iff]; omega
        simp [hz, nrm_of_not hk]
theorem up_nan {f : Nat} (hf : isN f = true) : isN (upF f) = true := by
  unfold upF
  split
  · exact hf
  · unfold nextF; rw [hf]; exact isN_nanB
theorem down_nan {f : Nat} (hf : isN f = true) : isN (downF f) = true := by
  unfold downF
  split
  · exact hf
  · unfold nextF; rw [hf]; exact isN_nanB
theorem up_ok {f : Nat} (hl : f < 18446744073709551616) (hn : isN f = false) : isN (upF f) = false ∧ upF f < 18446744073709551616 := by
  have hb := (notN_iff f).1 hn
  rw [up_eq hl hn]
  split
  · exact ⟨hn, hl⟩
  · split
    · decide +kernel
    · split
      · rename_i h; have := sgn_true h hl; exact ⟨by rw [isN_false_iff]; omega, by omega⟩
      · rename_i h; have := sgn_false (by simpa using h) hl; exact ⟨by rw [isN_false_iff]; omega, by omega⟩
theorem down_ok {f : Nat} (hl : f < 18446744073709551616) (hn : isN f = false) : isN (downF f) = false ∧ downF f < 18446744073709551616 := by
  have hb := (notN_iff f).1 hn
  rw [down_eq hl hn]
  split
  · exact ⟨hn, hl⟩
  · split
    · decide +kernel
    · split
      · rename_i h; have := sgn_true h hl; exact ⟨by rw [isN_false_iff]; omega, by omega⟩
      · rename_i h; have := sgn_false (by simpa using h) hl; exact ⟨by rw [isN_false_iff]; omega, by omega⟩
end Go.Proofs.Ytcfkhhnkboealaa
namespace Go.Proofs.Ytcfkhhnkboealaa
open Go.RowKit
set_option linter.unusedVariables false
set_option maxRecDepth 100000

theorem sval_pos {r : Nat} (h : r < 9223372036854775808) : sval r = (mval r : Int) := by
  unfold sval; rw [sgn_rung h, show rung r = r by unfold rung; omega]; rfl
theorem sval_sgn {r : Nat} (h : r < 9223372036854775808) : sval (9223372036854775808 + r) = -(mval r : Int) := by
  unfold sval
  rw [show sgn (9223372036854775808 + r) = true by unfold sgn; simp; omega, show rung (9223372036854775808 + r) = r by unfold rung; omega]; rfl
/-- every number is a rung, with or without a sign -/
theorem split_num {f : Nat} (hl : f < 18446744073709551616) (hn : isN f = false) : ∃ r, r ≤ 9218868437227405312 ∧ (f = r ∨ f = 9223372036854775808 + r) := by
  have hb := (notN_iff f).1 hn
  cases h : sgn f
  · exact ⟨rung f, hb, .inl (sgn_false h hl)⟩
  · exact ⟨rung f, hb, .inr (sgn_true h hl)⟩
theorem num_pos {r : Nat} (h : r ≤ 9218868437227405312) : isN r = false := by rw [isN_false_iff]; omega
theorem num_neg {r : Nat} (h : r ≤ 9218868437227405312) : isN (9223372036854775808 + r) = false := by rw [isN_false_iff]; omega
theorem rung_pos {r : Nat} (h : r ≤ 9218868437227405312) : rung r = r := by unfold rung; omega
theorem rung_neg {r : Nat} (h : r ≤ 9218868437227405312) : rung (9223372036854775808 + r) = r := by unfold rung; omega
theorem up_pos {r : Nat} (h : r ≤ 9218868437227405312) : upF r = if r = 9218868437227405312 then r else r + 1 := by
  rw [up_eq (by omega) (num_pos h), rung_pos h, sgn_rung (by omega)]
  split
  · rfl
  · split
    · rename_i h0; rw [h0]
    · rfl
theorem up_neg {r : Nat} (h : r ≤ 9218868437227405312) : upF (9223372036854775808 + r) = if r = 0 then 1 else 9223372036854775808 + (r - 1) := by
  rw [up_eq (by omega) (num_neg h), rung_neg h, show sgn (9223372036854775808 + r) = true by unfold sgn; simp; omega, if_neg (by omega)]
  split
  · rfl
  · simp; omega
theorem down_pos {r : Nat} (h : r ≤ 9218868437227405312) : downF r = if r = 0 then 9223372036854775809 else r - 1 := by
  rw [down_eq (by omega) (num_pos h), rung_pos h, sgn_rung (by omega), if_neg (by omega)]
  simp
theorem down_neg {r : Nat} (h : r ≤ 9218868437227405312) : downF (9223372036854775808 + r) = if r = 9218868437227405312 then 9223372036854775808 + r else 9223372036854775808 + (r + 1) := by
  rw [down_eq (by omega) (num_neg h), rung_neg h, show sgn (9223372036854775808 + r) = true by unfold sgn; simp; omega]
  by_cases h1 : r = 9218868437227405312
  · simp [h1]
  · rw [if_neg (by omega), if_neg h1]
    split
    · rename_i h0; rw [h0]
    · simp; omega
theorem lt_pos {r s : Nat} (h : r < s) (hs : s ≤ 9218868437227405312) : sval r < sval s := by
  rw [sval_pos (by omega), sval_pos (by omega)]; have := mval_lt h; omega
theorem lt_neg {r s : Nat} (h : r < s) (hs : s ≤ 9218868437227405312) : sval (9223372036854775808 + s) < sval (9223372036854775808 + r) := by
  rw [sval_sgn (by omega), sval_sgn (by omega)]; have := mval_lt h; omega
theorem lt_zero {r s : Nat} (h : 0 < s) (hr : r ≤ 9218868437227405312) (hs : s ≤ 9218868437227405312) : sval (9223372036854775808 + r) < sval s := by
  rw [sval_sgn (by omega), sval_pos (by omega)]; have := mval_pos h; omega
theorem lt_zero' {r s : Nat} (h : 0 < r) (hr : r ≤ 9218868437227405312) (hs : s ≤ 9218868437227405312) : sval (9223372036854775808 + r) < sval s := by
  rw [sval_sgn (by omega), sval_pos (by omega)]; have := mval_pos h; omega
theorem up_above {f : Nat} (hl : f < 18446744073709551616) (hn : isN f = false) : (sval f < sval (upF f) ∧ f ≠ 9218868437227405312) ∨ (upF f = f ∧ f = 9218868437227405312) := by
  obtain ⟨r, hr, rfl | rfl⟩ := split_num hl hn
  · rw [up_pos hr]
    split
    · right; exact ⟨rfl, by assumption⟩
    · left; exact ⟨lt_pos (by omega) (by omega), by omega⟩
  · rw [up_neg hr]
    left
    refine ⟨?_, by omega⟩
    split
    · exact lt_zero (by omega) (by omega) (by omega)
    · exact lt_neg (by omega) (by omega)
theorem down_below {f : Nat} (hl : f < 18446744073709551616) (hn : isN f = false) : (sval (downF f) < sval f ∧ f ≠ 18442240474082181120) ∨ (downF f = f ∧ f = 18442240474082181120) := by
  obtain ⟨r, hr, rfl | rfl⟩ := split_num hl hn
  · rw [down_pos hr]
    left
    refine ⟨?_, by omega⟩
    split
    · exact lt_zero' (r := 1) (by omega) (by omega) (by omega)
    · exact lt_pos (by omega) (by omega)
  · rw [down_neg hr]
    split
    · right; exact ⟨rfl, by omega⟩
    · left; exact ⟨lt_neg (by omega) (by omega), by omega⟩
theorem stairsA {f : Nat} (hl : f < 18446744073709551616) (hn : isN f = false) : flt (upF f) f = false ∧ flt f (downF f) = false := by
  rw [flt_eq, flt_eq, hn, (up_ok hl hn).1, (down_ok hl hn).1]
  rcases up_above hl hn with ⟨h, _⟩ | ⟨h, _⟩ <;> rcases down_below hl hn with ⟨k, _⟩ | ⟨k, _⟩
  · simp; omega
  · rw [k]; simp; omega
  · rw [h]; simp; omega
  · rw [h, k]; simp
theorem stairsB {f : Nat} (hl : f < 18446744073709551616) (hn : isN f = false) : feq (upF f) f = isInf f 1 ∧ feq (downF f) f = isInf f (-1) := by
  rw [feq_eq, feq_eq, hn, (up_ok hl hn).1, (down_ok hl hn).1, infP_iff hl hn, infN_iff hl hn]
  constructor
  · rcases up_above hl hn with ⟨h, h'⟩ | ⟨h, h'⟩
    · rw [decide_eq_false h', decide_eq_false (by omega)]; rfl
    · rw [decide_eq_true h', h]; simp
  · rcases down_below hl hn with ⟨h, h'⟩ | ⟨h, h'⟩
    · rw [decide_eq_false h', decide_eq_false (by omega)]; rfl
    · rw [decide_eq_true h', h]; simp
theorem stairsC {f : Nat} (hl : f < 18446744073709551616) (hn : isN f = false) (h1 : isInf f 1 = false) (h2 : feq f 0 = false) (h3 : feq (upF f) 0 = false) :
    upF f = f + 1 ∨ f = upF f + 1 := by
  rw [feq_zero hn] at h2
  rw [infP_iff hl hn] at h1
  obtain ⟨r, hr, rfl | rfl⟩ := split_num hl hn
  · rw [up_pos hr]
    simp at h1
    rw [if_neg h1]; exact .inl rfl
  · rw [rung_neg hr] at h2
    simp at h2
    rw [up_neg hr, if_neg h2]
    right; omega
theorem small_one {f : Nat} (hl : f < 18446744073709551616) (hn : isN f = false) (h : fle (fabs f) 1 = true) : rung f ≤ 1 := by
  rw [fle_eq, isN_abs, hn, sval_abs hn, show isN 1 = false by decide +kernel, show sval 1 = ((mval 1 : Nat) : Int) by decide +kernel] at h
  simp at h
  exact mval_le_iff.1 (by omega)
theorem stairsD {f : Nat} (hl : f < 18446744073709551616) (hn : isN f = false) (h1 : fle (fabs f) 1 = true) (h2 : feq (upF f) 0 = false) (h3 : feq (upF f) 1 = false) : feq (upF f) 2 = true := by
  have hs := small_one hl hn h1
  obtain ⟨r, hr, rfl | rfl⟩ := split_num hl hn
  · rw [rung_pos hr] at hs
    have h : f = 0 ∨ f = 1 := by omega
    rcases h with rfl | rfl <;> revert h2 h3 <;> decide +kernel
  · rw [rung_neg hr] at hs
    have h : r = 0 ∨ r = 1 := by omega
    rcases h with rfl | rfl <;> revert h2 h3 <;> decide +kernel
theorem stairsE {f : Nat} (hl : f < 18446744073709551616) (hn : isN f = false) (h1 : fin f = true) (h2 : fin (upF f) = true) : feq (downF (upF f)) f = true := by
  have h1' := fin_rung h1
  have h2' := fin_rung h2
  obtain ⟨r, hr, rfl | rfl⟩ := split_num hl hn
  · rw [rung_pos hr] at h1'
    rw [up_pos hr, if_neg (by omega)] at h2' ⊢
    rw [rung_pos (by omega)] at h2'
    rw [down_pos (by omega), if_neg (by omega), Nat.add_sub_cancel, feq_self, hn]
    rfl
  · rw [rung_neg hr] at h1'
    rw [up_neg hr] at h2' ⊢
    by_cases h0 : r = 0
    · rw [if_pos h0, h0]; decide +kernel
    · rw [if_neg h0] at h2' ⊢
      rw [down_neg (by omega), if_neg (by omega), Nat.sub_add_cancel (by omega), feq_self, hn]
      rfl
def StairsCase (x : Nat) (b1 b2 z zu t u1 u2 fx fu : Bool) : Prop :=
  isInf x 1 = b1 ∧ isInf x (-1) = b2 ∧ feq x 0 = z ∧ feq (upF x) 0 = zu ∧ fle (fabs x) 1 = t ∧ feq (upF x) 1 = u1 ∧ feq (upF x) 2 = u2 ∧ fin x = fx ∧ fin (upF x) = fu
theorem stairs_mid {f : Nat} (hl : f < 18446744073709551616) (hn : isN f = false) (h1 : 1 < rung f) (h2 : rung f < 9218868437227405312) :
    isInf f 1 = false ∧ isInf f (-1) = false ∧ feq f 0 = false ∧ fle (fabs f) 1 = false ∧ fin f = true := by
  refine ⟨?_, ?_, ?_, ?_, ?_⟩
  · rw [infP_iff hl hn]; simp; intro h; rw [h] at h2; exact absurd h2 (by decide +kernel)
  · rw [infN_iff hl hn]; simp; intro h; rw [h] at h2; exact absurd h2 (by decide +kernel)
  · rw [feq_zero hn]; simp; omega
  · rw [fle_eq, isN_abs, hn, sval_abs hn, show isN 1 = false by decide +kernel, show sval 1 = ((mval 1 : Nat) : Int) by decide +kernel]
    have := mval_lt h1
    simp; omega
  · unfold fin; simp; exact h2
theorem feq_pos {r s : Nat} (h : r ≠ s) (hr : r ≤ 9218868437227405312) (hs : s ≤ 9218868437227405312) : feq r s = false := by
  rw [feq_eq, num_pos hr, num_pos hs, sval_pos (by omega), sval_pos (by omega)]
  simp
  intro h2
  exact h (mval_inj (by omega))
theorem feq_negpos {r s : Nat} (h : 0 < r) (hr : r ≤ 9218868437227405312) (hs : s ≤ 9218868437227405312) : feq (9223372036854775808 + r) s = false := by
  rw [feq_eq, num_neg hr, num_pos hs, sval_sgn (by omega), sval_pos (by omega)]
  have := mval_pos h
  simp; omega
theorem stairs_cases {f : Nat} (hl : f < 18446744073709551616) (hn : isN f = false) :
    StairsCase f true false false false false false false false false ∨ StairsCase f false true false false false false false false true ∨
    StairsCase f false false true false true true false true true ∨ StairsCase f false false false true true false false true true ∨ StairsCase f false false false false true false true true true ∨
    StairsCase f false false false false false false false true true ∨ StairsCase f false false false false false false false true false := by
  unfold StairsCase
  obtain ⟨r, hr, hf⟩ := split_num hl hn
  by_cases h0 : r = 0
  · subst h0
    refine .inr (.inr (.inl ?_))
    rcases hf with rfl | rfl <;> decide +kernel
  by_cases h1 : r = 1
  · subst h1
    rcases hf with rfl | rfl
    · refine .inr (.inr (.inr (.inr (.inl ?_)))); decide +kernel
    · refine .inr (.inr (.inr (.inl ?_))); decide +kernel
  by_cases h2 : r = 9218868437227405312
  · subst h2
    rcases hf with rfl | rfl
    · refine .inl ?_; decide +kernel
    · refine .inr (.inl ?_); decide +kernel
  by_cases h3 : f = 9218868437227405311
  · subst h3
    refine .inr (.inr (.inr (.inr (.inr (.inr ?_))))); decide +kernel
  refine .inr (.inr (.inr (.inr (.inr (.inl ?_)))))
  have hrr : rung f = r := by
    rcases hf with h | h
    · rw [h]; exact rung_pos hr
    · rw [h]; exact rung_neg hr
  obtain ⟨a1, a2, a3, a4, a5⟩ := stairs_mid hl hn (by omega) (by omega)
  rcases hf with h | h
  · have hu : upF f = r + 1 := by rw [h, up_pos hr, if_neg h2]
    rw [hu]
    refine ⟨a1, a2, a3, feq_pos (by omega) (by omega) (by omega), a4, feq_pos (by omega) (by omega) (by omega), feq_pos (by omega) (by omega) (by omega), a5, ?_⟩
    unfold fin; rw [rung_pos (by omega)]; simp; omega
  · have hu : upF f = 9223372036854775808 + (r - 1) := by rw [h, up_neg hr, if_neg h0]
    rw [hu]
    refine ⟨a1, a2, a3, feq_negpos (by omega) (by omega) (by omega), a4, feq_negpos (by omega) (by omega) (by omega), feq_negpos (by omega) (by omega) (by omega), a5, ?_⟩
    unfold fin; rw [rung_neg (by omega)]; simp; omega
theorem stairs_bits {f : Nat} (hl : f < 18446744073709551616) (hn : isN f = false) (h1 : isInf f 1 = false) (h2 : feq f 0 = false) (h3 : feq (upF f) 0 = false) :
    (2 < IntKind.u64.wrap (IntKind.u64.wrap ((upF f : Int) - (f : Int)) + 1)) = False := by
  apply eq_false
  rw [IntKind.wrap_u64, IntKind.wrap_u64]
  rcases stairsC hl hn h1 h2 h3 with h | h <;> omega
end Go.Proofs.Ytcfkhhnkboealaa
namespace Go.Proofs.Ytcfkhhnkboealaa
set_option linter.unusedVariables false

/-- a rung with a sign -/
def wd (s : Bool) (r : Nat) : Nat := if s then 9223372036854775808 + r else r
theorem word_eq (s : Bool) (r : Nat) : Ieee.double.word s r = wd s r := by
  unfold Ieee.Format.word wd
  rw [show Ieee.double.signWeight = 9223372036854775808 by decide +kernel]
theorem rndQ_le (m d : Nat) : rndQ m d ≤ 9218868437227405312 := by
  unfold rndQ; split
  · omega
  · exact Nat.min_le_right ..
theorem rndN_le (m : Nat) : rndN m ≤ 9218868437227405312 := rndQ_le m 0
theorem wd_lt {s : Bool} {r : Nat} (h : r ≤ 9218868437227405312) : wd s r < 18446744073709551616 := by unfold wd; split <;> omega
theorem wd_notN {s : Bool} {r : Nat} (h : r ≤ 9218868437227405312) : isN (wd s r) = false := by
  unfold wd; split
  · exact num_neg h
  · exact num_pos h
theorem wd_rung {s : Bool} {r : Nat} (h : r ≤ 9218868437227405312) : rung (wd s r) = r := by
  unfold wd; split
  · exact rung_neg h
  · exact rung_pos h
theorem wd_sgn {s : Bool} {r : Nat} (h : r ≤ 9218868437227405312) : sgn (wd s r) = s := by
  unfold wd; cases s
  · simp; exact sgn_rung (by omega)
  · simp; unfold sgn; simp; omega
theorem wd_sval {s : Bool} {r : Nat} (h : r ≤ 9218868437227405312) : sval (wd s r) = if s then -(mval r : Int) else (mval r : Int) := by
  unfold sval; rw [wd_sgn h, wd_rung h]
theorem wd_neg {s : Bool} {r : Nat} (h : r ≤ 9218868437227405312) : fneg (wd s r) = wd (!s) r := by
  rw [fneg_of (wd_lt h) (wd_notN h), wd_sgn h, wd_rung h]
  unfold wd; cases s <;> simp <;> omega
theorem num_wd {f : Nat} (hl : f < 18446744073709551616) : f = wd (sgn f) (rung f) := by
  unfold wd; split
  · rename_i h; exact sgn_true h hl
  · rename_i h; exact sgn_false (by simpa using h) hl

theorem signed_scaled (s : Bool) (m k b : Nat) (h : b ≤ k) : Ieee.signed s m (k - b) * ((2 ^ b : Nat) : Int) = Ieee.signed s m k := by
  rw [← signed_scale, Nat.sub_add_cancel h]
theorem sval_signed {f m k : Nat} (h : mval (rung f) = m * 2 ^ k) : sval f = Ieee.signed (sgn f) m k := by
  rw [signed_eq]; unfold sval; rw [h]

/-- THE SUM of two finite floats -/
theorem fadd_fin {f g : Nat} (hf : fin f = true) (hg : fin g = true) :
    fadd f g = wd (if sval f + sval g = 0 then sgn f && sgn g else decide (sval f + sval g < 0)) (rndN (sval f + sval g).natAbs) := by
  obtain ⟨m, k, hr, hm, _⟩ := read_number (fin_rung hf)
  obtain ⟨n, j, hs, hn, _⟩ := read_number (fin_rung hg)
  rw [add_def, hr, hs]
  have hb : min (-1074 + (k : Int)) (-1074 + (j : Int)) = -1074 + ((min k j : Nat) : Int) := by omega
  have h1 : (-1074 + (k : Int) - (-1074 + ((min k j : Nat) : Int))).toNat = k - min k j := by omega
  have h2 : (-1074 + (j : Int) - (-1074 + ((min k j : Nat) : Int))).toNat = j - min k j := by omega
  simp only [Ieee.Datum.sum, hb, h1, h2, Option.map_some, canon]
  show Ieee.double.nearest _ _ _ = _
  rw [nearest_int, word_eq]
  have e1 := signed_scaled (sgn f) m k (min k j) (Nat.min_le_left ..)
  have e2 := signed_scaled (sgn g) n j (min k j) (Nat.min_le_right ..)
  rw [sval_signed hm, sval_signed hn, ← e1, ← e2, ← Int.add_mul]
  generalize Ieee.signed (sgn f) m (k - min k j) + Ieee.signed (sgn g) n (j - min k j) = T
  have hp : (0 : Int) < ((2 ^ min k j : Nat) : Int) := by exact_mod_cast Nat.two_pow_pos (min k j)
  generalize ((2 ^ min k j : Nat)) = c at *
  have e3 : T * (c : Int) = 0 ↔ T = 0 := by
    constructor
    · intro h; rcases Int.mul_eq_zero.1 h with h | h
      · exact h
      · omega
    · intro h; rw [h]; simp
  have e4 : T * (c : Int) < 0 ↔ T < 0 := by
    constructor
    · intro h
      rcases Int.lt_or_le T 0 with h2 | h2
      · exact h2
      · have := Int.mul_nonneg h2 (Int.le_of_lt hp); omega
    · intro h; exact Int.mul_neg_of_neg_of_pos h hp
  simp only [e3, e4]
  rw [Int.natAbs_mul, Int.natAbs_natCast]
theorem read_xor {g : Nat} (hg : g < 18446744073709551616) (hn : isN g = false) : Ieee.double.read (g ^^^ 9223372036854775808) = (Ieee.double.read g).opposite := by
  by_cases h : rung g = 9218868437227405312
  · rw [read_inf h, read_inf (by rw [rung_xor]; exact h), sgn_xor hg]; rfl
  · have hb := (notN_iff g).1 hn
    rw [read_eq, read_eq]
    dsimp only
    have e1 : (g ^^^ 9223372036854775808) % 9223372036854775808 = g % 9223372036854775808 := xor_sign_mod g
    have e2 : ((g ^^^ 9223372036854775808) / 9223372036854775808 % 2 == 1) = !(g / 9223372036854775808 % 2 == 1) := sgn_xor hg
    rw [e1, e2]
    have hr : g % 9223372036854775808 = rung g := rfl
    rw [hr]
    split
    · rfl
    · split
      · rfl
      · omega
theorem fsub_eq {f g : Nat} (hg : g < 18446744073709551616) : fsub f g = fadd f (fneg g) := by
  rw [sub_def, add_def]
  cases hn : isN g
  · unfold fneg; rw [hn]
    simp only [Bool.false_eq_true, if_false]
    rw [read_xor hg hn]
  · rw [sum_none _ _ (.inr ((opposite_isNaN _).trans hn)), sum_none _ _ (.inr ((isN_neg g).trans hn))]
theorem fin_neg (f : Nat) : fin (fneg f) = fin f := by
  unfold fin fneg
  cases hn : isN f
  · simp only [Bool.false_eq_true, if_false]; rw [rung_xor]
  · simp only [if_true]
    rw [isN_iff] at hn
    unfold rung
    have : ¬ f % 9223372036854775808 < 9218868437227405312 := by omega
    rw [decide_eq_false this]; decide +kernel
theorem fsub_fin {f g : Nat} (hf : fin f = true) (hg : fin g = true) (hl : g < 18446744073709551616) :
    fsub f g = wd (if sval f - sval g = 0 then sgn f && !sgn g else decide (sval f - sval g < 0)) (rndN (sval f - sval g).natAbs) := by
  rw [fsub_eq hl, fadd_fin hf (by rw [fin_neg]; exact hg), sval_neg hl (fin_notN hg)]
  have e : sgn (fneg g) = !sgn g := by
    unfold fneg; rw [fin_notN hg]; exact sgn_xor hl
  rw [e, Int.sub_eq_add_neg]
theorem rndQ_up (m c k : Nat) (h : c ≤ k) : rndN (m * 2 ^ (k - c)) = rndQ (m * 2 ^ k) c := by
  have := rndQ_scale (m * 2 ^ (k - c)) 0 c
  rw [Nat.mul_assoc, ← Nat.pow_add, Nat.sub_add_cancel h, Nat.zero_add] at this
  rw [this]; rfl
/-- THE PRODUCT of two finite floats -/
theorem fmul_fin {f g : Nat} (hf : fin f = true) (hg : fin g = true) :
    fmul f g = wd (sgn f ^^ sgn g) (rndQ (mval (rung f) * mval (rung g)) 1074) := by
  obtain ⟨m, k, hr, hm, _⟩ := read_number (fin_rung hf)
  obtain ⟨n, j, hs, hn, _⟩ := read_number (fin_rung hg)
  rw [mul_def, hr, hs]
  simp only [Ieee.Datum.product, Option.map_some, canon]
  show Ieee.double.nearest _ _ _ = _
  have e : mval (rung f) * mval (rung g) = m * n * 2 ^ (k + j) := by rw [hm, hn, Nat.pow_add, Nat.mul_mul_mul_comm]
  rw [e]
  by_cases h : k + j ≤ 1074
  · rw [show (-1074 + (k : Int) + (-1074 + (j : Int))) = -1074 - ((1074 - (k + j) : Nat) : Int) by omega, nearest_frac, word_eq]
    have := rndQ_scale (m * n) (1074 - (k + j)) (k + j)
    rw [Nat.sub_add_cancel h] at this
    rw [this]
  · rw [show (-1074 + (k : Int) + (-1074 + (j : Int))) = -1074 + ((k + j - 1074 : Nat) : Int) by omega, nearest_int, word_eq]
    rw [show rndN (m * n * 2 ^ (k + j - 1074)) = rndQ (m * n * 2 ^ (k + j)) 1074 from rndQ_up _ _ _ (by omega)]
end Go.Proofs.Ytcfkhhnkboealaa
namespace Go.Proofs.Ytcfkhhnkboealaa
set_option linter.unusedVariables false

theorem wd_self {f : Nat} (hl : f < 18446744073709551616) : wd (sgn f) (rung f) = f := (num_wd hl).symm
theorem sgn_neg {f : Nat} (hl : f < 18446744073709551616) (hn : isN f = false) : sgn (fneg f) = !sgn f := by unfold fneg; rw [hn]; exact sgn_xor hl
theorem rung_neg' {f : Nat} (hn : isN f = false) : rung (fneg f) = rung f := by unfold fneg; rw [hn]; exact rung_xor f
theorem fneg_lt {f : Nat} (hl : f < 18446744073709551616) : fneg f < 18446744073709551616 := by
  unfold fneg; split
  · decide +kernel
  · exact Nat.xor_lt_two_pow (n := 64) hl (by decide)
theorem fneg_wd {f : Nat} (hl : f < 18446744073709551616) (hn : isN f = false) : fneg f = wd (!sgn f) (rung f) := by
  have h := num_wd (fneg_lt hl)
  rw [sgn_neg hl hn, rung_neg' hn] at h
  exact h
theorem fneg_nan {f : Nat} (hn : isN f = true) : fneg f = nanB := by unfold fneg; rw [hn]; rfl
theorem fabs_neg (f : Nat) : fabs (fneg f) = fabs f := by
  cases hn : isN f
  · rw [fabs_of (by rw [isN_neg, hn]), fabs_of hn, rung_neg' hn]
  · unfold fabs; rw [isN_neg, hn]; simp
theorem up_turn {f : Nat} (hl : f < 18446744073709551616) (hn : isN f = false) : upF (fneg f) = fneg (downF f) := by
  obtain ⟨r, hr, rfl | rfl⟩ := split_num hl hn
  · have e : fneg f = 9223372036854775808 + f := by
      rw [fneg_of hl hn, sgn_rung (by omega), rung_pos hr]; simp; omega
    rw [e, up_neg hr, down_pos hr]
    split
    · decide +kernel
    · rw [fneg_of (by omega) (num_pos (by omega)), sgn_rung (by omega), rung_pos (by omega)]; simp; omega
  · have e : fneg (9223372036854775808 + r) = r := by
      rw [fneg_of hl hn, show sgn (9223372036854775808 + r) = true by unfold sgn; simp; omega, rung_neg hr]; simp
    rw [e, up_pos hr, down_neg hr]
    split
    · rw [e]
    · rw [fneg_of (by omega) (num_neg (by omega)), show sgn (9223372036854775808 + (r + 1)) = true by unfold sgn; simp; omega, rung_neg (by omega)]; simp
theorem up_turn_nan {f : Nat} (hn : f = nanB) : upF (fneg f) = nanB ∧ fneg (downF f) = nanB := by subst hn; decide +kernel
/-- products -/
theorem fmul_turn {f g : Nat} (hl : f < 18446744073709551616) (hf : fin f = true) (hg : fin g = true) : fmul (fneg f) g = fneg (fmul f g) := by
  rw [fmul_fin (by rw [fin_neg]; exact hf) hg, fmul_fin hf hg, sgn_neg hl (fin_notN hf), rung_neg' (fin_notN hf), wd_neg (rndQ_le _ _)]
  cases sgn f <;> cases sgn g <;> rfl
theorem fmul_turn2 {f g : Nat} (hl : f < 18446744073709551616) (hf : fin f = true) (hg : fin g = true) : fmul g (fneg f) = fneg (fmul g f) := by
  rw [fmul_fin hg (by rw [fin_neg]; exact hf), fmul_fin hg hf, sgn_neg hl (fin_notN hf), rung_neg' (fin_notN hf), wd_neg (rndQ_le _ _)]
  cases sgn f <;> cases sgn g <;> rfl
theorem cut_sign (s : Bool) (n d : Nat) : Ieee.Toward.even.cut s n d = Ieee.Toward.even.cut false n d := rfl
theorem nearest_zero (s : Bool) (m : Nat) : ∃ c, c ≤ 9218868437227405312 ∧ ∀ s, Ieee.double.nearest s m 0 = wd s c := by
  obtain ⟨k, hk⟩ : ∃ k : Nat, (0 : Int) = -1074 + (k : Int) := ⟨1074, rfl⟩
  refine ⟨rndN (m * 2 ^ k), rndN_le _, fun s => ?_⟩
  rw [hk, nearest_int, word_eq]
theorem whole_number {f : Nat} (hf : fin f = true) : ∃ c, c ≤ 9218868437227405312 ∧ wholeF f = wd (sgn f) c ∧ (f < 18446744073709551616 → wholeF (fneg f) = wd (!sgn f) c) := by
  obtain ⟨m, k, hr, hm, _⟩ := read_number (fin_rung hf)
  have hn := fin_notN hf
  obtain ⟨c, hc, h⟩ := nearest_zero false (Ieee.Toward.even.cut false (m <<< (-1074 + (k : Int)).toNat) (-(-1074 + (k : Int))).toNat)
  refine ⟨c, hc, ?_, fun hl => ?_⟩
  · unfold wholeF
    rw [hn, hr]
    simp only [Bool.false_eq_true, if_false, Ieee.Datum.integral]
    show Ieee.double.nearest _ _ _ = _
    rw [cut_sign]
    exact h _
  · unfold wholeF
    rw [isN_neg, hn]
    unfold fneg
    rw [hn]
    simp only [Bool.false_eq_true, if_false]
    rw [read_xor hl hn, hr]
    simp only [Ieee.Datum.opposite, Ieee.Datum.integral]
    show Ieee.double.nearest _ _ _ = _
    rw [cut_sign]
    exact h _
theorem whole_turn {f : Nat} (hl : f < 18446744073709551616) : wholeF (fneg f) = fneg (wholeF f) := by
  cases hn : isN f
  · by_cases hf : fin f = true
    · obtain ⟨c, h2, h1, h3⟩ := whole_number hf
      rw [h1, h3 hl, wd_neg h2]
    · have hi : rung f = 9218868437227405312 := by
        have := (notN_iff f).1 hn
        unfold fin at hf; simp at hf; omega
      have hi2 : rung (fneg f) = 9218868437227405312 := by rw [rung_neg' hn]; exact hi
      unfold wholeF
      rw [isN_neg, hn, read_inf hi, read_inf hi2, sgn_neg hl hn]
      show Ieee.double.word _ _ = fneg (Ieee.double.word _ _)
      rw [word_eq, word_eq, show Ieee.double.infRung = 9218868437227405312 by decide +kernel, wd_neg (by omega)]
  · have e : wholeF f = nanB := by unfold wholeF; rw [hn]; rfl
    have e2 : wholeF nanB = nanB := by unfold wholeF; rw [isN_nanB]; rfl
    rw [fneg_nan hn, e, e2]; decide +kernel
/-! scales -/
theorem feq_zero_neg {f : Nat} (hn : isN f = false) : feq (fneg f) 0 = feq f 0 := by
  rw [feq_zero (by rw [isN_neg, hn]), feq_zero hn, rung_neg' hn]
theorem isInf_neg (f : Nat) : isInf (fneg f) 0 = isInf f 0 := by unfold isInf; simp [fabs_neg]
theorem isInf0 {f : Nat} (hn : isN f = false) : isInf f 0 = !fin f := by
  unfold isInf
  rw [if_pos rfl, ← fin_abs, flt_eq, fle_eq, isN_abs, isN_max, hn]
  rw [Bool.eq_iff_iff]; simp
theorem tiny_fin {f : Nat} (h : flt (fabs f) 4503599627370496 = true) : fin f = true := by
  have := (sval_small h (by decide +kernel) (by decide +kernel)).1
  unfold fin; simp; exact Nat.lt_of_lt_of_le this (by decide +kernel)
theorem normF_turn {f : Nat} (hl : f < 18446744073709551616) : normF (fneg f) = fneg (normF f) := by
  unfold normF
  rw [fabs_neg]
  split
  · rename_i h; exact fmul_turn hl (tiny_fin h) (by decide +kernel)
  · rfl
theorem normE_turn (f : Nat) : normE (fneg f) = normE f := by unfold normE; rw [fabs_neg]
theorem normF_lt {f : Nat} (hl : f < 18446744073709551616) : normF f < 18446744073709551616 := by
  unfold normF; split
  · exact canon_map_lt _
  · exact hl
theorem exp_field {f : Nat} (hl : f < 18446744073709551616) : f / 4503599627370496 % 2048 = rung f / 4503599627370496 := by unfold rung; omega
theorem mant_field (f : Nat) : f % 4503599627370496 = rung f % 4503599627370496 := by unfold rung; omega
theorem sign_field {f : Nat} (hl : f < 18446744073709551616) : f / 9223372036854775808 * 9223372036854775808 = if sgn f then 9223372036854775808 else 0 := by
  unfold sgn
  have h : f / 9223372036854775808 = 0 ∨ f / 9223372036854775808 = 1 := by omega
  rcases h with h | h <;> rw [h] <;> rfl
theorem expOf_turn {f : Nat} (hl : f < 18446744073709551616) (hn : isN f = false) (n : Int) : expOf (fneg f) n = expOf f n := by
  unfold expOf
  rw [normE_turn, normF_turn hl, exp_field (fneg_lt (normF_lt hl)), exp_field (normF_lt hl), rung_neg' (normF_notN hn)]
theorem fields_wd {g : Nat} (hl : g < 18446744073709551616) (e : Nat) (he : e < 2047) : g / 9223372036854775808 * 9223372036854775808 + e * 4503599627370496 + g % 4503599627370496 = wd (sgn g) (e * 4503599627370496 + rung g % 4503599627370496) := by
  rw [sign_field hl, mant_field]
  unfold wd
  split <;> omega
theorem fields_fin {s : Bool} {e m : Nat} (he : e < 2047) : fin (wd s (e * 4503599627370496 + m % 4503599627370496)) = true := by
  unfold fin; rw [wd_rung (by omega)]; simp; omega
theorem mval_pow {c : Nat} (h : ¬ c < 4503599627370496) (h2 : c % 4503599627370496 = 0) : mval c = 4503599627370496 * 2 ^ (c / 4503599627370496 - 1) := by
  unfold mval; rw [if_neg h, h2]
theorem rndQ_cancel (m k : Nat) : rndQ (m * 2 ^ k) k = rndN m := by
  have := rndQ_scale m 0 k
  rw [Nat.zero_add] at this
  exact this
theorem normF_tiny {f : Nat} (hs : flt (fabs f) 4503599627370496 = true) : normF f = wd (sgn f) (rndN (rung f * 4503599627370496)) ∧ rung f < 4503599627370496 := by
  have h3 := (sval_small hs (by decide +kernel) (by decide +kernel)).1
  have h4 : rung f < 4503599627370496 := Nat.lt_of_lt_of_le h3 (by decide +kernel)
  have h5 : mval (rung f) = rung f := by unfold mval; rw [if_pos h4]
  refine ⟨?_, h4⟩
  unfold normF
  rw [if_pos hs, fmul_fin (tiny_fin hs) (by decide +kernel), h5, show rung 4841369599423283200 = 4841369599423283200 by decide +kernel]
  rw [mval_pow (by decide) (by decide)]
  have hk : 1074 = 4841369599423283200 / 4503599627370496 - 1 := by decide
  rw [hk]
  generalize 4841369599423283200 / 4503599627370496 - 1 = k
  rw [← Nat.mul_assoc, rndQ_cancel, show sgn 4841369599423283200 = false by decide +kernel, Bool.xor_false]
theorem rnd_pos {m : Nat} (h : m ≠ 0) : rndN m ≠ 0 := by
  unfold rndN rndQ
  rw [if_neg h]
  have h10 := Nat.log2_self_le h
  have h11 : m / 2 ^ (0 + (m.log2 - 52 - 0)) ≤ rne m (2 ^ (0 + (m.log2 - 52 - 0))) := by unfold rne; omega
  have h13 : 2 ^ (0 + (m.log2 - 52 - 0)) ≤ 2 ^ m.log2 := Nat.pow_le_pow_right (by decide) (by omega)
  have h12 : 0 < m / 2 ^ (0 + (m.log2 - 52 - 0)) := Nat.div_pos (by omega) (Nat.two_pow_pos _)
  omega
theorem scale_turn {f : Nat} (hl : f < 18446744073709551616) (n : Int) (hf : nrm f = f) : scaleF (fneg f) n = fneg (scaleF f n) := by
  cases hn : isN f
  · unfold scaleF
    rw [feq_zero_neg hn, isInf_neg, isN_neg, hn, expOf_turn hl hn]
    have hg := normF_lt hl
    have hgn := normF_notN hn
    split
    · rfl
    · split
      · rw [normF_turn hl]
        unfold copyF
        rw [sgn_neg hg hgn]
        cases sgn (normF f) <;> decide +kernel
      · split
        · rename_i h1 _ _
          have hz : rung (normF f) ≠ 0 := by
            intro hz
            have h2 : ¬ feq f 0 = true := by intro h; rw [h] at h1; simp at h1
            rw [feq_zero hn] at h2
            simp at h2
            cases hs : flt (fabs f) 4503599627370496
            · unfold normF at hz; rw [hs] at hz; exact h2 hz
            · obtain ⟨e, _⟩ := normF_tiny hs
              rw [e, wd_rung (rndN_le _)] at hz
              exact rnd_pos (Nat.mul_ne_zero h2 (by decide)) hz
          rw [normF_turn hl]
          have hz2 : sval (normF f) ≠ 0 := by intro h; exact hz ((sval_zero_iff _).1 h)
          rw [flt_eq, flt_eq, isN_neg, hgn, show isN 0 = false by decide +kernel, sval_zero, sval_neg hg hgn]
          simp only [Bool.not_false, Bool.true_and, decide_eq_true_eq]
          by_cases h3 : sval (normF f) < 0
          · rw [if_neg (by omega), if_pos h3]; decide +kernel
          · rw [if_pos (by omega), if_neg h3]; decide +kernel
        · rw [normF_turn hl]
          split
          · rw [fields_wd (fneg_lt hg) _ (by omega), fields_wd hg _ (by omega), sgn_neg hg hgn, rung_neg' hgn]
            have hff : fin (wd (sgn (normF f)) ((expOf f n + 1076).toNat * 4503599627370496 + rung (normF f) % 4503599627370496)) = true := fields_fin (by omega)
            rw [← fmul_turn2 (wd_lt (by omega)) hff (by decide +kernel), wd_neg (by omega)]
          · rw [fields_wd (fneg_lt hg) _ (by omega), fields_wd hg _ (by omega), sgn_neg hg hgn, rung_neg' hgn]
            have hff : fin (wd (sgn (normF f)) ((expOf f n + 1023).toNat * 4503599627370496 + rung (normF f) % 4503599627370496)) = true := fields_fin (by omega)
            rw [← fmul_turn2 (wd_lt (by omega)) hff (by decide +kernel), wd_neg (by omega)]
  · rw [nrm_of hn] at hf
    subst hf
    have e : scaleF nanB n = nanB := by unfold scaleF; rw [isN_nanB]; simp
    rw [show fneg nanB = nanB by decide +kernel, e]; decide +kernel
end Go.Proofs.Ytcfkhhnkboealaa
namespace Go.Proofs.Ytcfkhhnkboealaa
set_option linter.unusedVariables false

/-- infinite? -/
theorem inf_of {f : Nat} (hn : isN f = false) (h : fin f = false) : rung f = 9218868437227405312 := by
  have := (notN_iff f).1 hn
  unfold fin at h; simp at h; omega
theorem not_fin_of {f : Nat} (h : rung f = 9218868437227405312) : fin f = false := by unfold fin; rw [h]; rfl
theorem notN_of {f : Nat} (h : rung f = 9218868437227405312) : isN f = false := by rw [notN_iff]; omega
theorem fadd_infl {f g : Nat} (hf : rung f = 9218868437227405312) (hg : fin g = true) : fadd f g = wd (sgn f) 9218868437227405312 := by
  obtain ⟨n, j, hs, hn, _⟩ := read_number (fin_rung hg)
  rw [add_def, read_inf hf, hs]
  show Ieee.double.word _ _ = _
  rw [word_eq, show Ieee.double.infRung = 9218868437227405312 by decide +kernel]
theorem fadd_infr {f g : Nat} (hf : fin f = true) (hg : rung g = 9218868437227405312) : fadd f g = wd (sgn g) 9218868437227405312 := by
  obtain ⟨n, j, hs, hn, _⟩ := read_number (fin_rung hf)
  rw [add_def, read_inf hg, hs]
  show Ieee.double.word _ _ = _
  rw [word_eq, show Ieee.double.infRung = 9218868437227405312 by decide +kernel]
theorem fadd_infinf {f g : Nat} (hf : rung f = 9218868437227405312) (hg : rung g = 9218868437227405312) : fadd f g = if sgn f = sgn g then wd (sgn f) 9218868437227405312 else nanB := by
  rw [add_def, read_inf hf, read_inf hg]
  simp only [Ieee.Datum.sum]
  split
  · show Ieee.double.word _ _ = _
    rw [word_eq, show Ieee.double.infRung = 9218868437227405312 by decide +kernel]
  · rfl
theorem fadd_nan {f g : Nat} (h : isN f = true ∨ isN g = true) : fadd f g = nanB := by rw [add_def, sum_none _ _ h]; rfl

def Opp (s t : Nat) : Prop := (isN s = true ∧ isN t = true) ∨ (isN s = false ∧ isN t = false ∧ rung s = rung t ∧ (rung s = 0 ∨ sgn t = !sgn s))
theorem Opp.neg {f : Nat} (hl : f < 18446744073709551616) : Opp f (fneg f) := by
  cases hn : isN f
  · exact .inr ⟨hn, by rw [isN_neg, hn], (rung_neg' hn).symm, .inr (sgn_neg hl hn)⟩
  · exact .inl ⟨hn, by rw [isN_neg, hn]⟩
theorem Opp.sval {s t : Nat} (h : Opp s t) (hn : isN s = false) : sval t = -sval s := by
  rcases h with ⟨h, _⟩ | ⟨_, _, hr, h⟩
  · rw [hn] at h; cases h
  · unfold Proofs.Ytcfkhhnkboealaa.sval
    rw [← hr]
    rcases h with h | h
    · rw [h, mval_zero]; cases Proofs.Ytcfkhhnkboealaa.sgn s <;> cases Proofs.Ytcfkhhnkboealaa.sgn t <;> rfl
    · rw [h]; cases Proofs.Ytcfkhhnkboealaa.sgn s <;> simp
theorem Opp.fin {s t : Nat} (h : Opp s t) : fin t = fin s := by
  rcases h with ⟨h1, h2⟩ | ⟨_, _, hr, _⟩
  · cases h3 : Proofs.Ytcfkhhnkboealaa.fin s
    · cases h4 : Proofs.Ytcfkhhnkboealaa.fin t
      · rfl
      · rw [fin_notN h4] at h2; cases h2
    · rw [fin_notN h3] at h1; cases h1
  · unfold Proofs.Ytcfkhhnkboealaa.fin; rw [hr]
theorem Opp.nan {s t : Nat} (h : Opp s t) : isN t = isN s := by
  rcases h with ⟨h1, h2⟩ | ⟨h1, h2, _⟩ <;> rw [h1, h2]
theorem Opp.inf {s t : Nat} (h : Opp s t) (hi : rung s = 9218868437227405312) : rung t = 9218868437227405312 ∧ sgn t = !sgn s := by
  rcases h with ⟨h1, _⟩ | ⟨_, _, hr, h⟩
  · rw [notN_of hi] at h1; cases h1
  · rw [← hr]
    rcases h with h | h
    · omega
    · exact ⟨hi, h⟩
theorem Opp.wd (s : Bool) (r : Nat) (h : r ≤ 9218868437227405312) : Opp (wd s r) (wd (!s) r) :=
  .inr ⟨wd_notN h, wd_notN h, by rw [wd_rung h, wd_rung h], .inr (by rw [wd_sgn h, wd_sgn h])⟩
theorem Opp.add {a a' b b' : Nat} (h : Opp a a') (k : Opp b b') : Opp (fadd a b) (fadd a' b') := by
  cases ha : isN a
  · cases hb : isN b
    · cases fa : Proofs.Ytcfkhhnkboealaa.fin a
      · have ia := inf_of ha fa
        obtain ⟨ia', sa⟩ := h.inf ia
        cases fb : Proofs.Ytcfkhhnkboealaa.fin b
        · have ib := inf_of hb fb
          obtain ⟨ib', sb⟩ := k.inf ib
          rw [fadd_infinf ia ib, fadd_infinf ia' ib', sa, sb]
          by_cases e : Proofs.Ytcfkhhnkboealaa.sgn a = Proofs.Ytcfkhhnkboealaa.sgn b
          · rw [if_pos e, if_pos (by rw [e])]; exact Opp.wd _ _ (by omega)
          · rw [if_neg e, if_neg (by intro h2; apply e; revert h2; cases Proofs.Ytcfkhhnkboealaa.sgn a <;> cases Proofs.Ytcfkhhnkboealaa.sgn b <;> simp)]
            exact .inl ⟨isN_nanB, isN_nanB⟩
        · rw [fadd_infl ia fb, fadd_infl ia' (by rw [k.fin, fb]), sa]; exact Opp.wd _ _ (by omega)
      · cases fb : Proofs.Ytcfkhhnkboealaa.fin b
        · have ib := inf_of hb fb
          obtain ⟨ib', sb⟩ := k.inf ib
          rw [fadd_infr fa ib, fadd_infr (by rw [h.fin, fa]) ib', sb]; exact Opp.wd _ _ (by omega)
        · rw [fadd_fin fa fb, fadd_fin (by rw [h.fin, fa]) (by rw [k.fin, fb]), h.sval ha, k.sval hb]
          have e1 : -Proofs.Ytcfkhhnkboealaa.sval a + -Proofs.Ytcfkhhnkboealaa.sval b = -(Proofs.Ytcfkhhnkboealaa.sval a + Proofs.Ytcfkhhnkboealaa.sval b) := by omega
          rw [e1, Int.natAbs_neg]
          by_cases h0 : Proofs.Ytcfkhhnkboealaa.sval a + Proofs.Ytcfkhhnkboealaa.sval b = 0
          · rw [h0]
            simp only [Int.neg_zero, if_true, Int.natAbs_zero]
            have e : rndN 0 = 0 := rfl
            rw [e]
            exact .inr ⟨wd_notN (by omega), wd_notN (by omega), by rw [wd_rung (by omega), wd_rung (by omega)], .inl (wd_rung (by omega))⟩
          · rw [if_neg h0, if_neg (by omega)]
            have e3 : decide (-(Proofs.Ytcfkhhnkboealaa.sval a + Proofs.Ytcfkhhnkboealaa.sval b) < 0) = !decide (Proofs.Ytcfkhhnkboealaa.sval a + Proofs.Ytcfkhhnkboealaa.sval b < 0) := by
              by_cases h1 : Proofs.Ytcfkhhnkboealaa.sval a + Proofs.Ytcfkhhnkboealaa.sval b < 0
              · rw [decide_eq_true h1, decide_eq_false (by omega)]; rfl
              · rw [decide_eq_false h1, decide_eq_true (by omega)]; rfl
            rw [e3]; exact Opp.wd _ _ (rndN_le _)
    · rw [fadd_nan (.inr hb), fadd_nan (.inr (k.nan.trans hb))]; exact .inl ⟨isN_nanB, isN_nanB⟩
  · rw [fadd_nan (.inl ha), fadd_nan (.inl (h.nan.trans ha))]; exact .inl ⟨isN_nanB, isN_nanB⟩
theorem Opp.flip {s t : Nat} (hs : s < 18446744073709551616) (ht : t < 18446744073709551616) (h : Opp s t) : Opp (fneg s) (fneg t) := by
  rcases h with ⟨h1, h2⟩ | ⟨h1, h2, hr, h⟩
  · exact .inl ⟨by rw [isN_neg, h1], by rw [isN_neg, h2]⟩
  · refine .inr ⟨by rw [isN_neg, h1], by rw [isN_neg, h2], by rw [rung_neg' h1, rung_neg' h2, hr], ?_⟩
    rw [rung_neg' h1, sgn_neg hs h1, sgn_neg ht h2]
    rcases h with h | h
    · exact .inl h
    · exact .inr (by rw [h])
theorem Opp.sub {a a' b b' : Nat} (hb : b < 18446744073709551616) (hb' : b' < 18446744073709551616) (h : Opp a a') (k : Opp b b') : Opp (fsub a b) (fsub a' b') := by
  rw [fsub_eq hb, fsub_eq hb']
  exact h.add (k.flip hb hb')
theorem Opp.zero : Opp 0 0 := .inr (by decide +kernel)
theorem fadd_lt (a b : Nat) : fadd a b < 18446744073709551616 := canon_map_lt _
theorem fsub_lt (a b : Nat) : fsub a b < 18446744073709551616 := canon_map_lt _
theorem lost_turn {f g : Nat} (hf : f < 18446744073709551616) (hg : g < 18446744073709551616) : Opp (lostF f g) (lostF (fneg f) (fneg g)) := by
  unfold lostF
  have h := (Opp.neg hf).add (Opp.neg hg)
  rw [h.fin, fabs_neg, fabs_neg]
  split
  · exact Opp.zero
  · split
    · exact ((Opp.neg hf).sub (fsub_lt _ _) (fsub_lt _ _) (h.sub hg (fneg_lt hg) (Opp.neg hg))).add Opp.zero
    · exact ((Opp.neg hg).sub (fsub_lt _ _) (fsub_lt _ _) (h.sub hf (fneg_lt hf) (Opp.neg hf))).add Opp.zero
theorem lost_lt (f g : Nat) : lostF f g < 18446744073709551616 := by
  unfold lostF
  split
  · decide
  · split <;> exact canon_map_lt _
theorem Opp.feq {s t : Nat} (hs : s < 18446744073709551616) (ht : t < 18446744073709551616) (h : Opp s t) (hn : isN s = false) : feq s (fneg t) = true := by
  have hn2 : isN t = false := h.nan.trans hn
  rw [feq_eq, isN_neg, hn, hn2, sval_neg ht hn2, h.sval hn]
  simp
theorem fadd_notN_finite {f g : Nat} (h : fin (fadd f g) = true) : fin f = true ∧ fin g = true := by
  cases ha : isN f
  · cases hb : isN g
    · cases fa : fin f
      · exfalso
        have ia := inf_of ha fa
        cases fb : fin g
        · have ib := inf_of hb fb
          rw [fadd_infinf ia ib] at h
          split at h
          · rw [not_fin_of (wd_rung (by omega))] at h; cases h
          · rw [show fin nanB = false by decide +kernel] at h; cases h
        · rw [fadd_infl ia fb, not_fin_of (wd_rung (by omega))] at h; cases h
      · cases fb : fin g
        · exfalso
          have ib := inf_of hb fb
          rw [fadd_infr fa ib, not_fin_of (wd_rung (by omega))] at h; cases h
        · exact ⟨rfl, rfl⟩
    · exfalso; rw [fadd_nan (.inr hb), show fin nanB = false by decide +kernel] at h; cases h
  · exfalso; rw [fadd_nan (.inl ha), show fin nanB = false by decide +kernel] at h; cases h
theorem fadd_notN {f g : Nat} (hf : fin f = true) (hg : isN g = false) : isN (fadd f g) = false := by
  cases fb : fin g
  · rw [fadd_infr hf (inf_of hg fb)]; exact wd_notN (by omega)
  · rw [fadd_fin hf fb]; exact wd_notN (rndN_le _)
theorem fadd_notN2 {f g : Nat} (hf : isN f = false) (hg : fin g = true) : isN (fadd f g) = false := by
  cases fb : fin f
  · rw [fadd_infl (inf_of hf fb) hg]; exact wd_notN (by omega)
  · rw [fadd_fin fb hg]; exact wd_notN (rndN_le _)
theorem lost_notN {f g : Nat} (hf : f < 18446744073709551616) (hg : g < 18446744073709551616) : isN (lostF f g) = false := by
  unfold lostF
  cases hs : fin (fadd f g)
  · simp only [Bool.not_false, if_true]; decide +kernel
  · obtain ⟨ff, fg⟩ := fadd_notN_finite hs
    have key : ∀ a b, a < 18446744073709551616 → fin a = true → fin b = true → isN (fadd (fsub b (fsub (fadd f g) a)) 0) = false := by
      intro a b ha fa fb
      refine fadd_notN2 ?_ (by decide +kernel)
      rw [fsub_eq (fsub_lt _ _)]
      refine fadd_notN fb ?_
      rw [isN_neg, fsub_eq ha]
      exact fadd_notN hs (by rw [isN_neg]; exact fin_notN fa)
    simp only [Bool.not_true, Bool.false_eq_true, if_false]
    split
    · exact key g f hg fg ff
    · exact key f g hf ff fg
end Go.Proofs.Ytcfkhhnkboealaa
