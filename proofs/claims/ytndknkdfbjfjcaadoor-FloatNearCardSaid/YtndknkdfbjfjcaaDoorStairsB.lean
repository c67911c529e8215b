/- What the law of stairs asks of the steps, plainly. No condition. -/
import Derived.Test.YtndknkdfbjfjcaaDoorStairs
namespace Go.Proofs.YtndknkdfbjfjcaaDoor
open Go.RowKit
set_option linter.unusedVariables false
set_option maxRecDepth 100000

theorem sval_pos {r : Nat} (h : r < 9223372036854775808) : sval r = (mval r : Int) := by
  unfold sval; rw [sgn_rung h, show rung r = r by unfold rung; omega]; rfl
theorem sval_sgn {r : Nat} (h : r < 9223372036854775808) : sval (9223372036854775808 + r) = -(mval r : Int) := by
  unfold sval
  rw [show sgn (9223372036854775808 + r) = true by unfold sgn; simp; omega, show rung (9223372036854775808 + r) = r by unfold rung; omega]; rfl
/-- every number is a rung, with or without a sign -/
theorem split_num {f : Nat} (hl : f < 18446744073709551616) (hn : isN f = false) : ∃ r, r ≤ 9218868437227405312 ∧ (f = r ∨ f = 9223372036854775808 + r) := by
  have hb := (notN_iff f).1 hn
  cases h : sgn f
  · exact ⟨rung f, hb, .inl (sgn_false h hl)⟩
  · exact ⟨rung f, hb, .inr (sgn_true h hl)⟩
theorem num_pos {r : Nat} (h : r ≤ 9218868437227405312) : isN r = false := by rw [isN_false_iff]; omega
theorem num_neg {r : Nat} (h : r ≤ 9218868437227405312) : isN (9223372036854775808 + r) = false := by rw [isN_false_iff]; omega
theorem rung_pos {r : Nat} (h : r ≤ 9218868437227405312) : rung r = r := by unfold rung; omega
theorem rung_neg {r : Nat} (h : r ≤ 9218868437227405312) : rung (9223372036854775808 + r) = r := by unfold rung; omega
theorem up_pos {r : Nat} (h : r ≤ 9218868437227405312) : upF r = if r = 9218868437227405312 then r else r + 1 := by
  rw [up_eq (by omega) (num_pos h), rung_pos h, sgn_rung (by omega)]
  split
  · rfl
  · split
    · rename_i h0; rw [h0]
    · rfl
theorem up_neg {r : Nat} (h : r ≤ 9218868437227405312) : upF (9223372036854775808 + r) = if r = 0 then 1 else 9223372036854775808 + (r - 1) := by
  rw [up_eq (by omega) (num_neg h), rung_neg h, show sgn (9223372036854775808 + r) = true by unfold sgn; simp; omega, if_neg (by omega)]
  split
  · rfl
  · simp; omega
theorem down_pos {r : Nat} (h : r ≤ 9218868437227405312) : downF r = if r = 0 then 9223372036854775809 else r - 1 := by
  rw [down_eq (by omega) (num_pos h), rung_pos h, sgn_rung (by omega), if_neg (by omega)]
  simp
theorem down_neg {r : Nat} (h : r ≤ 9218868437227405312) : downF (9223372036854775808 + r) = if r = 9218868437227405312 then 9223372036854775808 + r else 9223372036854775808 + (r + 1) := by
  rw [down_eq (by omega) (num_neg h), rung_neg h, show sgn (9223372036854775808 + r) = true by unfold sgn; simp; omega]
  by_cases h1 : r = 9218868437227405312
  · simp [h1]
  · rw [if_neg (by omega), if_neg h1]
    split
    · rename_i h0; rw [h0]
    · simp; omega
theorem lt_pos {r s : Nat} (h : r < s) (hs : s ≤ 9218868437227405312) : sval r < sval s := by
  rw [sval_pos (by omega), sval_pos (by omega)]; have := mval_lt h; omega
theorem lt_neg {r s : Nat} (h : r < s) (hs : s ≤ 9218868437227405312) : sval (9223372036854775808 + s) < sval (9223372036854775808 + r) := by
  rw [sval_sgn (by omega), sval_sgn (by omega)]; have := mval_lt h; omega
theorem lt_zero {r s : Nat} (h : 0 < s) (hr : r ≤ 9218868437227405312) (hs : s ≤ 9218868437227405312) : sval (9223372036854775808 + r) < sval s := by
  rw [sval_sgn (by omega), sval_pos (by omega)]; have := mval_pos h; omega
theorem lt_zero' {r s : Nat} (h : 0 < r) (hr : r ≤ 9218868437227405312) (hs : s ≤ 9218868437227405312) : sval (9223372036854775808 + r) < sval s := by
  rw [sval_sgn (by omega), sval_pos (by omega)]; have := mval_pos h; omega
theorem up_above {f : Nat} (hl : f < 18446744073709551616) (hn : isN f = false) : (sval f < sval (upF f) ∧ f ≠ 9218868437227405312) ∨ (upF f = f ∧ f = 9218868437227405312) := by
  obtain ⟨r, hr, rfl | rfl⟩ := split_num hl hn
  · rw [up_pos hr]
    split
    · right; exact ⟨rfl, by assumption⟩
    · left; exact ⟨lt_pos (by omega) (by omega), by omega⟩
  · rw [up_neg hr]
    left
    refine ⟨?_, by omega⟩
    split
    · exact lt_zero (by omega) (by omega) (by omega)
    · exact lt_neg (by omega) (by omega)
theorem down_below {f : Nat} (hl : f < 18446744073709551616) (hn : isN f = false) : (sval (downF f) < sval f ∧ f ≠ 18442240474082181120) ∨ (downF f = f ∧ f = 18442240474082181120) := by
  obtain ⟨r, hr, rfl | rfl⟩ := split_num hl hn
  · rw [down_pos hr]
    left
    refine ⟨?_, by omega⟩
    split
    · exact lt_zero' (r := 1) (by omega) (by omega) (by omega)
    · exact lt_pos (by omega) (by omega)
  · rw [down_neg hr]
    split
    · right; exact ⟨rfl, by omega⟩
    · left; exact ⟨lt_neg (by omega) (by omega), by omega⟩
theorem stairsA {f : Nat} (hl : f < 18446744073709551616) (hn : isN f = false) : flt (upF f) f = false ∧ flt f (downF f) = false := by
  rw [flt_eq, flt_eq, hn, (up_ok hl hn).1, (down_ok hl hn).1]
  rcases up_above hl hn with ⟨h, _⟩ | ⟨h, _⟩ <;> rcases down_below hl hn with ⟨k, _⟩ | ⟨k, _⟩
  · simp; omega
  · rw [k]; simp; omega
  · rw [h]; simp; omega
  · rw [h, k]; simp
theorem stairsB {f : Nat} (hl : f < 18446744073709551616) (hn : isN f = false) : feq (upF f) f = isInf f 1 ∧ feq (downF f) f = isInf f (-1) := by
  rw [feq_eq, feq_eq, hn, (up_ok hl hn).1, (down_ok hl hn).1, infP_iff hl hn, infN_iff hl hn]
  constructor
  · rcases up_above hl hn with ⟨h, h'⟩ | ⟨h, h'⟩
    · rw [decide_eq_false h', decide_eq_false (by omega)]; rfl
    · rw [decide_eq_true h', h]; simp
  · rcases down_below hl hn with ⟨h, h'⟩ | ⟨h, h'⟩
    · rw [decide_eq_false h', decide_eq_false (by omega)]; rfl
    · rw [decide_eq_true h', h]; simp
theorem stairsC {f : Nat} (hl : f < 18446744073709551616) (hn : isN f = false) (h1 : isInf f 1 = false) (h2 : feq f 0 = false) (h3 : feq (upF f) 0 = false) :
    upF f = f + 1 ∨ f = upF f + 1 := by
  rw [feq_zero hn] at h2
  rw [infP_iff hl hn] at h1
  obtain ⟨r, hr, rfl | rfl⟩ := split_num hl hn
  · rw [up_pos hr]
    simp at h1
    rw [if_neg h1]; exact .inl rfl
  · rw [rung_neg hr] at h2
    simp at h2
    rw [up_neg hr, if_neg h2]
    right; omega
theorem small_one {f : Nat} (hl : f < 18446744073709551616) (hn : isN f = false) (h : fle (fabs f) 1 = true) : rung f ≤ 1 := by
  rw [fle_eq, isN_abs, hn, sval_abs hn, show isN 1 = false by decide +kernel, show sval 1 = ((mval 1 : Nat) : Int) by decide +kernel] at h
  simp at h
  exact mval_le_iff.1 (by omega)
theorem stairsD {f : Nat} (hl : f < 18446744073709551616) (hn : isN f = false) (h1 : fle (fabs f) 1 = true) (h2 : feq (upF f) 0 = false) (h3 : feq (upF f) 1 = false) : feq (upF f) 2 = true := by
  have hs := small_one hl hn h1
  obtain ⟨r, hr, rfl | rfl⟩ := split_num hl hn
  · rw [rung_pos hr] at hs
    have h : f = 0 ∨ f = 1 := by omega
    rcases h with rfl | rfl <;> revert h2 h3 <;> decide +kernel
  · rw [rung_neg hr] at hs
    have h : r = 0 ∨ r = 1 := by omega
    rcases h with rfl | rfl <;> revert h2 h3 <;> decide +kernel
theorem stairsE {f : Nat} (hl : f < 18446744073709551616) (hn : isN f = false) (h1 : fin f = true) (h2 : fin (upF f) = true) : feq (downF (upF f)) f = true := by
  have h1' := fin_rung h1
  have h2' := fin_rung h2
  obtain ⟨r, hr, rfl | rfl⟩ := split_num hl hn
  · rw [rung_pos hr] at h1'
    rw [up_pos hr, if_neg (by omega)] at h2' ⊢
    rw [rung_pos (by omega)] at h2'
    rw [down_pos (by omega), if_neg (by omega), Nat.add_sub_cancel, feq_self, hn]
    rfl
  · rw [rung_neg hr] at h1'
    rw [up_neg hr] at h2' ⊢
    by_cases h0 : r = 0
    · rw [if_pos h0, h0]; decide +kernel
    · rw [if_neg h0] at h2' ⊢
      rw [down_neg (by omega), if_neg (by omega), Nat.sub_add_cancel (by omega), feq_self, hn]
      rfl
def StairsCase (x : Nat) (b1 b2 z zu t u1 u2 fx fu : Bool) : Prop :=
  isInf x 1 = b1 ∧ isInf x (-1) = b2 ∧ feq x 0 = z ∧ feq (upF x) 0 = zu ∧ fle (fabs x) 1 = t ∧ feq (upF x) 1 = u1 ∧ feq (upF x) 2 = u2 ∧ fin x = fx ∧ fin (upF x) = fu
theorem stairs_mid {f : Nat} (hl : f < 18446744073709551616) (hn : isN f = false) (h1 : 1 < rung f) (h2 : rung f < 9218868437227405312) :
    isInf f 1 = false ∧ isInf f (-1) = false ∧ feq f 0 = false ∧ fle (fabs f) 1 = false ∧ fin f = true := by
  refine ⟨?_, ?_, ?_, ?_, ?_⟩
  · rw [infP_iff hl hn]; simp; intro h; rw [h] at h2; exact absurd h2 (by decide +kernel)
  · rw [infN_iff hl hn]; simp; intro h; rw [h] at h2; exact absurd h2 (by decide +kernel)
  · rw [feq_zero hn]; simp; omega
  · rw [fle_eq, isN_abs, hn, sval_abs hn, show isN 1 = false by decide +kernel, show sval 1 = ((mval 1 : Nat) : Int) by decide +kernel]
    have := mval_lt h1
    simp; omega
  · unfold fin; simp; exact h2
theorem feq_pos {r s : Nat} (h : r ≠ s) (hr : r ≤ 9218868437227405312) (hs : s ≤ 9218868437227405312) : feq r s = false := by
  rw [feq_eq, num_pos hr, num_pos hs, sval_pos (by omega), sval_pos (by omega)]
  simp
  intro h2
  exact h (mval_inj (by omega))
theorem feq_negpos {r s : Nat} (h : 0 < r) (hr : r ≤ 9218868437227405312) (hs : s ≤ 9218868437227405312) : feq (9223372036854775808 + r) s = false := by
  rw [feq_eq, num_neg hr, num_pos hs, sval_sgn (by omega), sval_pos (by omega)]
  have := mval_pos h
  simp; omega
theorem stairs_cases {f : Nat} (hl : f < 18446744073709551616) (hn : isN f = false) :
    StairsCase f true false false false false false false false false ∨ StairsCase f false true false false false false false false true ∨
    StairsCase f false false true false true true false true true ∨ StairsCase f false false false true true false false true true ∨ StairsCase f false false false false true false true true true ∨
    StairsCase f false false false false false false false true true ∨ StairsCase f false false false false false false false true false := by
  unfold StairsCase
  obtain ⟨r, hr, hf⟩ := split_num hl hn
  by_cases h0 : r = 0
  · subst h0
    refine .inr (.inr (.inl ?_))
    rcases hf with rfl | rfl <;> decide +kernel
  by_cases h1 : r = 1
  · subst h1
    rcases hf with rfl | rfl
    · refine .inr (.inr (.inr (.inr (.inl ?_)))); decide +kernel
    · refine .inr (.inr (.inr (.inl ?_))); decide +kernel
  by_cases h2 : r = 9218868437227405312
  · subst h2
    rcases hf with rfl | rfl
    · refine .inl ?_; decide +kernel
    · refine .inr (.inl ?_); decide +kernel
  by_cases h3 : f = 9218868437227405311
  · subst h3
    refine .inr (.inr (.inr (.inr (.inr (.inr ?_))))); decide +kernel
  refine .inr (.inr (.inr (.inr (.inr (.inl ?_)))))
  have hrr : rung f = r := by
    rcases hf with h | h
    · rw [h]; exact rung_pos hr
    · rw [h]; exact rung_neg hr
  obtain ⟨a1, a2, a3, a4, a5⟩ := stairs_mid hl hn (by omega) (by omega)
  rcases hf with h | h
  · have hu : upF f = r + 1 := by rw [h, up_pos hr, if_neg h2]
    rw [hu]
    refine ⟨a1, a2, a3, feq_pos (by omega) (by omega) (by omega), a4, feq_pos (by omega) (by omega) (by omega), feq_pos (by omega) (by omega) (by omega), a5, ?_⟩
    unfold fin; rw [rung_pos (by omega)]; simp; omega
  · have hu : upF f = 9223372036854775808 + (r - 1) := by rw [h, up_neg hr, if_neg h0]
    rw [hu]
    refine ⟨a1, a2, a3, feq_negpos (by omega) (by omega) (by omega), a4, feq_negpos (by omega) (by omega) (by omega), feq_negpos (by omega) (by omega) (by omega), a5, ?_⟩
    unfold fin; rw [rung_neg (by omega)]; simp; omega
theorem stairs_bits {f : Nat} (hl : f < 18446744073709551616) (hn : isN f = false) (h1 : isInf f 1 = false) (h2 : feq f 0 = false) (h3 : feq (upF f) 0 = false) :
    (2 < IntKind.u64.wrap (IntKind.u64.wrap ((upF f : Int) - (f : Int)) + 1)) = False := by
  apply eq_false
  rw [IntKind.wrap_u64, IntKind.wrap_u64]
  rcases stairsC hl hn h1 h2 h3 with h | h <;> omega
end Go.Proofs.YtndknkdfbjfjcaaDoor
