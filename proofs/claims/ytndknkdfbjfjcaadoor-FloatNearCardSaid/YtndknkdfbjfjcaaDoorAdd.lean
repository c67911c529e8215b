/- Sums, differences and products of finite floats: the exact worth, rounded once. No condition. -/
import Derived.Test.YtndknkdfbjfjcaaDoorRnd
import Derived.Test.YtndknkdfbjfjcaaDoorStairsB
namespace Go.Proofs.YtndknkdfbjfjcaaDoor
set_option linter.unusedVariables false

/-- a rung with a sign -/
def wd (s : Bool) (r : Nat) : Nat := if s then 9223372036854775808 + r else r
theorem word_eq (s : Bool) (r : Nat) : Ieee.double.word s r = wd s r := by
  unfold Ieee.Format.word wd
  rw [show Ieee.double.signWeight = 9223372036854775808 by decide +kernel]
theorem rndQ_le (m d : Nat) : rndQ m d ≤ 9218868437227405312 := by
  unfold rndQ; split
  · omega
  · exact Nat.min_le_right ..
theorem rndN_le (m : Nat) : rndN m ≤ 9218868437227405312 := rndQ_le m 0
theorem wd_lt {s : Bool} {r : Nat} (h : r ≤ 9218868437227405312) : wd s r < 18446744073709551616 := by unfold wd; split <;> omega
theorem wd_notN {s : Bool} {r : Nat} (h : r ≤ 9218868437227405312) : isN (wd s r) = false := by
  unfold wd; split
  · exact num_neg h
  · exact num_pos h
theorem wd_rung {s : Bool} {r : Nat} (h : r ≤ 9218868437227405312) : rung (wd s r) = r := by
  unfold wd; split
  · exact rung_neg h
  · exact rung_pos h
theorem wd_sgn {s : Bool} {r : Nat} (h : r ≤ 9218868437227405312) : sgn (wd s r) = s := by
  unfold wd; cases s
  · simp; exact sgn_rung (by omega)
  · simp; unfold sgn; simp; omega
theorem wd_sval {s : Bool} {r : Nat} (h : r ≤ 9218868437227405312) : sval (wd s r) = if s then -(mval r : Int) else (mval r : Int) := by
  unfold sval; rw [wd_sgn h, wd_rung h]
theorem wd_neg {s : Bool} {r : Nat} (h : r ≤ 9218868437227405312) : fneg (wd s r) = wd (!s) r := by
  rw [fneg_of (wd_lt h) (wd_notN h), wd_sgn h, wd_rung h]
  unfold wd; cases s <;> simp <;> omega
theorem num_wd {f : Nat} (hl : f < 18446744073709551616) : f = wd (sgn f) (rung f) := by
  unfold wd; split
  · rename_i h; exact sgn_true h hl
  · rename_i h; exact sgn_false (by simpa using h) hl

theorem signed_scaled (s : Bool) (m k b : Nat) (h : b ≤ k) : Ieee.signed s m (k - b) * ((2 ^ b : Nat) : Int) = Ieee.signed s m k := by
  rw [← signed_scale, Nat.sub_add_cancel h]
theorem sval_signed {f m k : Nat} (h : mval (rung f) = m * 2 ^ k) : sval f = Ieee.signed (sgn f) m k := by
  rw [signed_eq]; unfold sval; rw [h]

/-- THE SUM of two finite floats -/
theorem fadd_fin {f g : Nat} (hf : fin f = true) (hg : fin g = true) :
    fadd f g = wd (if sval f + sval g = 0 then sgn f && sgn g else decide (sval f + sval g < 0)) (rndN (sval f + sval g).natAbs) := by
  obtain ⟨m, k, hr, hm, _⟩ := read_number (fin_rung hf)
  obtain ⟨n, j, hs, hn, _⟩ := read_number (fin_rung hg)
  rw [add_def, hr, hs]
  have hb : min (-1074 + (k : Int)) (-1074 + (j : Int)) = -1074 + ((min k j : Nat) : Int) := by omega
  have h1 : (-1074 + (k : Int) - (-1074 + ((min k j : Nat) : Int))).toNat = k - min k j := by omega
  have h2 : (-1074 + (j : Int) - (-1074 + ((min k j : Nat) : Int))).toNat = j - min k j := by omega
  simp only [Ieee.Datum.sum, hb, h1, h2, Option.map_some, canon]
  show Ieee.double.nearest _ _ _ = _
  rw [nearest_int, word_eq]
  have e1 := signed_scaled (sgn f) m k (min k j) (Nat.min_le_left ..)
  have e2 := signed_scaled (sgn g) n j (min k j) (Nat.min_le_right ..)
  rw [sval_signed hm, sval_signed hn, ← e1, ← e2, ← Int.add_mul]
  generalize Ieee.signed (sgn f) m (k - min k j) + Ieee.signed (sgn g) n (j - min k j) = T
  have hp : (0 : Int) < ((2 ^ min k j : Nat) : Int) := by exact_mod_cast Nat.two_pow_pos (min k j)
  generalize ((2 ^ min k j : Nat)) = c at *
  have e3 : T * (c : Int) = 0 ↔ T = 0 := by
    constructor
    · intro h; rcases Int.mul_eq_zero.1 h with h | h
      · exact h
      · omega
    · intro h; rw [h]; simp
  have e4 : T * (c : Int) < 0 ↔ T < 0 := by
    constructor
    · intro h
      rcases Int.lt_or_le T 0 with h2 | h2
      · exact h2
      · have := Int.mul_nonneg h2 (Int.le_of_lt hp); omega
    · intro h; exact Int.mul_neg_of_neg_of_pos h hp
  simp only [e3, e4]
  rw [Int.natAbs_mul, Int.natAbs_natCast]
theorem read_xor {g : Nat} (hg : g < 18446744073709551616) (hn : isN g = false) : Ieee.double.read (g ^^^ 9223372036854775808) = (Ieee.double.read g).opposite := by
  by_cases h : rung g = 9218868437227405312
  · rw [read_inf h, read_inf (by rw [rung_xor]; exact h), sgn_xor hg]; rfl
  · have hb := (notN_iff g).1 hn
    rw [read_eq, read_eq]
    dsimp only
    have e1 : (g ^^^ 9223372036854775808) % 9223372036854775808 = g % 9223372036854775808 := xor_sign_mod g
    have e2 : ((g ^^^ 9223372036854775808) / 9223372036854775808 % 2 == 1) = !(g / 9223372036854775808 % 2 == 1) := sgn_xor hg
    rw [e1, e2]
    have hr : g % 9223372036854775808 = rung g := rfl
    rw [hr]
    split
    · rfl
    · split
      · rfl
      · omega
theorem fsub_eq {f g : Nat} (hg : g < 18446744073709551616) : fsub f g = fadd f (fneg g) := by
  rw [sub_def, add_def]
  cases hn : isN g
  · unfold fneg; rw [hn]
    simp only [Bool.false_eq_true, if_false]
    rw [read_xor hg hn]
  · rw [sum_none _ _ (.inr ((opposite_isNaN _).trans hn)), sum_none _ _ (.inr ((isN_neg g).trans hn))]
theorem fin_neg (f : Nat) : fin (fneg f) = fin f := by
  unfold fin fneg
  cases hn : isN f
  · simp only [Bool.false_eq_true, if_false]; rw [rung_xor]
  · simp only [if_true]
    rw [isN_iff] at hn
    unfold rung
    have : ¬ f % 9223372036854775808 < 9218868437227405312 := by omega
    rw [decide_eq_false this]; decide +kernel
theorem fsub_fin {f g : Nat} (hf : fin f = true) (hg : fin g = true) (hl : g < 18446744073709551616) :
    fsub f g = wd (if sval f - sval g = 0 then sgn f && !sgn g else decide (sval f - sval g < 0)) (rndN (sval f - sval g).natAbs) := by
  rw [fsub_eq hl, fadd_fin hf (by rw [fin_neg]; exact hg), sval_neg hl (fin_notN hg)]
  have e : sgn (fneg g) = !sgn g := by
    unfold fneg; rw [fin_notN hg]; exact sgn_xor hl
  rw [e, Int.sub_eq_add_neg]
theorem rndQ_up (m c k : Nat) (h : c ≤ k) : rndN (m * 2 ^ (k - c)) = rndQ (m * 2 ^ k) c := by
  have := rndQ_scale (m * 2 ^ (k - c)) 0 c
  rw [Nat.mul_assoc, ← Nat.pow_add, Nat.sub_add_cancel h, Nat.zero_add] at this
  rw [this]; rfl
/-- THE PRODUCT of two finite floats -/
theorem fmul_fin {f g : Nat} (hf : fin f = true) (hg : fin g = true) :
    fmul f g = wd (sgn f ^^ sgn g) (rndQ (mval (rung f) * mval (rung g)) 1074) := by
  obtain ⟨m, k, hr, hm, _⟩ := read_number (fin_rung hf)
  obtain ⟨n, j, hs, hn, _⟩ := read_number (fin_rung hg)
  rw [mul_def, hr, hs]
  simp only [Ieee.Datum.product, Option.map_some, canon]
  show Ieee.double.nearest _ _ _ = _
  have e : mval (rung f) * mval (rung g) = m * n * 2 ^ (k + j) := by rw [hm, hn, Nat.pow_add, Nat.mul_mul_mul_comm]
  rw [e]
  by_cases h : k + j ≤ 1074
  · rw [show (-1074 + (k : Int) + (-1074 + (j : Int))) = -1074 - ((1074 - (k + j) : Nat) : Int) by omega, nearest_frac, word_eq]
    have := rndQ_scale (m * n) (1074 - (k + j)) (k + j)
    rw [Nat.sub_add_cancel h] at this
    rw [this]
  · rw [show (-1074 + (k : Int) + (-1074 + (j : Int))) = -1074 + ((k + j - 1074 : Nat) : Int) by omega, nearest_int, word_eq]
    rw [show rndN (m * n * 2 ^ (k + j - 1074)) = rndQ (m * n * 2 ^ (k + j)) 1074 from rndQ_up _ _ _ (by omega)]
end Go.Proofs.YtndknkdfbjfjcaaDoor
