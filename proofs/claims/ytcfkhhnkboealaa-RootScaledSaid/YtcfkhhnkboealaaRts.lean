/- RootTrue's facts, put together for the walk. -/
import Derived.Test.YtcfkhhnkboealaaRt
import Derived.Test.YtcfkhhnkboealaaRq
namespace Go.Proofs.Ytcfkhhnkboealaa
open Go.RowKit
set_option linter.unusedVariables false
set_option linter.unusedSimpArgs false
set_option maxRecDepth 100000
theorem c48_val : qv 4391009636686233600 * qv 4391009636686233600 = 1024 * (uu * uu) := by
  have h := V.pos (r := 4391009636686233600) (by decide)
  have e : mval 4391009636686233600 * 281474976710656 = U := by decide +kernel
  have e1 : ((mval 4391009636686233600 * 281474976710656 : Nat) : Rat) = (U : Rat) := by rw [e]
  rw [cast_mul] at e1
  have e2 : ((281474976710656 : Nat) : Rat) = 281474976710656 := rfl
  rw [e2] at e1
  have hne := UQ_ne
  have h2 : qv 4391009636686233600 = 1 / 281474976710656 := by rw [h.val]; grind
  rw [h2]
  unfold uu
  decide +kernel
theorem len_zero {f g : Nat} (hf : V f 0) (hg : V g 0) : lenF f g = 0 := by
  obtain ⟨G, hG, _, _, g3⟩ := hf.great hg
  have e0 : ab (0 : Rat) = 0 := by decide +kernel
  have hG0 : G = 0 := by rcases g3 with h | h <;> rw [h, e0]
  subst hG0
  have hz : rung (greatF f g) = 0 := by
    rcases Nat.eq_zero_or_pos (rung (greatF f g)) with h | h
    · exact h
    · exfalso
      have h1 := hG.size
      have h2 := mval_pos h
      have h3 := div_self_mul (mval (rung (greatF f g)) : Rat) UQ_ne
      rw [← h1, e0] at h3
      have : ((1 : Nat) : Rat) ≤ (mval (rung (greatF f g)) : Rat) := cast_le.2 h2
      have e : ((1 : Nat) : Rat) = 1 := rfl
      grind
  have hfe : feq (greatF f g) 0 = true := by rw [feq_zero (fin_notN hG.fin), hz]; rfl
  unfold lenF
  rw [isInf_fin hf.fin, isInf_fin hg.fin, fin_notN hf.fin, fin_notN hg.fin, hfe]
  rfl
theorem unit_sq {f : Nat} {x : Rat} (hf : V f x) (h : x ≠ 0) : 1 / (U : Rat) * (1 / (U : Rat)) ≤ x * x := by
  have hU := UQ_pos
  have h1 := mval_pos (Nat.pos_of_ne_zero (hf.nz h))
  have h2 : 1 / (U : Rat) ≤ ab x := by
    rw [hf.size, div_le hU, div_self_mul _ UQ_ne]
    have := cast_le.2 (show 1 ≤ mval (rung f) from h1)
    exact this
  have h0 : (0 : Rat) ≤ 1 / (U : Rat) := (le_div hU).2 (by grind)
  have := mul_mono h0 h2 h0 h2
  rw [sq_ab'] at this
  exact this
/-- what the law asks of the length. -/
structure LenOk (l : Nat) (N : Rat) : Prop where
  le : l ≤ 9218868437227405312
  lo : qv ((if l = 9218868437227405312 then 9218868437227405311 else l) - 4) * qv ((if l = 9218868437227405312 then 9218868437227405311 else l) - 4) ≤ N
  hi : l < 9218868437227405312 → N ≤ (abN l : Rat) / (U : Rat) * ((abN l : Rat) / (U : Rat))
  z : l = 0 ↔ N = 0
theorem len_fine {f g : Nat} {x y : Rat} (hf : V f x) (hg : V g y) : LenOk (lenF f g) (x * x + y * y) := by
  have key : ∀ m : Nat, m < 9218868437227405312 → qv m = (mval m : Rat) / (U : Rat) := fun m hm => (V.pos hm).val
  by_cases h0 : x ≠ 0 ∨ y ≠ 0
  · obtain ⟨T, t0, t1, t2, t3⟩ := len_true hf hg h0
    have n1 := sq_nn x
    have n2 := sq_nn y
    have hN : 1 / (U : Rat) * (1 / (U : Rat)) ≤ x * x + y * y := by
      rcases h0 with h | h
      · have := unit_sq hf h; grind
      · have := unit_sq hg h; grind
    obtain ⟨s1, s2, s3⟩ := len_sides t0 t1 t2 t3 hN
    have hle : lenF f g ≤ 9218868437227405312 := by rcases t3 with ⟨h, _⟩ | ⟨h, _⟩ <;> omega
    refine ⟨hle, ?_, s2, ?_⟩
    · rw [key _ (by split <;> omega)]; exact s1
    · constructor
      · intro h; exact absurd h s3
      · intro h
        exfalso
        rcases h0 with k | k
        · apply k
          have : x * x = 0 := by grind
          rcases Rat.mul_eq_zero.1 this with e | e <;> exact e
        · apply k
          have : y * y = 0 := by grind
          rcases Rat.mul_eq_zero.1 this with e | e <;> exact e
  · have hx : x = 0 := by by_cases h : x = 0; exact h; exact absurd (.inl h) h0
    have hy : y = 0 := by by_cases h : y = 0; exact h; exact absurd (.inr h) h0
    subst hx hy
    rw [len_zero hf hg]
    have e : (0 : Rat) * 0 + 0 * 0 = 0 := by decide +kernel
    refine ⟨by decide, ?_, fun _ => ?_, ⟨fun _ => e, fun _ => rfl⟩⟩
    · rw [if_neg (by decide), key _ (by decide), show 0 - 4 = 0 by rfl, mval_zero, e]
      have : ((0 : Nat) : Rat) / (U : Rat) = 0 := by grind
      rw [this]; decide +kernel
    · rw [e]; exact sq_nn _
/-- what the law asks of the root. -/
theorem root_fine {f g : Nat} {x y : Rat} (hf : V f x) (hg : V g y) :
    ∃ u v, V (rootX f g) u ∧ V (rootY f g) v ∧ (u * u - v * v - x) * (u * u - v * v - x) + (u * v + u * v - y) * (u * v + u * v - y) ≤ (x * x + y * y) * (qv 4391009636686233600 * qv 4391009636686233600) := by
  rw [c48_val]
  by_cases h0 : x ≠ 0 ∨ y ≠ 0
  · obtain ⟨u, v, h1, h2, h3⟩ := root_true hf hg h0
    refine ⟨u, v, h1, h2, ?_⟩
    have e : u * v + u * v - y = 2 * u * v - y := by grind
    rw [e]
    exact h3
  · have hx : x = 0 := by by_cases h : x = 0; exact h; exact absurd (.inl h) h0
    have hy : y = 0 := by by_cases h : y = 0; exact h; exact absurd (.inr h) h0
    subst hx hy
    obtain ⟨e1, e2⟩ := root_zero hf hg
    rw [e1, e2]
    have hz := V.pos (r := 0) (by decide)
    rw [mval_zero] at hz
    have : ((0 : Nat) : Rat) / (U : Rat) = 0 := by grind
    rw [this] at hz
    exact ⟨0, 0, hz, hg, by unfold uu; decide +kernel⟩
theorem cmpS_le {c : Int} {r s : Rat} (h : CmpS c r s) (k : r ≤ s) : c ≤ 0 := h.1.2 k
theorem cmpS_ge {c : Int} {r s : Rat} (h : CmpS c r s) (k : s ≤ r) : 0 ≤ c := h.2.2 k
theorem cmpS_none {c : Int} {N : Rat} (h : CmpS c N 0) (k : N = 0) : c = 0 := by
  unfold CmpS at h
  rw [k] at h
  have a := h.1.2 Rat.le_refl
  have b := h.2.2 Rat.le_refl
  omega
theorem cmpS_some {c : Int} {N : Rat} (h : CmpS c N 0) (k : N ≠ 0) : c ≠ 0 := by
  intro hc
  unfold CmpS at h
  have a := h.1.1 (by omega)
  have b := h.2.1 (by omega)
  exact k (Rat.le_antisymm a b)
theorem cmpS_zero {c : Int} {l : Nat} {N : Rat} (h : CmpS c N 0) (hl : l < 9218868437227405312) (k : l = 0 ↔ N = 0) : ∃ b, feq l 0 = b ∧ (c = 0 ↔ b = true) := by
  refine ⟨decide (l = 0), ?_, ?_⟩
  · rw [feq_zero (num_pos (Nat.le_of_lt hl)), rung_pos (Nat.le_of_lt hl)]
  · rw [decide_eq_true_iff, k]
    unfold CmpS at h
    constructor
    · intro hc
      have a := h.1.1 (by omega)
      have b := h.2.1 (by omega)
      exact Rat.le_antisymm a b
    · intro hN
      rw [hN] at h
      have a := h.1.2 Rat.le_refl
      have b := h.2.2 Rat.le_refl
      omega
end Go.Proofs.Ytcfkhhnkboealaa
