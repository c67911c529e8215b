/- Euclid's steps, several at once (Lehmer, Collins' end): what a row of quotients of the first bits does to the numbers themselves. Plain. -/
import Derived.Test.YtcfkhhnkboealaaRows
namespace Go.Proofs.Ytcfkhhnkboealaa
set_option linter.unusedVariables false
set_option linter.unusedSimpArgs false
/-- the rows ahead of a step: the tops X, Y out of x, y, and (from the first step on) out of the x before, p, and x. -/
structure Leh (X Y : Nat) (even : Bool) (x y u0 u1 u2 v0 v1 v2 p : Nat) : Prop where
  now1 : X = v2 * x + v1 * y
  now2 : Y = u2 * x + u1 * y
  le : y ≤ x
  v2pos : 1 ≤ v2
  xpos : 1 ≤ x
  det : (v2 * u1 : Int) - v1 * u2 = if even then -1 else 1
  uv2 : u2 ≤ v2
  was : (u0 = 0 ∧ u1 = 1 ∧ v0 = 0 ∧ v1 = 0 ∧ u2 = 0 ∧ v2 = 1) ∨
    (X = v1 * p + v0 * x ∧ Y = u1 * p + u0 * x ∧ v1 ≤ x ∧ v0 + v1 + x ≤ p ∧ 1 ≤ v1 ∧ v1 ≤ v2 ∧ u1 ≤ v1 ∧ (v0 = 0 ∨ (u0 ≤ v0 ∧ v0 ≤ v1)) ∧ (v1 * u0 : Int) - v0 * u1 = (if even then 1 else -1))
theorem leh_start {X Y : Nat} (h : Y ≤ X) (hX : 1 ≤ X) : Leh X Y false X Y 0 1 0 0 0 1 0 :=
  ⟨by omega, by omega, h, by decide, hX, by decide, by decide, .inl ⟨rfl, rfl, rfl, rfl, rfl, rfl⟩⟩
theorem leh_step {X Y : Nat} {even : Bool} {x y u0 u1 u2 v0 v1 v2 p q : Nat} (h : Leh X Y even x y u0 u1 u2 v0 v1 v2 p) (h1 : v2 ≤ y) (h2 : v1 + v2 ≤ x - y) (hq : q = x / y) :
    Leh X Y (!even) y (x - q * y) u1 u2 (u1 + q * u2) v1 v2 (v1 + q * v2) x := by
  have hv := h.v2pos
  have hle := h.le
  have hy : 0 < y := by omega
  have hm := Nat.div_add_mod x y
  have hlt := Nat.mod_lt x hy
  have hq1 : 1 ≤ q := by rw [hq]; exact (Nat.one_le_div_iff hy).2 hle
  obtain ⟨r, hr⟩ : ∃ r, r = x - q * y := ⟨_, rfl⟩
  have hx : x = q * y + r := by rw [← hq, Nat.mul_comm] at hm; omega
  rw [← hr]
  have hry : r < y := by rw [← hq, Nat.mul_comm] at hm; omega
  refine ⟨?_, ?_, by omega, ?_, hy, ?_, ?_, .inr ⟨?_, ?_, h1, ?_, hv, ?_, h.uv2, ?_, ?_⟩⟩
  · rw [h.now1]; rw [show v2 * x = v2 * (q * y + r) by rw [← hx], Nat.mul_add, Nat.add_mul]
    have : v2 * (q * y) = q * v2 * y := by ac_rfl
    omega
  · rw [h.now2]; rw [show u2 * x = u2 * (q * y + r) by rw [← hx], Nat.mul_add, Nat.add_mul]
    have : u2 * (q * y) = q * u2 * y := by ac_rfl
    omega
  · have : v2 ≤ q * v2 := Nat.le_mul_of_pos_left _ hq1
    omega
  · have hd := h.det
    have : ((v1 + q * v2 : Nat) : Int) * (u2 : Int) - (v2 : Int) * ((u1 + q * u2 : Nat) : Int) = -((v2 * u1 : Int) - v1 * u2) := by
      rw [Int.natCast_add, Int.natCast_add, Int.natCast_mul, Int.natCast_mul, Int.add_mul, Int.mul_add]
      have e : (q : Int) * v2 * u2 = v2 * (q * u2) := by rw [Int.mul_comm (q : Int), Int.mul_assoc]
      omega
    rw [this, hd]
    cases even <;> rfl
  · have : q * u2 ≤ q * v2 := Nat.mul_le_mul_left _ h.uv2
    rcases h.was with ⟨_, rfl, _, rfl, rfl, rfl⟩ | ⟨_, _, _, _, _, _, hu, _⟩
    · omega
    · omega
  · exact h.now1
  · exact h.now2
  · omega
  · have : v2 ≤ q * v2 := Nat.le_mul_of_pos_left _ hq1
    omega
  · rcases h.was with ⟨_, rfl, _, rfl, rfl, rfl⟩ | ⟨_, _, _, _, a, b, c, _⟩
    · left; rfl
    · right; exact ⟨c, b⟩
  · rw [h.det]; cases even <;> rfl
/-- WHAT COMES OF THE NUMBERS: the rows put to the numbers themselves. -/
theorem leh_end {A B X Y P a b : Nat} {even : Bool} {x y u0 u1 u2 v0 v1 v2 p : Nat} (h : Leh X Y even x y u0 u1 u2 v0 v1 v2 p) (h0 : v0 ≠ 0) (ha : A = X * P + a) (hb : B = Y * P + b) (la : a < P) (lb : b < P) :
    ∃ A' B' : Nat, (A' : Int) = (if even then (u0 : Int) * A - v0 * B else v0 * B - u0 * A) ∧ (B' : Int) = (if even then (v1 : Int) * B - u1 * A else u1 * A - v1 * B) ∧ B' ≤ A' ∧ A' + B' ≤ A ∧
      A = v1 * A' + v0 * B' ∧ B = u1 * A' + u0 * B' ∧ u0 ≤ v0 ∧ u1 ≤ v1 ∧ v0 ≤ v1 ∧ v1 * v1 ≤ X := by
  rcases h.was with ⟨_, _, e, _⟩ | ⟨w1, w2, w3, w4, w5, w6, w7, w8, w9⟩
  · exact absurd e h0
  obtain ⟨w8, w10⟩ := w8.resolve_left h0
  have hxp : v1 * v1 ≤ X := by
    have := Nat.mul_le_mul_left v1 (show v1 ≤ p by omega)
    omega
  -- bounds of products
  have b1 : v1 * b ≤ v1 * P := Nat.mul_le_mul_left _ (by omega)
  have b2 : u1 * a ≤ v1 * P := Nat.mul_le_mul w7 (by omega)
  have b3 : v1 * P ≤ x * P := Nat.mul_le_mul_right _ w3
  have b4 : (v0 + v1) * b ≤ (v0 + v1) * P := Nat.mul_le_mul_left _ (by omega)
  have b5 : (u0 + u1) * a ≤ (v0 + v1) * P := Nat.mul_le_mul (by omega) (by omega)
  have b6 : (v0 + v1 + x) * P ≤ p * P := Nat.mul_le_mul_right _ w4
  have key : ∀ A' B' : Int, A = v1 * A' + v0 * B' → B = u1 * A' + u0 * B' → A' = (if even then (u0 : Int) * A - v0 * B else v0 * B - u0 * A) → B' = (if even then (v1 : Int) * B - u1 * A else u1 * A - v1 * B) → 0 ≤ B' → B' ≤ A' →
      ∃ A' B' : Nat, (A' : Int) = (if even then (u0 : Int) * A - v0 * B else v0 * B - u0 * A) ∧ (B' : Int) = (if even then (v1 : Int) * B - u1 * A else u1 * A - v1 * B) ∧ B' ≤ A' ∧ A' + B' ≤ A ∧
      A = v1 * A' + v0 * B' ∧ B = u1 * A' + u0 * B' ∧ u0 ≤ v0 ∧ u1 ≤ v1 ∧ v0 ≤ v1 ∧ v1 * v1 ≤ X := by
    intro A' B' e1 e2 e3 e4 k1 k2
    obtain ⟨A', rfl⟩ := Int.eq_ofNat_of_zero_le (Int.le_trans k1 k2)
    obtain ⟨B', rfl⟩ := Int.eq_ofNat_of_zero_le k1
    have f1 : A = v1 * A' + v0 * B' := by exact_mod_cast e1
    have f2 : B = u1 * A' + u0 * B' := by exact_mod_cast e2
    have f3 : A' ≤ v1 * A' := Nat.le_mul_of_pos_left _ w5
    have f4 : B' ≤ v0 * B' := Nat.le_mul_of_pos_left _ (by omega)
    exact ⟨A', B', e3, e4, by omega, by omega, f1, f2, w8, w7, w10, hxp⟩
  have cA : (A : Int) = X * P + a := by exact_mod_cast ha
  have cB : (B : Int) = Y * P + b := by exact_mod_cast hb
  have cX : (X : Int) = v1 * p + v0 * x := by exact_mod_cast w1
  have cY : (Y : Int) = u1 * p + u0 * x := by exact_mod_cast w2
  have c1 : (v1 : Int) * b ≤ v1 * P := by exact_mod_cast b1
  have c2 : (u1 : Int) * a ≤ v1 * P := by exact_mod_cast b2
  have c3 : (v1 : Int) * P ≤ x * P := by exact_mod_cast b3
  have c4 : ((v0 : Int) + v1) * b ≤ (v0 + v1) * P := by exact_mod_cast b4
  have c5 : ((u0 : Int) + u1) * a ≤ (v0 + v1) * P := by exact_mod_cast b5
  have c6 : ((v0 : Int) + v1 + x) * P ≤ p * P := by exact_mod_cast b6
  have d1 : (0 : Int) ≤ v1 * b := by exact_mod_cast Nat.zero_le _
  have d2 : (0 : Int) ≤ u1 * a := by exact_mod_cast Nat.zero_le _
  have d3 : (0 : Int) ≤ ((v0 : Int) + v1) * b := by exact_mod_cast Nat.zero_le _
  have d4 : (0 : Int) ≤ ((u0 : Int) + u1) * a := by exact_mod_cast Nat.zero_le _
  cases even with
  | true =>
    simp only [if_pos] at w9 key ⊢
    have e3 : (u0 : Int) * A - v0 * B = P * p + (u0 * a - v0 * b) := by rw [cA, cB, cX, cY]; grind
    have e4 : (v1 : Int) * B - u1 * A = P * x + (v1 * b - u1 * a) := by rw [cA, cB, cX, cY]; grind
    refine key _ _ ?_ ?_ rfl rfl ?_ ?_
    · grind
    · grind
    · rw [e4]; grind
    · rw [e3, e4]; grind
  | false =>
    simp only [Bool.false_eq_true, if_false] at w9 key ⊢
    have e3 : (v0 : Int) * B - u0 * A = P * p + (v0 * b - u0 * a) := by rw [cA, cB, cX, cY]; grind
    have e4 : (u1 : Int) * A - v1 * B = P * x + (u1 * a - v1 * b) := by rw [cA, cB, cX, cY]; grind
    refine key _ _ ?_ ?_ rfl rfl ?_ ?_
    · grind
    · grind
    · rw [e4]; grind
    · rw [e3, e4]; grind
end Go.Proofs.Ytcfkhhnkboealaa
