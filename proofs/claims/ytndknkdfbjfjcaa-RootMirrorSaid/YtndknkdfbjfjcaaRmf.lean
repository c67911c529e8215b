/- Lengths: not above the sum of parts that are not far from each other. Plain. -/
import Derived.Test.YtndknkdfbjfjcaaRme
namespace Go.Proofs.Ytndknkdfbjfjcaa
set_option linter.unusedVariables false
set_option linter.unusedSimpArgs false
set_option maxRecDepth 100000
theorem chain1 {S T3 Ta Tb A B W c k : Nat} (h1 : S * k * (S * k) ≤ T3 * W * (c * c)) (h2 : T3 * k ≤ (Ta + Tb) * c) (h3 : Ta * W * k ≤ A * A * c) (h4 : Tb * W * k ≤ B * B * c) : S * S * (k * k * (k * k)) ≤ (A * A + B * B) * (c * c * (c * c)) := by
  calc S * S * (k * k * (k * k)) = (S * k * (S * k)) * (k * k) := by ac_rfl
    _ ≤ T3 * W * (c * c) * (k * k) := Nat.mul_le_mul_right _ h1
    _ = (T3 * k) * (W * (c * c) * k) := by ac_rfl
    _ ≤ ((Ta + Tb) * c) * (W * (c * c) * k) := Nat.mul_le_mul_right _ h2
    _ = (Ta * W * k + Tb * W * k) * (c * c * c) := by rw [Nat.mul_assoc, Nat.add_mul Ta Tb, Nat.add_mul (Ta * W * k)]; congr 1 <;> ac_rfl
    _ ≤ (A * A * c + B * B * c) * (c * c * c) := Nat.mul_le_mul_right _ (Nat.add_le_add h3 h4)
    _ = (A * A + B * B) * (c * c * (c * c)) := by rw [← Nat.add_mul, Nat.mul_assoc]; congr 1; ac_rfl
theorem chain2 {S A B P y c k x : Nat} (e1 : S * S * (k * k * (k * k)) ≤ (A * A + B * B) * (c * c * (c * c))) (h5 : B * P * k ≤ y * c) (h6 : A * P = x) (hk : k ≤ c) :
    (S * P) * (S * P) * (k * k * (k * k) * (k * k)) ≤ (x * x + y * y) * (c * c * (c * c) * (c * c)) := by
  have e3 := sq_le h5
  calc (S * P) * (S * P) * (k * k * (k * k) * (k * k)) = S * S * (k * k * (k * k)) * (P * P * (k * k)) := by ac_rfl
    _ ≤ (A * A + B * B) * (c * c * (c * c)) * (P * P * (k * k)) := Nat.mul_le_mul_right _ e1
    _ = ((A * P) * (A * P) * (k * k) + (B * P * k) * (B * P * k)) * (c * c * (c * c)) := by
      rw [Nat.add_mul, Nat.add_mul, Nat.add_mul]; congr 1 <;> ac_rfl
    _ ≤ (x * x * (c * c) + (y * c) * (y * c)) * (c * c * (c * c)) := by
      refine Nat.mul_le_mul_right _ (Nat.add_le_add ?_ e3)
      rw [h6]; exact Nat.mul_le_mul_left _ (sq_le hk)
    _ = (x * x + y * y) * (c * c * (c * c) * (c * c)) := by
      rw [Nat.mul_mul_mul_comm y c, ← Nat.add_mul, Nat.mul_assoc]; congr 1; ac_rfl
theorem chain3 {x y C D R : Nat} (hC : C ≤ D + R) (hR : 1073741824 * R ≤ D) (hyx : y ≤ x) (hxy : x ≤ y * 536870912) : (x * x + y * y) * C ≤ (x + y) * (x + y) * D := by
  have h1 : (x * x + y * y) * C ≤ (x * x + y * y) * D + (x * x + y * y) * R := by rw [← Nat.mul_add]; exact Nat.mul_le_mul_left _ hC
  have h2 : y * y ≤ x * x := sq_le hyx
  have h3 : (x * x + y * y) * R ≤ (2 * (x * x)) * R := Nat.mul_le_mul_right _ (by omega)
  have h4 : x * x ≤ x * (y * 536870912) := Nat.mul_le_mul_left _ hxy
  have h5 : (2 * (x * x)) * R ≤ (2 * (x * (y * 536870912))) * R := Nat.mul_le_mul_right _ (Nat.mul_le_mul_left _ h4)
  have h6 : (2 * (x * (y * 536870912))) * R = (x * y) * (1073741824 * R) := by
    rw [← Nat.mul_assoc x y, Nat.mul_comm 2, Nat.mul_assoc (x * y), show 536870912 * 2 = 1073741824 by decide, Nat.mul_assoc]
  have h7 : (x * y) * (1073741824 * R) ≤ (x * y) * D := Nat.mul_le_mul_left _ hR
  have h8 : (x + y) * (x + y) * D = (x * x + y * y) * D + 2 * ((x * y) * D) := by
    rw [sq_add, Nat.add_mul, Nat.add_mul, Nat.add_mul, Nat.mul_assoc 2]; omega
  rw [h8]
  omega
theorem chain {S T3 Ta Tb A B W P x y : Nat} (h1 : S * 9007199254740991 * (S * 9007199254740991) ≤ T3 * W * (9007199254740992 * 9007199254740992)) (h2 : T3 * 9007199254740991 ≤ (Ta + Tb) * 9007199254740992) (h3 : Ta * W * 9007199254740991 ≤ A * A * 9007199254740992) (h4 : Tb * W * 9007199254740991 ≤ B * B * 9007199254740992)
    (h5 : B * P * 9007199254740991 ≤ y * 9007199254740992) (h6 : A * P = x) (hyx : y ≤ x) (hxy : x ≤ y * 536870912) : S * P ≤ x + y := by
  have e1 := chain2 (chain1 h1 h2 h3 h4) h5 h6 (by decide)
  have e2 := Nat.le_trans e1 (chain3 (x := x) (y := y) (D := 9007199254740991 * 9007199254740991 * (9007199254740991 * 9007199254740991) * (9007199254740991 * 9007199254740991)) (R := 9007199254740992 * 9007199254740992 * (9007199254740992 * 9007199254740992) * (9007199254740992 * 9007199254740992) - 9007199254740991 * 9007199254740991 * (9007199254740991 * 9007199254740991) * (9007199254740991 * 9007199254740991)) (by decide +kernel) (by decide +kernel) hyx hxy)
  have e3 := Nat.le_of_mul_le_mul_right e2 (by decide +kernel)
  rcases Nat.lt_or_ge (x + y) (S * P) with h | h
  · have := Nat.mul_lt_mul_of_lt_of_lt h h
    omega
  · exact h
end Go.Proofs.Ytndknkdfbjfjcaa
