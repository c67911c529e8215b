/- Sums, products and first bits of words, in plain numbers. Plain. -/
import Derived.Test.YtcfkhhnkboealaaWdb
namespace Go.Proofs.Ytcfkhhnkboealaa
set_option linter.unusedVariables false
set_option linter.unusedSimpArgs false
theorem wv_take_succD (l : List Nat) (i : Nat) : wv (l.take (i + 1)) = wv (l.take i) + 4294967296 ^ i * l.getD i 0 := by
  by_cases h : i < l.length
  · rw [wv_take_succ l i h, gd_lt h]
  · rw [List.take_of_length_le (by omega), List.take_of_length_le (by omega), gd_ge (by omega), Nat.mul_zero, Nat.add_zero]
/-- columns: the words of p A + q B, from the least one on. -/
structure ColRel (la lb : List Nat) (p q : Int) (n i : Nat) (c : Int) (xs : List Nat) : Prop where
  len : xs.length = n
  sm : Sm xs
  val : (wv (xs.take i) : Int) + ((4294967296 ^ i : Nat) : Int) * c = p * (wv (la.take i) : Nat) + q * (wv (lb.take i) : Nat)
theorem col_start (la lb : List Nat) (p q : Int) (n : Nat) : ColRel la lb p q n 0 0 (List.replicate n 0) :=
  ⟨by simp, sm_replicate _, by simp [wv]⟩
theorem col_step {la lb xs : List Nat} {p q c c' : Int} {n i x : Nat} (h : ColRel la lb p q n i c xs) (hi : i < n) (hx : x < 4294967296)
    (e : (x : Int) + 4294967296 * c' = p * (la.getD i 0 : Nat) + q * (lb.getD i 0 : Nat) + c) : ColRel la lb p q n (i + 1) c' (xs.set i x) := by
  have hl := h.len
  refine ⟨by rw [List.length_set]; exact hl, sm_set h.sm _ hx, ?_⟩
  have i1 : i < (xs.set i x).length := by rw [List.length_set]; omega
  rw [wv_take_succ _ i i1, List.getElem_set_self, List.take_set_of_le (Nat.le_refl _), wv_take_succD la i, wv_take_succD lb i, Nat.pow_succ]
  have hv := h.val
  generalize la.getD i 0 = u at *
  generalize lb.getD i 0 = v at *
  generalize wv (xs.take i) = X at *
  generalize wv (la.take i) = Y at *
  generalize wv (lb.take i) = Z at *
  generalize 4294967296 ^ i = Q at *
  simp only [Int.natCast_add, Int.natCast_mul]
  have e2 : ((4294967296 : Nat) : Int) = 4294967296 := rfl
  rw [e2]
  grind
theorem col_end {la lb xs : List Nat} {p q c : Int} {n S : Nat} (h : ColRel la lb p q n n c xs) (hA : la.length ≤ n) (hB : lb.length ≤ n) (hS : (S : Int) = p * (wv la : Nat) + q * (wv lb : Nat)) (hlt : S < 4294967296 ^ n) : wv xs = S ∧ c = 0 := by
  have hv := h.val
  rw [List.take_of_length_le (by have := h.len; omega), List.take_of_length_le hA, List.take_of_length_le hB, ← hS] at hv
  have h1 := wv_lt h.sm
  rw [h.len] at h1
  generalize 4294967296 ^ n = Q at *
  have hc : c = 0 := by
    rcases Int.lt_trichotomy c 0 with k | k | k
    · have : (Q : Int) * c ≤ (Q : Int) * (-1) := Int.mul_le_mul_of_nonneg_left (by omega) (by omega)
      omega
    · exact k
    · have : (Q : Int) * 1 ≤ (Q : Int) * c := Int.mul_le_mul_of_nonneg_left (by omega) (by omega)
      omega
  subst hc
  exact ⟨by omega, rfl⟩
/-- products: behind i words of a. -/
structure MulRel (la lb : List Nat) (i : Nat) (xs : List Nat) : Prop where
  len : xs.length = la.length + lb.length
  sm : Sm xs
  val : wv xs = wv (la.take i) * wv lb
  zero : ∀ j, i + lb.length ≤ j → xs.getD j 0 = 0
structure MulIn (la lb : List Nat) (i j c : Nat) (xs : List Nat) : Prop where
  len : xs.length = la.length + lb.length
  sm : Sm xs
  car : c < 4294967296
  val : wv xs + 4294967296 ^ (i + j) * c = wv (la.take i) * wv lb + 4294967296 ^ i * (la.getD i 0 * wv (lb.take j))
  zero : ∀ k, i + lb.length ≤ k → xs.getD k 0 = 0
theorem mul_start (la lb : List Nat) : MulRel la lb 0 (List.replicate (la.length + lb.length) 0) :=
  ⟨by simp, sm_replicate _, by rw [wv_replicate]; simp [wv], fun j _ => getD_replicate _ _⟩
theorem mulIn_start {la lb xs : List Nat} {i : Nat} (h : MulRel la lb i xs) : MulIn la lb i 0 0 xs :=
  ⟨h.len, h.sm, by decide, by rw [h.val]; simp [wv], h.zero⟩
theorem mul_word {x y o c : Nat} (hx : x < 4294967296) (hy : y < 4294967296) (ho : o < 4294967296) (hc : c < 4294967296) : x * y < 18446744065119617026 ∧ x * y + o + c < 18446744073709551616 := by
  have := Nat.mul_le_mul (show x ≤ 4294967295 by omega) (show y ≤ 4294967295 by omega)
  omega
theorem mulIn_step {la lb xs : List Nat} {i j c t : Nat} (h : MulIn la lb i j c xs) (hla : Sm la) (hlb : Sm lb) (hi : i < la.length) (hj : j < lb.length) (ht : t = la.getD i 0 * lb.getD j 0 + xs.getD (i + j) 0 + c) :
    MulIn la lb i (j + 1) (t / 4294967296) (xs.set (i + j) (t % 4294967296)) := by
  have hl := h.len
  have ⟨m1, m2⟩ := mul_word (sm_getD hla i) (sm_getD hlb j) (sm_getD h.sm (i + j)) h.car
  rw [← ht] at m2
  refine ⟨by rw [List.length_set]; exact hl, sm_set h.sm _ (Nat.mod_lt _ (by decide)), by omega, ?_, ?_⟩
  · have v1 := wv_set xs (i + j) (t % 4294967296) (by omega)
    rw [← gd_lt (by omega)] at v1
    have hv := h.val
    rw [wv_take_succD lb j, show i + (j + 1) = (i + j) + 1 by omega, Nat.pow_succ]
    have e := Nat.mod_add_div t 4294967296
    have e3 : 4294967296 ^ i * (la.getD i 0 * (wv (lb.take j) + 4294967296 ^ j * lb.getD j 0)) = 4294967296 ^ i * (la.getD i 0 * wv (lb.take j)) + 4294967296 ^ (i + j) * (la.getD i 0 * lb.getD j 0) := by
      rw [Nat.pow_add, Nat.mul_add, Nat.mul_add]
      congr 1
      ac_rfl
    rw [e3]
    generalize 4294967296 ^ i * (la.getD i 0 * wv (lb.take j)) = W at *
    generalize 4294967296 ^ (i + j) = Q at *
    generalize wv (la.take i) * wv lb = V at *
    generalize la.getD i 0 * lb.getD j 0 = M at *
    generalize xs.getD (i + j) 0 = o at *
    have e4 : Q * t = Q * M + Q * o + Q * c := by rw [ht, Nat.mul_add, Nat.mul_add]
    have e5 : Q * t = Q * (t % 4294967296) + Q * 4294967296 * (t / 4294967296) := by rw [Nat.mul_assoc, ← Nat.mul_add, e]
    omega
  · intro k hk
    rw [getD_set (by omega), if_neg (by omega)]
    exact h.zero k hk
theorem mulIn_end {la lb xs : List Nat} {i c : Nat} (h : MulIn la lb i lb.length c xs) (hi : i < la.length) : MulRel la lb (i + 1) (xs.set (i + lb.length) c) := by
  have hl := h.len
  refine ⟨by rw [List.length_set]; exact hl, sm_set h.sm _ h.car, ?_, ?_⟩
  · have v1 := wv_set xs (i + lb.length) c (by omega)
    rw [← gd_lt (by omega), h.zero _ (Nat.le_refl _), Nat.mul_zero, Nat.add_zero] at v1
    rw [v1, h.val, List.take_of_length_le (Nat.le_refl _), wv_take_succD la i, Nat.add_mul, Nat.mul_assoc]
  · intro j hj
    rw [getD_set (by omega), if_neg (by omega)]
    exact h.zero j (by omega)
theorem mul_end {la lb xs : List Nat} (h : MulRel la lb la.length xs) : wv xs = wv la * wv lb := by
  rw [h.val, List.take_of_length_le (Nat.le_refl _)]
/-- the first bits out of three words. -/
theorem top_val (l : List Nat) (hl : Sm l) (k s : Nat) (hs : s < 32) (hb : wv l / 2 ^ (32 * k + s) < 18446744073709551616) :
    wv l / 2 ^ (32 * k + s) = (l.getD k 0 / 2 ^ s + l.getD (k + 1) 0 * 2 ^ (32 - s) + l.getD (k + 2) 0 * 2 ^ (64 - s)) % 18446744073709551616 := by
  have d : ∀ j, wv (l.drop j) = l.getD j 0 + 4294967296 * wv (l.drop (j + 1)) := by
    intro j
    by_cases h : j < l.length
    · rw [List.drop_eq_getElem_cons h, gd_lt h]; rfl
    · rw [List.drop_of_length_le (by omega), List.drop_of_length_le (by omega), gd_ge (by omega)]; rfl
  have e1 : wv l / 2 ^ (32 * k + s) = wv (l.drop k) / 2 ^ s := by
    by_cases h : k ≤ l.length
    · rw [wv_drop l hl k h, pow32, Nat.div_div_eq_div_mul, ← Nat.pow_add]
    · rw [List.drop_of_length_le (by omega)]
      have h1 := wv_lt hl
      have h2 : 4294967296 ^ l.length ≤ 4294967296 ^ k := Nat.pow_le_pow_right (by decide) (by omega)
      have h3 : 2 ^ (32 * k) ≤ 2 ^ (32 * k + s) := Nat.pow_le_pow_right (by decide) (by omega)
      rw [← pow32] at h3
      rw [Nat.div_eq_of_lt (by omega), wv, Nat.zero_div]
  rw [e1] at hb ⊢
  rw [d k, d (k + 1), d (k + 2)] at hb ⊢
  generalize wv (l.drop (k + 2 + 1)) = r at *
  generalize l.getD k 0 = w0 at *
  rw [show k + 1 + 1 = k + 2 by omega] at *
  generalize l.getD (k + 1) 0 = w1 at *
  generalize l.getD (k + 2) 0 = w2 at *
  have f1 : (4294967296 : Nat) = 2 ^ s * 2 ^ (32 - s) := by rw [← Nat.pow_add, show s + (32 - s) = 32 by omega]
  have f2 : (18446744073709551616 : Nat) = 2 ^ s * 2 ^ (64 - s) := by rw [← Nat.pow_add, show s + (64 - s) = 64 by omega]
  have f3 : (2 : Nat) ^ (64 - s) = 4294967296 * 2 ^ (32 - s) := by rw [show 64 - s = 32 + (32 - s) by omega, Nat.pow_add]
  have f4 : w0 + 4294967296 * (w1 + 4294967296 * (w2 + 4294967296 * r)) = w0 + 2 ^ s * (w1 * 2 ^ (32 - s) + w2 * 2 ^ (64 - s) + 18446744073709551616 * (r * 2 ^ (32 - s))) := by
    rw [f3]
    have : 4294967296 * (w1 + 4294967296 * (w2 + 4294967296 * r)) = (2 ^ s * 2 ^ (32 - s)) * (w1 + 4294967296 * (w2 + 4294967296 * r)) := by rw [← f1]
    rw [this]
    grind
  rw [f4] at hb ⊢
  rw [Nat.add_mul_div_left _ _ (Nat.two_pow_pos s)] at hb ⊢
  generalize w0 / 2 ^ s = a at *
  generalize w1 * 2 ^ (32 - s) = b at *
  generalize w2 * 2 ^ (64 - s) = c at *
  generalize r * 2 ^ (32 - s) = d at *
  omega
end Go.Proofs.Ytcfkhhnkboealaa
