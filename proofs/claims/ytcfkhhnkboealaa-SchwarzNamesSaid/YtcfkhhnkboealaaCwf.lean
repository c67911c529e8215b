/- Sums, products and first bits of words, in plain numbers. Plain. Euclid's steps, several at once (Lehmer, Collins' end): what a row of quotients of the first bits does to the numbers themselves. Plain. Words added, less one another, times one another; two rows blended; first bits. A common divisor of two numbers by words: several steps of Euclid's at once. -/
import Derived.Test.YtcfkhhnkboealaaWdb
import Derived.Test.YtcfkhhnkboealaaRows
import Derived.Test.YtcfkhhnkboealaaWdd
namespace Go.Proofs.Ytcfkhhnkboealaa
set_option linter.unusedVariables false
set_option linter.unusedSimpArgs false
theorem wv_take_succD (l : List Nat) (i : Nat) : wv (l.take (i + 1)) = wv (l.take i) + 4294967296 ^ i * l.getD i 0 := by
  by_cases h : i < l.length
  · rw [wv_take_succ l i h, gd_lt h]
  · rw [List.take_of_length_le (by omega), List.take_of_length_le (by omega), gd_ge (by omega), Nat.mul_zero, Nat.add_zero]
/-- columns: the words of p A + q B, from the least one on. -/
structure ColRel (la lb : List Nat) (p q : Int) (n i : Nat) (c : Int) (xs : List Nat) : Prop where
  len : xs.length = n
  sm : Sm xs
  val : (wv (xs.take i) : Int) + ((4294967296 ^ i : Nat) : Int) * c = p * (wv (la.take i) : Nat) + q * (wv (lb.take i) : Nat)
theorem col_start (la lb : List Nat) (p q : Int) (n : Nat) : ColRel la lb p q n 0 0 (List.replicate n 0) :=
  ⟨by simp, sm_replicate _, by simp [wv]⟩
theorem col_step {la lb xs : List Nat} {p q c c' : Int} {n i x : Nat} (h : ColRel la lb p q n i c xs) (hi : i < n) (hx : x < 4294967296)
    (e : (x : Int) + 4294967296 * c' = p * (la.getD i 0 : Nat) + q * (lb.getD i 0 : Nat) + c) : ColRel la lb p q n (i + 1) c' (xs.set i x) := by
  have hl := h.len
  refine ⟨by rw [List.length_set]; exact hl, sm_set h.sm _ hx, ?_⟩
  have i1 : i < (xs.set i x).length := by rw [List.length_set]; omega
  rw [wv_take_succ _ i i1, List.getElem_set_self, List.take_set_of_le (Nat.le_refl _), wv_take_succD la i, wv_take_succD lb i, Nat.pow_succ]
  have hv := h.val
  generalize la.getD i 0 = u at *
  generalize lb.getD i 0 = v at *
  generalize wv (xs.take i) = X at *
  generalize wv (la.take i) = Y at *
  generalize wv (lb.take i) = Z at *
  generalize 4294967296 ^ i = Q at *
  simp only [Int.natCast_add, Int.natCast_mul]
  have e2 : ((4294967296 : Nat) : Int) = 4294967296 := rfl
  rw [e2]
  grind
theorem col_end {la lb xs : List Nat} {p q c : Int} {n S : Nat} (h : ColRel la lb p q n n c xs) (hA : la.length ≤ n) (hB : lb.length ≤ n) (hS : (S : Int) = p * (wv la : Nat) + q * (wv lb : Nat)) (hlt : S < 4294967296 ^ n) : wv xs = S ∧ c = 0 := by
  have hv := h.val
  rw [List.take_of_length_le (by have := h.len; omega), List.take_of_length_le hA, List.take_of_length_le hB, ← hS] at hv
  have h1 := wv_lt h.sm
  rw [h.len] at h1
  generalize 4294967296 ^ n = Q at *
  have hc : c = 0 := by
    rcases Int.lt_trichotomy c 0 with k | k | k
    · have : (Q : Int) * c ≤ (Q : Int) * (-1) := Int.mul_le_mul_of_nonneg_left (by omega) (by omega)
      omega
    · exact k
    · have : (Q : Int) * 1 ≤ (Q : Int) * c := Int.mul_le_mul_of_nonneg_left (by omega) (by omega)
      omega
  subst hc
  exact ⟨by omega, rfl⟩
/-- products: behind i words of a. -/
structure MulRel (la lb : List Nat) (i : Nat) (xs : List Nat) : Prop where
  len : xs.length = la.length + lb.length
  sm : Sm xs
  val : wv xs = wv (la.take i) * wv lb
  zero : ∀ j, i + lb.length ≤ j → xs.getD j 0 = 0
structure MulIn (la lb : List Nat) (i j c : Nat) (xs : List Nat) : Prop where
  len : xs.length = la.length + lb.length
  sm : Sm xs
  car : c < 4294967296
  val : wv xs + 4294967296 ^ (i + j) * c = wv (la.take i) * wv lb + 4294967296 ^ i * (la.getD i 0 * wv (lb.take j))
  zero : ∀ k, i + lb.length ≤ k → xs.getD k 0 = 0
theorem mul_start (la lb : List Nat) : MulRel la lb 0 (List.replicate (la.length + lb.length) 0) :=
  ⟨by simp, sm_replicate _, by rw [wv_replicate]; simp [wv], fun j _ => getD_replicate _ _⟩
theorem mulIn_start {la lb xs : List Nat} {i : Nat} (h : MulRel la lb i xs) : MulIn la lb i 0 0 xs :=
  ⟨h.len, h.sm, by decide, by rw [h.val]; simp [wv], h.zero⟩
theorem mul_word {x y o c : Nat} (hx : x < 4294967296) (hy : y < 4294967296) (ho : o < 4294967296) (hc : c < 4294967296) : x * y < 18446744065119617026 ∧ x * y + o + c < 18446744073709551616 := by
  have := Nat.mul_le_mul (show x ≤ 4294967295 by omega) (show y ≤ 4294967295 by omega)
  omega
theorem mulIn_step {la lb xs : List Nat} {i j c t : Nat} (h : MulIn la lb i j c xs) (hla : Sm la) (hlb : Sm lb) (hi : i < la.length) (hj : j < lb.length) (ht : t = la.getD i 0 * lb.getD j 0 + xs.getD (i + j) 0 + c) :
    MulIn la lb i (j + 1) (t / 4294967296) (xs.set (i + j) (t % 4294967296)) := by
  have hl := h.len
  have ⟨m1, m2⟩ := mul_word (sm_getD hla i) (sm_getD hlb j) (sm_getD h.sm (i + j)) h.car
  rw [← ht] at m2
  refine ⟨by rw [List.length_set]; exact hl, sm_set h.sm _ (Nat.mod_lt _ (by decide)), by omega, ?_, ?_⟩
  · have v1 := wv_set xs (i + j) (t % 4294967296) (by omega)
    rw [← gd_lt (by omega)] at v1
    have hv := h.val
    rw [wv_take_succD lb j, show i + (j + 1) = (i + j) + 1 by omega, Nat.pow_succ]
    have e := Nat.mod_add_div t 4294967296
    have e3 : 4294967296 ^ i * (la.getD i 0 * (wv (lb.take j) + 4294967296 ^ j * lb.getD j 0)) = 4294967296 ^ i * (la.getD i 0 * wv (lb.take j)) + 4294967296 ^ (i + j) * (la.getD i 0 * lb.getD j 0) := by
      rw [Nat.pow_add, Nat.mul_add, Nat.mul_add]
      congr 1
      ac_rfl
    rw [e3]
    generalize 4294967296 ^ i * (la.getD i 0 * wv (lb.take j)) = W at *
    generalize 4294967296 ^ (i + j) = Q at *
    generalize wv (la.take i) * wv lb = V at *
    generalize la.getD i 0 * lb.getD j 0 = M at *
    generalize xs.getD (i + j) 0 = o at *
    have e4 : Q * t = Q * M + Q * o + Q * c := by rw [ht, Nat.mul_add, Nat.mul_add]
    have e5 : Q * t = Q * (t % 4294967296) + Q * 4294967296 * (t / 4294967296) := by rw [Nat.mul_assoc, ← Nat.mul_add, e]
    omega
  · intro k hk
    rw [getD_set (by omega), if_neg (by omega)]
    exact h.zero k hk
theorem mulIn_end {la lb xs : List Nat} {i c : Nat} (h : MulIn la lb i lb.length c xs) (hi : i < la.length) : MulRel la lb (i + 1) (xs.set (i + lb.length) c) := by
  have hl := h.len
  refine ⟨by rw [List.length_set]; exact hl, sm_set h.sm _ h.car, ?_, ?_⟩
  · have v1 := wv_set xs (i + lb.length) c (by omega)
    rw [← gd_lt (by omega), h.zero _ (Nat.le_refl _), Nat.mul_zero, Nat.add_zero] at v1
    rw [v1, h.val, List.take_of_length_le (Nat.le_refl _), wv_take_succD la i, Nat.add_mul, Nat.mul_assoc]
  · intro j hj
    rw [getD_set (by omega), if_neg (by omega)]
    exact h.zero j (by omega)
theorem mul_end {la lb xs : List Nat} (h : MulRel la lb la.length xs) : wv xs = wv la * wv lb := by
  rw [h.val, List.take_of_length_le (Nat.le_refl _)]
/-- the first bits out of three words. -/
theorem top_val (l : List Nat) (hl : Sm l) (k s : Nat) (hs : s < 32) (hb : wv l / 2 ^ (32 * k + s) < 18446744073709551616) :
    wv l / 2 ^ (32 * k + s) = (l.getD k 0 / 2 ^ s + l.getD (k + 1) 0 * 2 ^ (32 - s) + l.getD (k + 2) 0 * 2 ^ (64 - s)) % 18446744073709551616 := by
  have d : ∀ j, wv (l.drop j) = l.getD j 0 + 4294967296 * wv (l.drop (j + 1)) := by
    intro j
    by_cases h : j < l.length
    · rw [List.drop_eq_getElem_cons h, gd_lt h]; rfl
    · rw [List.drop_of_length_le (by omega), List.drop_of_length_le (by omega), gd_ge (by omega)]; rfl
  have e1 : wv l / 2 ^ (32 * k + s) = wv (l.drop k) / 2 ^ s := by
    by_cases h : k ≤ l.length
    · rw [wv_drop l hl k h, pow32, Nat.div_div_eq_div_mul, ← Nat.pow_add]
    · rw [List.drop_of_length_le (by omega)]
      have h1 := wv_lt hl
      have h2 : 4294967296 ^ l.length ≤ 4294967296 ^ k := Nat.pow_le_pow_right (by decide) (by omega)
      have h3 : 2 ^ (32 * k) ≤ 2 ^ (32 * k + s) := Nat.pow_le_pow_right (by decide) (by omega)
      rw [← pow32] at h3
      rw [Nat.div_eq_of_lt (by omega), wv, Nat.zero_div]
  rw [e1] at hb ⊢
  rw [d k, d (k + 1), d (k + 2)] at hb ⊢
  generalize wv (l.drop (k + 2 + 1)) = r at *
  generalize l.getD k 0 = w0 at *
  rw [show k + 1 + 1 = k + 2 by omega] at *
  generalize l.getD (k + 1) 0 = w1 at *
  generalize l.getD (k + 2) 0 = w2 at *
  have f1 : (4294967296 : Nat) = 2 ^ s * 2 ^ (32 - s) := by rw [← Nat.pow_add, show s + (32 - s) = 32 by omega]
  have f2 : (18446744073709551616 : Nat) = 2 ^ s * 2 ^ (64 - s) := by rw [← Nat.pow_add, show s + (64 - s) = 64 by omega]
  have f3 : (2 : Nat) ^ (64 - s) = 4294967296 * 2 ^ (32 - s) := by rw [show 64 - s = 32 + (32 - s) by omega, Nat.pow_add]
  have f4 : w0 + 4294967296 * (w1 + 4294967296 * (w2 + 4294967296 * r)) = w0 + 2 ^ s * (w1 * 2 ^ (32 - s) + w2 * 2 ^ (64 - s) + 18446744073709551616 * (r * 2 ^ (32 - s))) := by
    rw [f3]
    have : 4294967296 * (w1 + 4294967296 * (w2 + 4294967296 * r)) = (2 ^ s * 2 ^ (32 - s)) * (w1 + 4294967296 * (w2 + 4294967296 * r)) := by rw [← f1]
    rw [this]
    grind
  rw [f4] at hb ⊢
  rw [Nat.add_mul_div_left _ _ (Nat.two_pow_pos s)] at hb ⊢
  generalize w0 / 2 ^ s = a at *
  generalize w1 * 2 ^ (32 - s) = b at *
  generalize w2 * 2 ^ (64 - s) = c at *
  generalize r * 2 ^ (32 - s) = d at *
  omega
end Go.Proofs.Ytcfkhhnkboealaa
namespace Go.Proofs.Ytcfkhhnkboealaa
set_option linter.unusedVariables false
set_option linter.unusedSimpArgs false
/-- the rows ahead of a step: the tops X, Y out of x, y, and (from the first step on) out of the x before, p, and x. -/
structure Leh (X Y : Nat) (even : Bool) (x y u0 u1 u2 v0 v1 v2 p : Nat) : Prop where
  now1 : X = v2 * x + v1 * y
  now2 : Y = u2 * x + u1 * y
  le : y ≤ x
  v2pos : 1 ≤ v2
  xpos : 1 ≤ x
  det : (v2 * u1 : Int) - v1 * u2 = if even then -1 else 1
  uv2 : u2 ≤ v2
  was : (u0 = 0 ∧ u1 = 1 ∧ v0 = 0 ∧ v1 = 0 ∧ u2 = 0 ∧ v2 = 1) ∨
    (X = v1 * p + v0 * x ∧ Y = u1 * p + u0 * x ∧ v1 ≤ x ∧ v0 + v1 + x ≤ p ∧ 1 ≤ v1 ∧ v1 ≤ v2 ∧ u1 ≤ v1 ∧ (v0 = 0 ∨ (u0 ≤ v0 ∧ v0 ≤ v1)) ∧ (v1 * u0 : Int) - v0 * u1 = (if even then 1 else -1))
theorem leh_start {X Y : Nat} (h : Y ≤ X) (hX : 1 ≤ X) : Leh X Y false X Y 0 1 0 0 0 1 0 :=
  ⟨by omega, by omega, h, by decide, hX, by decide, by decide, .inl ⟨rfl, rfl, rfl, rfl, rfl, rfl⟩⟩
theorem leh_step {X Y : Nat} {even : Bool} {x y u0 u1 u2 v0 v1 v2 p q : Nat} (h : Leh X Y even x y u0 u1 u2 v0 v1 v2 p) (h1 : v2 ≤ y) (h2 : v1 + v2 ≤ x - y) (hq : q = x / y) :
    Leh X Y (!even) y (x - q * y) u1 u2 (u1 + q * u2) v1 v2 (v1 + q * v2) x := by
  have hv := h.v2pos
  have hle := h.le
  have hy : 0 < y := by omega
  have hm := Nat.div_add_mod x y
  have hlt := Nat.mod_lt x hy
  have hq1 : 1 ≤ q := by rw [hq]; exact (Nat.one_le_div_iff hy).2 hle
  obtain ⟨r, hr⟩ : ∃ r, r = x - q * y := ⟨_, rfl⟩
  have hx : x = q * y + r := by rw [← hq, Nat.mul_comm] at hm; omega
  rw [← hr]
  have hry : r < y := by rw [← hq, Nat.mul_comm] at hm; omega
  refine ⟨?_, ?_, by omega, ?_, hy, ?_, ?_, .inr ⟨?_, ?_, h1, ?_, hv, ?_, h.uv2, ?_, ?_⟩⟩
  · rw [h.now1]; rw [show v2 * x = v2 * (q * y + r) by rw [← hx], Nat.mul_add, Nat.add_mul]
    have : v2 * (q * y) = q * v2 * y := by ac_rfl
    omega
  · rw [h.now2]; rw [show u2 * x = u2 * (q * y + r) by rw [← hx], Nat.mul_add, Nat.add_mul]
    have : u2 * (q * y) = q * u2 * y := by ac_rfl
    omega
  · have : v2 ≤ q * v2 := Nat.le_mul_of_pos_left _ hq1
    omega
  · have hd := h.det
    have : ((v1 + q * v2 : Nat) : Int) * (u2 : Int) - (v2 : Int) * ((u1 + q * u2 : Nat) : Int) = -((v2 * u1 : Int) - v1 * u2) := by
      rw [Int.natCast_add, Int.natCast_add, Int.natCast_mul, Int.natCast_mul, Int.add_mul, Int.mul_add]
      have e : (q : Int) * v2 * u2 = v2 * (q * u2) := by rw [Int.mul_comm (q : Int), Int.mul_assoc]
      omega
    rw [this, hd]
    cases even <;> rfl
  · have : q * u2 ≤ q * v2 := Nat.mul_le_mul_left _ h.uv2
    rcases h.was with ⟨_, rfl, _, rfl, rfl, rfl⟩ | ⟨_, _, _, _, _, _, hu, _⟩
    · omega
    · omega
  · exact h.now1
  · exact h.now2
  · omega
  · have : v2 ≤ q * v2 := Nat.le_mul_of_pos_left _ hq1
    omega
  · rcases h.was with ⟨_, rfl, _, rfl, rfl, rfl⟩ | ⟨_, _, _, _, a, b, c, _⟩
    · left; rfl
    · right; exact ⟨c, b⟩
  · rw [h.det]; cases even <;> rfl
/-- WHAT COMES OF THE NUMBERS: the rows put to the numbers themselves. -/
theorem leh_end {A B X Y P a b : Nat} {even : Bool} {x y u0 u1 u2 v0 v1 v2 p : Nat} (h : Leh X Y even x y u0 u1 u2 v0 v1 v2 p) (h0 : v0 ≠ 0) (ha : A = X * P + a) (hb : B = Y * P + b) (la : a < P) (lb : b < P) :
    ∃ A' B' : Nat, (A' : Int) = (if even then (u0 : Int) * A - v0 * B else v0 * B - u0 * A) ∧ (B' : Int) = (if even then (v1 : Int) * B - u1 * A else u1 * A - v1 * B) ∧ B' ≤ A' ∧ A' + B' ≤ A ∧
      A = v1 * A' + v0 * B' ∧ B = u1 * A' + u0 * B' ∧ u0 ≤ v0 ∧ u1 ≤ v1 ∧ v0 ≤ v1 ∧ v1 * v1 ≤ X := by
  rcases h.was with ⟨_, _, e, _⟩ | ⟨w1, w2, w3, w4, w5, w6, w7, w8, w9⟩
  · exact absurd e h0
  obtain ⟨w8, w10⟩ := w8.resolve_left h0
  have hxp : v1 * v1 ≤ X := by
    have := Nat.mul_le_mul_left v1 (show v1 ≤ p by omega)
    omega
  -- bounds of products
  have b1 : v1 * b ≤ v1 * P := Nat.mul_le_mul_left _ (by omega)
  have b2 : u1 * a ≤ v1 * P := Nat.mul_le_mul w7 (by omega)
  have b3 : v1 * P ≤ x * P := Nat.mul_le_mul_right _ w3
  have b4 : (v0 + v1) * b ≤ (v0 + v1) * P := Nat.mul_le_mul_left _ (by omega)
  have b5 : (u0 + u1) * a ≤ (v0 + v1) * P := Nat.mul_le_mul (by omega) (by omega)
  have b6 : (v0 + v1 + x) * P ≤ p * P := Nat.mul_le_mul_right _ w4
  have key : ∀ A' B' : Int, A = v1 * A' + v0 * B' → B = u1 * A' + u0 * B' → A' = (if even then (u0 : Int) * A - v0 * B else v0 * B - u0 * A) → B' = (if even then (v1 : Int) * B - u1 * A else u1 * A - v1 * B) → 0 ≤ B' → B' ≤ A' →
      ∃ A' B' : Nat, (A' : Int) = (if even then (u0 : Int) * A - v0 * B else v0 * B - u0 * A) ∧ (B' : Int) = (if even then (v1 : Int) * B - u1 * A else u1 * A - v1 * B) ∧ B' ≤ A' ∧ A' + B' ≤ A ∧
      A = v1 * A' + v0 * B' ∧ B = u1 * A' + u0 * B' ∧ u0 ≤ v0 ∧ u1 ≤ v1 ∧ v0 ≤ v1 ∧ v1 * v1 ≤ X := by
    intro A' B' e1 e2 e3 e4 k1 k2
    obtain ⟨A', rfl⟩ := Int.eq_ofNat_of_zero_le (Int.le_trans k1 k2)
    obtain ⟨B', rfl⟩ := Int.eq_ofNat_of_zero_le k1
    have f1 : A = v1 * A' + v0 * B' := by exact_mod_cast e1
    have f2 : B = u1 * A' + u0 * B' := by exact_mod_cast e2
    have f3 : A' ≤ v1 * A' := Nat.le_mul_of_pos_left _ w5
    have f4 : B' ≤ v0 * B' := Nat.le_mul_of_pos_left _ (by omega)
    exact ⟨A', B', e3, e4, by omega, by omega, f1, f2, w8, w7, w10, hxp⟩
  have cA : (A : Int) = X * P + a := by exact_mod_cast ha
  have cB : (B : Int) = Y * P + b := by exact_mod_cast hb
  have cX : (X : Int) = v1 * p + v0 * x := by exact_mod_cast w1
  have cY : (Y : Int) = u1 * p + u0 * x := by exact_mod_cast w2
  have c1 : (v1 : Int) * b ≤ v1 * P := by exact_mod_cast b1
  have c2 : (u1 : Int) * a ≤ v1 * P := by exact_mod_cast b2
  have c3 : (v1 : Int) * P ≤ x * P := by exact_mod_cast b3
  have c4 : ((v0 : Int) + v1) * b ≤ (v0 + v1) * P := by exact_mod_cast b4
  have c5 : ((u0 : Int) + u1) * a ≤ (v0 + v1) * P := by exact_mod_cast b5
  have c6 : ((v0 : Int) + v1 + x) * P ≤ p * P := by exact_mod_cast b6
  have d1 : (0 : Int) ≤ v1 * b := by exact_mod_cast Nat.zero_le _
  have d2 : (0 : Int) ≤ u1 * a := by exact_mod_cast Nat.zero_le _
  have d3 : (0 : Int) ≤ ((v0 : Int) + v1) * b := by exact_mod_cast Nat.zero_le _
  have d4 : (0 : Int) ≤ ((u0 : Int) + u1) * a := by exact_mod_cast Nat.zero_le _
  cases even with
  | true =>
    simp only [if_pos] at w9 key ⊢
    have e3 : (u0 : Int) * A - v0 * B = P * p + (u0 * a - v0 * b) := by rw [cA, cB, cX, cY]; grind
    have e4 : (v1 : Int) * B - u1 * A = P * x + (v1 * b - u1 * a) := by rw [cA, cB, cX, cY]; grind
    refine key _ _ ?_ ?_ rfl rfl ?_ ?_
    · grind
    · grind
    · rw [e4]; grind
    · rw [e3, e4]; grind
  | false =>
    simp only [Bool.false_eq_true, if_false] at w9 key ⊢
    have e3 : (v0 : Int) * B - u0 * A = P * p + (v0 * b - u0 * a) := by rw [cA, cB, cX, cY]; grind
    have e4 : (u1 : Int) * A - v1 * B = P * x + (u1 * a - v1 * b) := by rw [cA, cB, cX, cY]; grind
    refine key _ _ ?_ ?_ rfl rfl ?_ ?_
    · grind
    · grind
    · rw [e4]; grind
    · rw [e3, e4]; grind
end Go.Proofs.Ytcfkhhnkboealaa
namespace Go.Proofs.Ytcfkhhnkboealaa
open Go.RowKit
set_option linter.unusedVariables false
set_option linter.unusedSimpArgs false
set_option maxRecDepth 100000
set_option maxHeartbeats 4000000
theorem IsW.opn {w : World} {s : Option Addr} {n c : Nat} {l : List Nat} (h : IsW w (.slice s n c) l) : n = l.length ∧ n ≤ c ∧ c ≤ 1000000000 := by
  obtain ⟨s', c', e, h1, h2, _⟩ := h
  injection e with e1 e2 e3
  subst e1 e2 e3
  exact ⟨rfl, h1, h2⟩
theorem IsW.word {w : World} {s : Option Addr} {n c : Nat} {l : List Nat} (h : IsW w (.slice s n c) l) {i : Nat} (hi : i < l.length) :
    ∃ b off, s = some ⟨b, off, none⟩ ∧ b < w.heap.size ∧ w.cell? ⟨b, off + i, none⟩ = some (.int .u32 ((l.getD i 0 : Nat) : Int)) := by
  obtain ⟨s', c', e, h1, h2, h3⟩ := h
  injection e with e1 e2 e3
  subst e1 e2 e3
  obtain ⟨b, off, e, hb, hc⟩ := h3 (by intro e; subst e; simp at hi)
  exact ⟨b, off, e, hb, hc i hi⟩
theorem row_isW {w : World} {b n : Nat} {xs : List Nat} (h : Row w b xs) (hl : xs.length = n) (hn : n ≤ 1000000000) : IsW w (.slice (some ⟨b, 0, none⟩) n n) xs := by
  have := h.isW n n (by omega) (by omega) hn
  rwa [List.take_of_length_le (by omega)] at this
theorem addW_core {s1 s2 : Option Addr} {c1 c2 : Nat} {la lb : List Nat} {w : World} (sw : Bool) (h1 : IsW w (.slice s1 la.length c1) la) (h2 : IsW w (.slice s2 lb.length c2) lb) (hla : Sm la) (hlb : Sm lb)
    (hlen : if sw = true then lb.length < la.length else lb.length ≤ la.length) (hmax : la.length ≤ 100000000) :
    Calls Try.prog 182 (if sw = true then #[.slice s2 lb.length c2, .slice s1 la.length c1] else #[.slice s1 la.length c1, .slice s2 lb.length c2]) w (RetW (wv la + wv lb) w) := by
  have HA := Lib.hid h1
  have HB := Lib.hid h2
  have HLA := Lib.hid hla
  have HLB := Lib.hid hlb
  obtain ⟨_, p1, p2⟩ := h1.opn
  obtain ⟨_, q1, q2⟩ := h2.opn
  have hmk := mk_words ((la.length : Int) + 1) (la.length + 1) (by omega) (by omega)
  have hle : lb.length ≤ la.length := by cases sw <;> simp at hlen <;> omega
  have HE : RowKit.Hid (wv la + wv lb < 4294967296 ^ (la.length + 1)) := Lib.hid (by
    have t1 := wv_lt hla
    have t2 := wv_lt hlb
    have t3 : 4294967296 ^ lb.length ≤ 4294967296 ^ la.length := Nat.pow_le_pow_right (by decide) hle
    rw [Nat.pow_succ]
    omega)
  have HLE := Lib.hid hle
  clear h1 h2 hla hlb hle
  cases sw
  all_goals
    simp only [Bool.false_eq_true, if_false, if_true, if_pos] at hlen ⊢
    go_enter Try.func182, Try.ntmps182
    go_wp2
    go_loopw [6, 7, 8] (fun n6 n7 n8 wr => ∃ (i c : Nat) (xs : List Nat), n7 = .int .i64 i ∧ n6 = .int .u64 c ∧ c ≤ 1 ∧ i ≤ la.length ∧ ColRel la lb 1 1 (la.length + 1) i c xs ∧ Row wr w.heap.size xs ∧ Grown w wr) (fun _ n7 _ _ => la.length - (intOf n7).toNat)
    case atStart => exact ⟨0, 0, List.replicate (la.length + 1) 0, rfl, rfl, by decide, Nat.zero_le _, col_start _ _ _ _ _, row_made _ _ _, (Grown.refl _).alloc _ _⟩
    case round =>
      obtain ⟨i, c, xs, rfl, rfl, hc, hi, hR, hrow, hg⟩ := hrel
      have HR := Lib.hid hR
      have HW := Lib.hid hrow
      have HG := Lib.hid hg
      have XL := Lib.hid (show xs.length = la.length + 1 from hR.len)
      clear hR hrow hg
      by_cases hlt : i < la.length
      · obtain ⟨b1, o1, e1, hb1, a1⟩ := HA.out.word hlt
        subst e1
        rw [← grown_cell HG.out hb1] at a1
        have u1 := sm_getD HLA.out i
        obtain ⟨u, eu⟩ : ∃ u, u = la.getD i 0 := ⟨_, rfl⟩
        rw [← eu] at a1 u1
        have EU := Lib.hid eu
        clear eu
        have r1 := HW.out.cell i (by rw [XL.out]; omega)
        have f1 : wr.frozen? ⟨w.heap.size, i, none⟩ = false := Row.free HG.out (Nat.le_refl _)
        by_cases hlt2 : i < lb.length
        · obtain ⟨b2, o2, e2, hb2, a2⟩ := HB.out.word hlt2
          subst e2
          rw [← grown_cell HG.out hb2] at a2
          have v1 := sm_getD HLB.out i
          obtain ⟨v, ev⟩ : ∃ v, v = lb.getD i 0 := ⟨_, rfl⟩
          rw [← ev] at a2 v1
          have EV := Lib.hid ev
          clear ev
          have HST := Lib.hid (show ColRel la lb 1 1 (la.length + 1) (i + 1) (((u + c + v) / 4294967296 : Nat) : Int) (xs.set i ((u + c + v) % 4294967296)) from col_step HR.out (by omega) (by omega) (by rw [← EU.out, ← EV.out]; omega))
          have z1 := Lib.hid (show ((u : Int) + (c : Int) + (v : Int)) % 4294967296 = (((u + c + v) % 4294967296 : Nat) : Int) from by omega)
          have z2 := Lib.hid (show ((u : Int) + (c : Int) + (v : Int)) / 4294967296 = (((u + c + v) / 4294967296 : Nat) : Int) from by omega)
          go_wp2_with fail
          go_roundw
          case rel =>
            refine ⟨i + 1, (u + c + v) / 4294967296, xs.set i ((u + c + v) % 4294967296), by go_num, by rw [z2.out], by omega, by omega, HST.out, ?_, ?_⟩
            · rw [z1.out]; exact HW.out.set (by rw [XL.out]; omega) _
            · exact HG.out.setCell (Nat.le_refl _) _
          case measure => simp [intOf]; omega
        · have HST := Lib.hid (show ColRel la lb 1 1 (la.length + 1) (i + 1) (((u + c) / 4294967296 : Nat) : Int) (xs.set i ((u + c) % 4294967296)) from col_step HR.out (by omega) (by omega) (by rw [← EU.out, gd_ge (by omega)]; omega))
          have z1 := Lib.hid (show ((u : Int) + (c : Int)) % 4294967296 = (((u + c) % 4294967296 : Nat) : Int) from by omega)
          have z2 := Lib.hid (show ((u : Int) + (c : Int)) / 4294967296 = (((u + c) / 4294967296 : Nat) : Int) from by omega)
          go_wp2_with fail
          go_roundw
          case rel =>
            refine ⟨i + 1, (u + c) / 4294967296, xs.set i ((u + c) % 4294967296), by go_num, by rw [z2.out], by omega, by omega, HST.out, ?_, ?_⟩
            · rw [z1.out]; exact HW.out.set (by rw [XL.out]; omega) _
            · exact HG.out.setCell (Nat.le_refl _) _
          case measure => simp [intOf]; omega
      · have hi2 : i = la.length := by omega
        subst hi2
        have r1 := HW.out.cell la.length (by rw [XL.out]; omega)
        have f1 : wr.frozen? ⟨w.heap.size, la.length, none⟩ = false := Row.free HG.out (Nat.le_refl _)
        have HST := Lib.hid (show ColRel la lb 1 1 (la.length + 1) (la.length + 1) 0 (xs.set la.length c) from col_step HR.out (by omega) (by omega) (by rw [gd_ge (by omega), gd_ge HLE.out]; omega))
        have HV := Lib.hid (show wv (xs.set la.length c) = wv la + wv lb from (col_end HST.out (by omega) (by have := HLE.out; omega) (by omega) HE.out).1)
        have HS := Lib.hid HST.out.sm
        have hcm : (c : Int) % 4294967296 = (c : Int) := by omega
        have HI := Lib.hid (row_isW (n := la.length + 1) (HW.out.set (j := la.length) (by rw [XL.out]; omega) c) (by rw [List.length_set]; exact XL.out) (by omega))
        have HG2 := Lib.hid (HG.out.setCell (a := ⟨w.heap.size, la.length, none⟩) (Nat.le_refl _) (.int .u32 (c : Int)))
        go_wp2_with (first
          | (go_at_call 145; (with_reducible refine (trim_c HI.out HS.out).mono ?_); rw [HV.out]; rintro e w' ⟨v', n', rfl, hv, rfl⟩)
          | fail)
        go_ret
        have h1 := gr_drewN n' HG2.out
        exact ⟨v', rfl, hv, h1⟩
theorem addW_c {v1 v2 : Value} {A B : Nat} {w : World} (h1 : IsW w v1 (digs A)) (h2 : IsW w v2 (digs B)) (hA : (digs A).length ≤ 100000000) (hB : (digs B).length ≤ 100000000) : Calls Try.prog 182 #[v1, v2] w (RetW (A + B) w) := by
  have h1' := h1
  have h2' := h2
  obtain ⟨s1, c1, rfl, _, _, _⟩ := h1'
  obtain ⟨s2, c2, rfl, _, _, _⟩ := h2'
  by_cases h : (digs A).length < (digs B).length
  · have := addW_core true h2 h1 (digs_sm _) (digs_sm _) (by simpa using h) hB
    rwa [wv_digs, wv_digs, Nat.add_comm] at this
  · have := addW_core false h1 h2 (digs_sm _) (digs_sm _) (by simpa using h) hA
    rwa [wv_digs, wv_digs] at this
theorem sub_word2 (u v bo : Nat) (hu : u < 4294967296) (hv : v < 4294967296) (hb : bo ≤ 1) :
    ∃ T x bo' : Nat, x < 4294967296 ∧ bo' ≤ 1 ∧ T < 18446744073709551616 ∧ IntKind.u64.wrap (IntKind.u64.wrap ((u : Int) - (bo : Int)) - (v : Int)) = (T : Int) ∧ (T : Int) % 4294967296 = (x : Int) ∧ (T : Int) / 9223372036854775808 = (bo' : Int) ∧
      (x : Int) + 4294967296 * (-(bo' : Int)) = 1 * (u : Nat) + (-1) * (v : Nat) + -(bo : Int) := by
  refine ⟨(((u : Int) - bo - v) % 18446744073709551616).toNat, (((u : Int) - bo - v) % 4294967296).toNat, if v + bo ≤ u then 0 else 1, by omega, by split <;> omega, by omega, ?_, by omega, ?_, ?_⟩
  · rw [IntKind.wrap_u64, IntKind.wrap_u64]; omega
  · split <;> omega
  · split <;> omega
theorem sub_word1 (u bo : Nat) (hu : u < 4294967296) (hb : bo ≤ 1) :
    ∃ T x bo' : Nat, x < 4294967296 ∧ bo' ≤ 1 ∧ T < 18446744073709551616 ∧ IntKind.u64.wrap ((u : Int) - (bo : Int)) = (T : Int) ∧ (T : Int) % 4294967296 = (x : Int) ∧ (T : Int) / 9223372036854775808 = (bo' : Int) ∧
      (x : Int) + 4294967296 * (-(bo' : Int)) = 1 * (u : Nat) + (-1) * (0 : Nat) + -(bo : Int) := by
  refine ⟨(((u : Int) - bo) % 18446744073709551616).toNat, (((u : Int) - bo) % 4294967296).toNat, if bo ≤ u then 0 else 1, by omega, by split <;> omega, by omega, ?_, by omega, ?_, ?_⟩
  · rw [IntKind.wrap_u64]; omega
  · split <;> omega
  · split <;> omega
theorem subW_c {v1 v2 : Value} {A B : Nat} {w : World} (h1 : IsW w v1 (digs A)) (h2 : IsW w v2 (digs B)) (hle : B ≤ A) (hA : (digs A).length ≤ 100000000) : Calls Try.prog 183 #[v1, v2] w (RetW (A - B) w) := by
  obtain ⟨la, ela⟩ : ∃ la, la = digs A := ⟨_, rfl⟩
  obtain ⟨lb, elb⟩ : ∃ lb, lb = digs B := ⟨_, rfl⟩
  have hlen : lb.length ≤ la.length := by rw [ela, elb]; exact digs_mono hle
  have hla : Sm la := by rw [ela]; exact digs_sm A
  have hlb : Sm lb := by rw [elb]; exact digs_sm B
  have va : wv la = A := by rw [ela]; exact wv_digs A
  have vb : wv lb = B := by rw [elb]; exact wv_digs B
  rw [← ela] at h1 hA
  rw [← elb] at h2
  clear ela elb
  have HA := Lib.hid h1
  have HB := Lib.hid h2
  obtain ⟨s1, c1, rfl, p1, p2, _⟩ := h1
  obtain ⟨s2, c2, rfl, q1, q2, _⟩ := h2
  have HLA := Lib.hid hla
  have HLB := Lib.hid hlb
  have hmk := mk_words (la.length : Int) la.length rfl (by omega)
  have HE : RowKit.Hid (∀ xs c, ColRel la lb 1 (-1) la.length la.length c xs → wv xs = A - B) := Lib.hid (fun xs c h => (col_end (S := A - B) h (Nat.le_refl _) hlen (by rw [va, vb]; omega) (by
    have := wv_lt hla
    omega)).1)
  have HL := Lib.hid hlen
  clear hla hlb va vb hlen hle
  go_enter Try.func183, Try.ntmps183
  go_wp2
  go_loopw [6, 7, 8] (fun n6 n7 n8 wr => ∃ (i bo : Nat) (xs : List Nat), n7 = .int .i64 i ∧ n6 = .int .u64 bo ∧ bo ≤ 1 ∧ i ≤ la.length ∧ ColRel la lb 1 (-1) la.length i (-(bo : Int)) xs ∧ Row wr w.heap.size xs ∧ Grown w wr) (fun _ n7 _ _ => la.length - (intOf n7).toNat)
  case atStart => exact ⟨0, 0, List.replicate la.length 0, rfl, rfl, by decide, Nat.zero_le _, col_start _ _ _ _ _, row_made _ _ _, (Grown.refl _).alloc _ _⟩
  case round =>
    obtain ⟨i, bo, xs, rfl, rfl, hc, hi, hR, hrow, hg⟩ := hrel
    have HR := Lib.hid hR
    have HW := Lib.hid hrow
    have HG := Lib.hid hg
    have XL := Lib.hid (show xs.length = la.length from hR.len)
    clear hR hrow hg
    by_cases hlt : i < la.length
    · obtain ⟨b1, o1, e1, hb1, a1⟩ := HA.out.word hlt
      subst e1
      rw [← grown_cell HG.out hb1] at a1
      have u1 := sm_getD HLA.out i
      obtain ⟨u, eu⟩ : ∃ u, u = la.getD i 0 := ⟨_, rfl⟩
      rw [← eu] at a1 u1
      have EU := Lib.hid eu
      clear eu
      have r1 := HW.out.cell i (by rw [XL.out]; omega)
      have f1 : wr.frozen? ⟨w.heap.size, i, none⟩ = false := Row.free HG.out (Nat.le_refl _)
      by_cases hlt2 : i < lb.length
      · obtain ⟨b2, o2, e2, hb2, a2⟩ := HB.out.word hlt2
        subst e2
        rw [← grown_cell HG.out hb2] at a2
        have v1 := sm_getD HLB.out i
        obtain ⟨v, ev⟩ : ∃ v, v = lb.getD i 0 := ⟨_, rfl⟩
        rw [← ev] at a2 v1
        have EV := Lib.hid ev
        clear ev
        obtain ⟨T, x, bo', x1, x2, x3, x4, x5, x6, x7⟩ := sub_word2 u v bo u1 v1 hc
        have HST := Lib.hid (show ColRel la lb 1 (-1) la.length (i + 1) (-(bo' : Int)) (xs.set i x) from col_step HR.out (by omega) x1 (by rw [← EU.out, ← EV.out]; exact x7))
        have Z5 := Lib.hid x5
        have Z6 := Lib.hid x6
        have X2 := Lib.hid x2
        clear x5 x6 x7 x1 x2
        go_wp2_with fail
        go_roundw
        case rel =>
          refine ⟨i + 1, bo', xs.set i x, by go_num, by rw [Z6.out], X2.out, by omega, HST.out, ?_, ?_⟩
          · rw [Z5.out]; exact HW.out.set (by rw [XL.out]; omega) _
          · exact HG.out.setCell (Nat.le_refl _) _
        case measure => simp [intOf]; omega
      · obtain ⟨T, x, bo', x1, x2, x3, x4, x5, x6, x7⟩ := sub_word1 u bo u1 hc
        have HST := Lib.hid (show ColRel la lb 1 (-1) la.length (i + 1) (-(bo' : Int)) (xs.set i x) from col_step HR.out (by omega) x1 (by rw [← EU.out, gd_ge (by omega)]; exact x7))
        have Z5 := Lib.hid x5
        have Z6 := Lib.hid x6
        have X2 := Lib.hid x2
        clear x5 x6 x7 x1 x2
        go_wp2_with fail
        go_roundw
        case rel =>
          refine ⟨i + 1, bo', xs.set i x, by go_num, by rw [Z6.out], X2.out, by omega, HST.out, ?_, ?_⟩
          · rw [Z5.out]; exact HW.out.set (by rw [XL.out]; omega) _
          · exact HG.out.setCell (Nat.le_refl _) _
        case measure => simp [intOf]; omega
    · have hi2 : i = la.length := by omega
      subst hi2
      have HV := Lib.hid (HE.out xs _ HR.out)
      have HS := Lib.hid HR.out.sm
      have HI := Lib.hid (row_isW (n := la.length) HW.out XL.out (by omega))
      go_wp2_with (first
        | (go_at_call 145; (with_reducible refine (trim_c HI.out HS.out).mono ?_); rw [HV.out]; rintro e w' ⟨v', n', rfl, hv, rfl⟩)
        | fail)
      go_ret
      have h1 := gr_drewN n' HG.out
      exact ⟨v', rfl, hv, h1⟩
theorem mulW_c {v1 v2 : Value} {A B : Nat} {w : World} (h1 : IsW w v1 (digs A)) (h2 : IsW w v2 (digs B)) (hA : (digs A).length ≤ 100000000) (hB : (digs B).length ≤ 100000000) : Calls Try.prog 96 #[v1, v2] w (RetW (A * B) w) := by
  obtain ⟨la, ela⟩ : ∃ la, la = digs A := ⟨_, rfl⟩
  obtain ⟨lb, elb⟩ : ∃ lb, lb = digs B := ⟨_, rfl⟩
  have hla : Sm la := by rw [ela]; exact digs_sm A
  have hlb : Sm lb := by rw [elb]; exact digs_sm B
  have va : wv la = A := by rw [ela]; exact wv_digs A
  have vb : wv lb = B := by rw [elb]; exact wv_digs B
  rw [← ela] at h1 hA
  rw [← elb] at h2 hB
  clear ela elb
  have HA := Lib.hid h1
  have HB := Lib.hid h2
  obtain ⟨s1, c1, rfl, p1, p2, _⟩ := h1
  obtain ⟨s2, c2, rfl, q1, q2, _⟩ := h2
  have HLA := Lib.hid hla
  have HLB := Lib.hid hlb
  have hmk := mk_words ((la.length : Int) + (lb.length : Int)) (la.length + lb.length) (by omega) (by omega)
  have HE : RowKit.Hid (∀ xs, MulRel la lb la.length xs → wv xs = A * B) := Lib.hid (fun xs h => by rw [mul_end h, va, vb])
  clear hla hlb va vb
  go_enter Try.func96, Try.ntmps96
  go_wp2
  go_loopw [6, 7, 8, 9, 10] (fun n6 n7 n8 n9 n10 wr => ∃ (i : Nat) (xs : List Nat), n6 = .int .i64 i ∧ i ≤ la.length ∧ MulRel la lb i xs ∧ Row wr w.heap.size xs ∧ Grown w wr) (fun n6 _ _ _ _ _ => la.length - (intOf n6).toNat)
  case atStart => exact ⟨0, List.replicate (la.length + lb.length) 0, rfl, Nat.zero_le _, mul_start _ _, row_made _ _ _, (Grown.refl _).alloc _ _⟩
  case round =>
    obtain ⟨i, xs, rfl, hi, hR, hrow, hg⟩ := hrel
    have HR := Lib.hid hR
    have HW := Lib.hid hrow
    have HG := Lib.hid hg
    have XL := Lib.hid (show xs.length = la.length + lb.length from hR.len)
    clear hR hrow hg
    by_cases hlt : i < la.length
    · obtain ⟨b1, o1, e1, hb1, a1⟩ := HA.out.word hlt
      subst e1
      rw [← grown_cell HG.out hb1] at a1
      have u1 := sm_getD HLA.out i
      obtain ⟨u, eu⟩ : ∃ u, u = la.getD i 0 := ⟨_, rfl⟩
      rw [← eu] at a1 u1
      have EU := Lib.hid eu
      clear eu
      obtain ⟨wo, ewo⟩ : ∃ wo : World, wo = wr := ⟨_, rfl⟩
      subst ewo
      go_wp2_with fail
      go_loopw [7, 9, 10] (fun n7 n9 n10 wz => ∃ (j c : Nat) (ys : List Nat), n9 = .int .i64 j ∧ n7 = .int .u64 c ∧ j ≤ lb.length ∧ MulIn la lb i j c ys ∧ Row wz w.heap.size ys ∧ Grown w wz) (fun _ n9 _ _ => lb.length - (intOf n9).toNat)
      case atStart => exact ⟨0, 0, xs, rfl, rfl, Nat.zero_le _, mulIn_start HR.out, HW.out, HG.out⟩
      case round =>
        obtain ⟨j, c, ys, rfl, rfl, hj, hR2, hrow2, hg2⟩ := hrel
        have HR2 := Lib.hid hR2
        have HW2 := Lib.hid hrow2
        have HG2 := Lib.hid hg2
        have YL := Lib.hid (show ys.length = la.length + lb.length from hR2.len)
        have cb := hR2.car
        clear hR2 hrow2 hg2
        by_cases hlt2 : j < lb.length
        · obtain ⟨b2, o2, e2, hb2, a2⟩ := HB.out.word hlt2
          subst e2
          rw [← grown_cell HG2.out hb2] at a2
          have v1 := sm_getD HLB.out j
          obtain ⟨v, ev⟩ : ∃ v, v = lb.getD j 0 := ⟨_, rfl⟩
          rw [← ev] at a2 v1
          have EV := Lib.hid ev
          clear ev
          have r1 := HW2.out.cell (i + j) (by rw [YL.out]; omega)
          have y1 := sm_getD HR2.out.sm (i + j)
          obtain ⟨y, ey⟩ : ∃ y, y = ys.getD (i + j) 0 := ⟨_, rfl⟩
          rw [← ey] at r1 y1
          have EY := Lib.hid ey
          clear ey
          have f1 : wr.frozen? ⟨w.heap.size, i + j, none⟩ = false := Row.free HG2.out (Nat.le_refl _)
          obtain ⟨m1, m2⟩ := mul_word u1 v1 y1 cb
          obtain ⟨M, eM⟩ : ∃ M, M = u * v := ⟨_, rfl⟩
          rw [← eM] at m1 m2
          have HST := Lib.hid (show MulIn la lb i (j + 1) ((M + y + c) / 4294967296) (ys.set (i + j) ((M + y + c) % 4294967296)) from mulIn_step HR2.out HLA.out HLB.out hlt hlt2 (by rw [← EU.out, ← EV.out, ← EY.out, ← eM]))
          have em : (u : Int) * (v : Int) = (M : Int) := by rw [eM, Int.natCast_mul]
          have z1 := Lib.hid (show ((M : Int) + (y : Int) + (c : Int)) % 4294967296 = (((M + y + c) % 4294967296 : Nat) : Int) from by omega)
          have z2 := Lib.hid (show ((M : Int) + (y : Int) + (c : Int)) / 4294967296 = (((M + y + c) / 4294967296 : Nat) : Int) from by omega)
          have mi : (M : Int) + (y : Int) + (c : Int) ≤ 18446744073709551615 := by omega
          clear eM m1 m2
          go_wp2_with fail
          go_quiet (fail)
          go_wp2_with fail
          go_roundw
          case rel =>
            refine ⟨j + 1, (M + y + c) / 4294967296, ys.set (i + j) ((M + y + c) % 4294967296), by go_num, by rw [z2.out], by omega, HST.out, ?_, ?_⟩
            · rw [z1.out]; exact Row.set (w := wr.drewN _) ⟨HW2.out.cell, HW2.out.lt⟩ (j := i + j) (by rw [YL.out]; omega) _
            · exact (gr_drewN _ HG2.out).setCell (Nat.le_refl _) _
          case measure => simp [intOf]; omega
        · have hj2 : j = lb.length := by omega
          subst hj2
          have r1 := HW2.out.cell (i + lb.length) (by rw [YL.out]; omega)
          have f1 : wr.frozen? ⟨w.heap.size, i + lb.length, none⟩ = false := Row.free HG2.out (Nat.le_refl _)
          have HST := Lib.hid (mulIn_end HR2.out hlt)
          have z1 := Lib.hid (show (c : Int) % 4294967296 = (c : Int) from by omega)
          go_wp2_with fail
          go_roundw
          case rel =>
            refine ⟨i + 1, ys.set (i + lb.length) c, by go_num, by omega, HST.out, ?_, ?_⟩
            · first | exact HW2.out.set (by rw [YL.out]; omega) _ | (rw [z1.out]; exact HW2.out.set (by rw [YL.out]; omega) _)
            · exact HG2.out.setCell (Nat.le_refl _) _
          case measure => simp [intOf]; omega
    · have hi2 : i = la.length := by omega
      subst hi2
      have HV := Lib.hid (HE.out xs HR.out)
      have HS := Lib.hid HR.out.sm
      have HI := Lib.hid (row_isW (n := la.length + lb.length) HW.out XL.out (by omega))
      go_wp2_with (first
        | (go_at_call 145; (with_reducible refine (trim_c HI.out HS.out).mono ?_); rw [HV.out]; rintro e w' ⟨v', n', rfl, hv, rfl⟩)
        | fail)
      go_ret
      have h1 := gr_drewN n' HG.out
      exact ⟨v', rfl, hv, h1⟩
theorem blend_bd (p : Int) (u : Nat) (hp : -1073741824 ≤ p ∧ p ≤ 1073741824) (hu : u < 4294967296) : -4611686018427387904 ≤ p * (u : Int) ∧ p * (u : Int) ≤ 4611686018427387904 := by
  have h1 : p * (u : Int) ≤ 1073741824 * (u : Int) := Int.mul_le_mul_of_nonneg_right hp.2 (by omega)
  have h2 : -1073741824 * (u : Int) ≤ p * (u : Int) := Int.mul_le_mul_of_nonneg_right hp.1 (by omega)
  omega
theorem blend_bd2 (p q : Int) (u v : Nat) (hp : (0 ≤ p ∧ q ≤ 0) ∨ (p ≤ 0 ∧ 0 ≤ q)) (bp : -4611686018427387904 ≤ p * (u : Int) ∧ p * (u : Int) ≤ 4611686018427387904) (bq : -4611686018427387904 ≤ q * (v : Int) ∧ q * (v : Int) ≤ 4611686018427387904) :
    -4611686018427387904 ≤ p * (u : Int) + q * (v : Int) ∧ p * (u : Int) + q * (v : Int) ≤ 4611686018427387904 := by
  rcases hp with ⟨a, b⟩ | ⟨a, b⟩
  · have h1 : 0 ≤ p * (u : Int) := Int.mul_nonneg a (by omega)
    have h2 : q * (v : Int) ≤ 0 := Int.mul_nonpos_of_nonpos_of_nonneg b (by omega)
    omega
  · have h1 : 0 ≤ q * (v : Int) := Int.mul_nonneg b (by omega)
    have h2 : p * (u : Int) ≤ 0 := Int.mul_nonpos_of_nonpos_of_nonneg a (by omega)
    omega
theorem blend_c {v1 v2 : Value} {A B S : Nat} {p q : Int} {w : World} (h1 : IsW w v1 (digs A)) (h2 : IsW w v2 (digs B)) (hle : (digs B).length ≤ (digs A).length) (hA : (digs A).length ≤ 100000000)
    (hp : -1073741824 ≤ p ∧ p ≤ 1073741824) (hq : -1073741824 ≤ q ∧ q ≤ 1073741824) (hpq : (0 ≤ p ∧ q ≤ 0) ∨ (p ≤ 0 ∧ 0 ≤ q)) (hS : (S : Int) = p * (A : Nat) + q * (B : Nat)) (hSA : S ≤ A) :
    Calls Try.prog 171 #[v1, v2, .int .i64 p, .int .i64 q] w (RetW S w) := by
  obtain ⟨la, ela⟩ : ∃ la, la = digs A := ⟨_, rfl⟩
  obtain ⟨lb, elb⟩ : ∃ lb, lb = digs B := ⟨_, rfl⟩
  have hla : Sm la := by rw [ela]; exact digs_sm A
  have hlb : Sm lb := by rw [elb]; exact digs_sm B
  have va : wv la = A := by rw [ela]; exact wv_digs A
  have vb : wv lb = B := by rw [elb]; exact wv_digs B
  rw [← ela, ← elb] at hle
  rw [← ela] at h1 hA
  rw [← elb] at h2
  clear ela elb
  have HA := Lib.hid h1
  have HB := Lib.hid h2
  obtain ⟨s1, c1, rfl, p1, p2, _⟩ := h1
  obtain ⟨s2, c2, rfl, q1, q2, _⟩ := h2
  have HLA := Lib.hid hla
  have HLB := Lib.hid hlb
  have hmk := mk_words ((la.length : Int) + 1) (la.length + 1) (by omega) (by omega)
  have HE : RowKit.Hid (∀ xs c, ColRel la lb p q (la.length + 1) (la.length + 1) c xs → wv xs = S) := Lib.hid (fun xs c h => (col_end (S := S) h (by omega) (by omega) (by rw [va, vb]; exact hS) (by
    have := wv_lt hla
    rw [Nat.pow_succ]
    omega)).1)
  have HL := Lib.hid hle
  have HP := Lib.hid hpq
  clear hla hlb va vb hle hS hSA hpq
  go_enter Try.func171, Try.ntmps171
  go_wp2
  go_loopw [10, 11, 12] (fun n10 n11 n12 wr => ∃ (i : Nat) (c : Int) (xs : List Nat), n11 = .int .i64 i ∧ n10 = .int .i64 c ∧ -2147483648 ≤ c ∧ c ≤ 2147483648 ∧ i ≤ la.length ∧ ColRel la lb p q (la.length + 1) i c xs ∧ Row wr w.heap.size xs ∧ Grown w wr) (fun _ n11 _ _ => la.length - (intOf n11).toNat)
  case atStart => exact ⟨0, 0, List.replicate (la.length + 1) 0, rfl, rfl, by decide, by decide, Nat.zero_le _, col_start _ _ _ _ _, row_made _ _ _, (Grown.refl _).alloc _ _⟩
  case round =>
    obtain ⟨i, c, xs, rfl, rfl, hc1, hc2, hi, hR, hrow, hg⟩ := hrel
    have HR := Lib.hid hR
    have HW := Lib.hid hrow
    have HG := Lib.hid hg
    have XL := Lib.hid (show xs.length = la.length + 1 from hR.len)
    clear hR hrow hg
    by_cases hlt : i < la.length
    · obtain ⟨b1, o1, e1, hb1, a1⟩ := HA.out.word hlt
      subst e1
      rw [← grown_cell HG.out hb1] at a1
      have u1 := sm_getD HLA.out i
      obtain ⟨u, eu⟩ : ∃ u, u = la.getD i 0 := ⟨_, rfl⟩
      rw [← eu] at a1 u1
      have EU := Lib.hid eu
      clear eu
      have r1 := HW.out.cell i (by rw [XL.out]; omega)
      have f1 : wr.frozen? ⟨w.heap.size, i, none⟩ = false := Row.free HG.out (Nat.le_refl _)
      have bp := blend_bd p u hp u1
      obtain ⟨bp1, bp2⟩ := bp
      by_cases hlt2 : i < lb.length
      · obtain ⟨b2, o2, e2, hb2, a2⟩ := HB.out.word hlt2
        subst e2
        rw [← grown_cell HG.out hb2] at a2
        have v1 := sm_getD HLB.out i
        obtain ⟨v, ev⟩ : ∃ v, v = lb.getD i 0 := ⟨_, rfl⟩
        rw [← ev] at a2 v1
        have EV := Lib.hid ev
        clear ev
        obtain ⟨bq1, bq2⟩ := blend_bd q v hq v1
        obtain ⟨bb1, bb2⟩ := blend_bd2 p q u v HP.out ⟨bp1, bp2⟩ ⟨bq1, bq2⟩
        obtain ⟨M, eM⟩ : ∃ M : Int, p * (u : Int) = M := ⟨_, rfl⟩
        obtain ⟨K, eK⟩ : ∃ K : Int, q * (v : Int) = K := ⟨_, rfl⟩
        rw [eM] at bp1 bp2
        rw [eK] at bq1 bq2
        rw [eM, eK] at bb1 bb2
        obtain ⟨x, ex⟩ : ∃ x : Nat, (x : Int) = (M + c + K) % 4294967296 := ⟨((M + c + K) % 4294967296).toNat, by omega⟩
        have HST := Lib.hid (show ColRel la lb p q (la.length + 1) (i + 1) ((M + c + K) / 4294967296) (xs.set i x) from col_step HR.out (by omega) (by omega) (by rw [← EU.out, ← EV.out, eM, eK]; omega))
        have EX := Lib.hid ex
        have g1 := Lib.hid (show -2147483648 ≤ (M + c + K) / 4294967296 from by omega)
        have g2 := Lib.hid (show (M + c + K) / 4294967296 ≤ 2147483648 from by omega)
        clear ex
        go_wp2_with fail
        go_roundw
        case rel =>
          refine ⟨i + 1, (M + c + K) / 4294967296, xs.set i x, by go_num, rfl, g1.out, g2.out, by omega, HST.out, ?_, ?_⟩
          · rw [← EX.out]; exact HW.out.set (by rw [XL.out]; omega) _
          · exact HG.out.setCell (Nat.le_refl _) _
        case measure => simp [intOf]; omega
      · obtain ⟨M, eM⟩ : ∃ M : Int, p * (u : Int) = M := ⟨_, rfl⟩
        rw [eM] at bp1 bp2
        obtain ⟨x, ex⟩ : ∃ x : Nat, (x : Int) = (M + c) % 4294967296 := ⟨((M + c) % 4294967296).toNat, by omega⟩
        have HST := Lib.hid (show ColRel la lb p q (la.length + 1) (i + 1) ((M + c) / 4294967296) (xs.set i x) from col_step HR.out (by omega) (by omega) (by
          rw [← EU.out, gd_ge (by omega), eM]
          have : q * ((0 : Nat) : Int) = 0 := Int.mul_zero q
          omega))
        have EX := Lib.hid ex
        have g1 := Lib.hid (show -2147483648 ≤ (M + c) / 4294967296 from by omega)
        have g2 := Lib.hid (show (M + c) / 4294967296 ≤ 2147483648 from by omega)
        clear ex
        go_wp2_with fail
        go_roundw
        case rel =>
          refine ⟨i + 1, (M + c) / 4294967296, xs.set i x, by go_num, rfl, g1.out, g2.out, by omega, HST.out, ?_, ?_⟩
          · rw [← EX.out]; exact HW.out.set (by rw [XL.out]; omega) _
          · exact HG.out.setCell (Nat.le_refl _) _
        case measure => simp [intOf]; omega
    · have hi2 : i = la.length := by omega
      subst hi2
      have r1 := HW.out.cell la.length (by rw [XL.out]; omega)
      have f1 : wr.frozen? ⟨w.heap.size, la.length, none⟩ = false := Row.free HG.out (Nat.le_refl _)
      obtain ⟨x, ex⟩ : ∃ x : Nat, (x : Int) = c % 4294967296 := ⟨(c % 4294967296).toNat, by omega⟩
      have HST := Lib.hid (show ColRel la lb p q (la.length + 1) (la.length + 1) (c / 4294967296) (xs.set la.length x) from col_step HR.out (by omega) (by omega) (by
        rw [gd_ge (by omega), gd_ge (by have := HL.out; omega)]
        have e1 : q * ((0 : Nat) : Int) = 0 := Int.mul_zero q
        have e2 : p * ((0 : Nat) : Int) = 0 := Int.mul_zero p
        omega))
      have EX := Lib.hid ex
      clear ex
      have HV := Lib.hid (HE.out _ _ HST.out)
      have HS := Lib.hid HST.out.sm
      have HI := Lib.hid (row_isW (n := la.length + 1) (HW.out.set (j := la.length) (by rw [XL.out]; omega) x) (by rw [List.length_set]; exact XL.out) (by omega))
      have HG2 := Lib.hid (HG.out.setCell (a := ⟨w.heap.size, la.length, none⟩) (Nat.le_refl _) (.int .u32 (x : Int)))
      go_wp2_with (first
        | (go_at_call 145; rw [← EX.out]; (with_reducible refine (trim_c HI.out HS.out).mono ?_); rw [HV.out]; rintro e w' ⟨v', n', rfl, hv, rfl⟩)
        | fail)
      go_ret
      have h1 := gr_drewN n' HG2.out
      exact ⟨v', rfl, hv, h1⟩
def tb2 (w2 s : Nat) : Nat := w2 * 2 ^ (64 - s) % 18446744073709551616
def tb1 (w2 w1 s : Nat) : Nat := tb2 w2 s ||| w1 * 2 ^ (32 - s)
def tb0 (w2 w1 w0 s : Nat) : Nat := tb1 w2 w1 s ||| w0 / 2 ^ s
theorem tb_val (w2 w1 w0 s : Nat) (hs : s < 32) (h2 : w2 < 4294967296) (h1 : w1 < 4294967296) (h0 : w0 < 4294967296) :
    tb2 w2 s < 18446744073709551616 ∧ w1 * 2 ^ (32 - s) < 18446744073709551616 ∧ tb1 w2 w1 s < 18446744073709551616 ∧ w0 / 2 ^ s < 18446744073709551616 ∧
    tb0 w2 w1 w0 s = (w0 / 2 ^ s + w1 * 2 ^ (32 - s) + w2 * 2 ^ (64 - s)) % 18446744073709551616 := by
  have f2 : (18446744073709551616 : Nat) = 2 ^ s * 2 ^ (64 - s) := by rw [← Nat.pow_add, show s + (64 - s) = 64 by omega]
  have f3 : (2 : Nat) ^ (64 - s) = 4294967296 * 2 ^ (32 - s) := by rw [show 64 - s = 32 + (32 - s) by omega, Nat.pow_add]
  have e2 : tb2 w2 s = (w2 % 2 ^ s) * 2 ^ (64 - s) := by
    unfold tb2; rw [f2, Nat.mul_mod_mul_right]
  have hm : w2 % 2 ^ s < 2 ^ s := Nat.mod_lt _ (Nat.two_pow_pos s)
  have b1 : w1 * 2 ^ (32 - s) < 2 ^ (64 - s) := by rw [f3]; exact Nat.mul_lt_mul_of_pos_right h1 (Nat.two_pow_pos _)
  have p32 : (4294967296 : Nat) = 2 ^ s * 2 ^ (32 - s) := by rw [← Nat.pow_add, show s + (32 - s) = 32 by omega]
  have b0 : w0 / 2 ^ s < 2 ^ (32 - s) := by rw [Nat.div_lt_iff_lt_mul (Nat.two_pow_pos s), Nat.mul_comm, ← p32]; exact h0
  have l64 : (2 : Nat) ^ (64 - s) ≤ 18446744073709551616 := by
    have : (2 : Nat) ^ (64 - s) ≤ 2 ^ 64 := Nat.pow_le_pow_right (by decide) (by omega)
    rwa [show (2 : Nat) ^ 64 = 18446744073709551616 by decide] at this
  have e1 : tb1 w2 w1 s = (w2 % 2 ^ s) * 2 ^ (64 - s) + w1 * 2 ^ (32 - s) := by
    unfold tb1; rw [e2, or_two _ _ _ b1]
  have e0 : tb0 w2 w1 w0 s = (w2 % 2 ^ s) * 2 ^ (64 - s) + w1 * 2 ^ (32 - s) + w0 / 2 ^ s := by
    unfold tb0; rw [e1, f3, show w2 % 2 ^ s * (4294967296 * 2 ^ (32 - s)) + w1 * 2 ^ (32 - s) = (w2 % 2 ^ s * 4294967296 + w1) * 2 ^ (32 - s) by rw [Nat.add_mul, Nat.mul_assoc], or_two _ _ _ b0]
  have t1 : (w2 % 2 ^ s + 1) * 2 ^ (64 - s) ≤ 18446744073709551616 := by rw [f2]; exact Nat.mul_le_mul_right _ hm
  rw [Nat.add_mul, Nat.one_mul] at t1
  have t2 : w1 * 2 ^ (32 - s) + w0 / 2 ^ s < 2 ^ (64 - s) := by
    have : (w1 + 1) * 2 ^ (32 - s) ≤ 4294967296 * 2 ^ (32 - s) := Nat.mul_le_mul_right _ h1
    rw [Nat.add_mul, Nat.one_mul, ← f3] at this
    omega
  have e3 : w2 * 2 ^ (64 - s) % 18446744073709551616 = (w2 % 2 ^ s) * 2 ^ (64 - s) := e2
  refine ⟨by rw [e2]; omega, by omega, by rw [e1]; omega, by omega, ?_⟩
  rw [e0]
  omega
theorem wrap_mod (x n : Nat) : IntKind.u64.wrap ((x : Int) * 2 ^ n) = ((x * 2 ^ n % 18446744073709551616 : Nat) : Int) := by
  rw [IntKind.wrap_u64]
  have e : (x : Int) * 2 ^ n = ((x * 2 ^ n : Nat) : Int) := by rw [Int.natCast_mul, Int.natCast_pow]; rfl
  rw [e]; rfl
theorem topBits_c {v1 : Value} {A n : Nat} {w : World} (h1 : IsW w v1 (digs A)) (hA : (digs A).length ≤ 100000000) (hn : n ≤ 100000000) (hb : A / 2 ^ n < 18446744073709551616) :
    Calls Try.prog 170 #[v1, .int .i64 (n : Int)] w (fun e w' => ∃ d, e = .returned (.int .u64 ((A / 2 ^ n : Nat) : Int)) ∧ w' = w.drewN d) := by
  obtain ⟨la, ela⟩ : ∃ la, la = digs A := ⟨_, rfl⟩
  have hla : Sm la := by rw [ela]; exact digs_sm A
  have va : wv la = A := by rw [ela]; exact wv_digs A
  rw [← ela] at h1 hA
  clear ela
  have HA := Lib.hid h1
  obtain ⟨s1, c1, rfl, p1, p2, _⟩ := h1
  have HLA := Lib.hid hla
  obtain ⟨k, hk⟩ : ∃ k, k = n / 32 := ⟨_, rfl⟩
  obtain ⟨s, hs⟩ : ∃ s, s = n % 32 := ⟨_, rfl⟩
  have e1 : (n : Int) / 32 = (k : Int) := by omega
  have e2 : (n : Int) % 32 = (s : Int) := by omega
  have hs32 : s < 32 := by omega
  have hk2 : k ≤ 100000000 := by omega
  have hn2 : n = 32 * k + s := by omega
  have hV := tb_val (la.getD (k + 2) 0) (la.getD (k + 1) 0) (la.getD k 0) s hs32 (sm_getD hla _) (sm_getD hla _) (sm_getD hla _)
  have HV : RowKit.Hid (A / 2 ^ n = tb0 (la.getD (k + 2) 0) (la.getD (k + 1) 0) (la.getD k 0) s) := Lib.hid (by
    rw [hV.2.2.2.2, hn2, ← va]
    exact top_val la hla k s hs32 (by rw [va, ← hn2]; exact hb))
  have hw2 := sm_getD hla (k + 2)
  have hw1 := sm_getD hla (k + 1)
  have hw0 := sm_getD hla k
  have a1 := hV.1
  have a2 := hV.2.1
  have a3 := hV.2.2.1
  have a4 := hV.2.2.2.1
  clear hV hla va hb hk hs hn2
  have HC : RowKit.Hid (∀ (i : Nat) (d : Nat), k + i < la.length → ∃ b off, s1 = some ⟨b, off, none⟩ ∧ (w.drewN d).cell? ⟨b, off + (k + i), none⟩ = some (.int .u32 ((la.getD (k + i) 0 : Nat) : Int))) := Lib.hid (by
    intro i d h
    obtain ⟨b, off, e, _, h2⟩ := HA.out.word h
    exact ⟨b, off, e, h2⟩)
  have k64 : ((64 : Int) - (s : Int)).toNat = 64 - s := by omega
  have k32 : ((32 : Int) - (s : Int)).toNat = 32 - s := by omega
  have g0 : ∀ i, ¬ k + i < la.length → la.getD (k + i) 0 = 0 := fun i h => gd_ge (by omega)
  have G0 := Lib.hid g0
  clear g0
  go_enter Try.func170, Try.ntmps170
  go_wp2
  go_loopw [7, 8, 9] (fun n7 n8 n9 wr => ∃ (d : Nat), wr = w.drewN d ∧ ((n8 = .int .i64 2 ∧ n7 = .int .u64 0) ∨ (n8 = .int .i64 1 ∧ n7 = .int .u64 (tb2 (la.getD (k + 2) 0) s : Nat)) ∨ (n8 = .int .i64 0 ∧ n7 = .int .u64 (tb1 (la.getD (k + 2) 0) (la.getD (k + 1) 0) s : Nat)) ∨
    (n8 = .int .i64 (-1) ∧ n7 = .int .u64 (tb0 (la.getD (k + 2) 0) (la.getD (k + 1) 0) (la.getD k 0) s : Nat)))) (fun _ n8 _ _ => (intOf n8 + 1).toNat)
  case atStart => exact ⟨0, rfl, .inl ⟨rfl, rfl⟩⟩
  case round =>
    obtain ⟨d, rfl, ⟨rfl, rfl⟩ | ⟨rfl, rfl⟩ | ⟨rfl, rfl⟩ | ⟨rfl, rfl⟩⟩ := hrel
    · by_cases hl : k + 2 < la.length
      · obtain ⟨b, off, rfl, hc⟩ := HC.out 2 d hl
        obtain ⟨x, ex⟩ : ∃ x, x = la.getD (k + 2) 0 := ⟨_, rfl⟩
        rw [← ex] at hc hw2
        have EX := Lib.hid ex
        rw [← ex] at a1 a3 ⊢
        clear ex
        by_cases hs0 : s = 0
        · subst hs0
          go_wp2_with fail
          go_roundw
          case rel => exact ⟨_, rfl, .inr (.inl ⟨rfl, by unfold tb2; rw [show (2 : Nat) ^ (64 - 0) = 18446744073709551616 from by decide, Nat.mul_mod_left]; rfl⟩)⟩
          case measure => decide
        · have hs1 : (0 : Int) < (s : Int) := by omega
          go_wp2_with fail
          go_roundw
          case rel => exact ⟨_, rfl, .inr (.inl ⟨rfl, by rw [wrap_mod]; rfl⟩)⟩
          case measure => decide
      · have hz := G0.out 2 hl
        rw [hz] at a1 a3 ⊢
        by_cases hs0 : s = 0
        · subst hs0
          go_wp2_with fail
          go_roundw
          case rel => exact ⟨_, rfl, .inr (.inl ⟨rfl, by unfold tb2; rw [Nat.zero_mul]; rfl⟩)⟩
          case measure => decide
        · have hs1 : (0 : Int) < (s : Int) := by omega
          go_wp2_with fail
          go_roundw
          case rel => exact ⟨_, rfl, .inr (.inl ⟨rfl, by unfold tb2; rw [Nat.zero_mul]; first | rfl | simp [IntKind.wrap_u64]⟩)⟩
          case measure => decide
    · generalize la.getD (k + 2) 0 = y at *
      by_cases hl : k + 1 < la.length
      · obtain ⟨b, off, rfl, hc⟩ := HC.out 1 d hl
        obtain ⟨x, ex⟩ : ∃ x, x = la.getD (k + 1) 0 := ⟨_, rfl⟩
        rw [← ex] at hc hw1
        have EX := Lib.hid ex
        rw [← ex] at a2 a3 ⊢
        clear ex
        go_wp2_with fail
        go_roundw
        case rel => exact ⟨_, rfl, .inr (.inr (.inl ⟨rfl, by rw [wrap_mod, Nat.mod_eq_of_lt a2, bits_or_u64n _ _ a1 a2]; rfl⟩))⟩
        case measure => decide
      · have hz := G0.out 1 hl
        rw [hz] at a2 a3 ⊢
        go_wp2_with fail
        go_roundw
        case rel => exact ⟨_, rfl, .inr (.inr (.inl ⟨rfl, by unfold tb1; rw [Nat.zero_mul, Nat.or_zero]; first | rfl | (rw [show IntKind.u64.wrap ((0 : Int) * 2 ^ (32 - s)) = ((0 : Nat) : Int) from by rw [Int.zero_mul]; rfl, bits_or_u64n _ _ a1 (by decide), Nat.or_zero]) | (rw [show IntKind.u64.wrap (0 : Int) = ((0 : Nat) : Int) from rfl, bits_or_u64n _ _ a1 (by decide), Nat.or_zero]) | (rw [show (0 : Int) = ((0 : Nat) : Int) from rfl, bits_or_u64n _ _ a1 (by decide), Nat.or_zero])⟩))⟩
        case measure => decide
    · generalize la.getD (k + 2) 0 = y2 at *
      generalize la.getD (k + 1) 0 = y at *
      by_cases hl : k + 0 < la.length
      · obtain ⟨b, off, rfl, hc⟩ := HC.out 0 d hl
        simp only [Nat.add_zero] at hc hl
        have hl0 : (k : Int) < (la.length : Int) := by omega
        obtain ⟨x, ex⟩ : ∃ x, x = la.getD k 0 := ⟨_, rfl⟩
        rw [← ex] at hc hw0
        have EX := Lib.hid ex
        rw [← ex] at a4 ⊢
        clear ex
        have HQ := Lib.hid (show (x : Int) / 2 ^ s = ((x / 2 ^ s : Nat) : Int) from by rw [Int.natCast_ediv, Int.natCast_pow]; rfl)
        go_wp2_with fail
        go_roundw
        case rel => exact ⟨_, rfl, .inr (.inr (.inr ⟨rfl, by rw [HQ.out, bits_or_u64n _ _ a3 a4]; rfl⟩))⟩
        case measure => decide
      · have hz := G0.out 0 hl
        simp only [Nat.add_zero] at hz hl
        rw [hz] at a4 ⊢
        have hl0 : ¬ (k : Int) < (la.length : Int) := by omega
        go_wp2_with fail
        go_roundw
        case rel => exact ⟨_, rfl, .inr (.inr (.inr ⟨rfl, by unfold tb0; rw [Nat.zero_div, Nat.or_zero]; first | rfl | (rw [show (0 : Int) / 2 ^ s = ((0 : Nat) : Int) from by rw [Int.zero_ediv]; rfl, bits_or_u64n _ _ a3 (by decide), Nat.or_zero]) | (rw [show (0 : Int) = ((0 : Nat) : Int) from rfl, bits_or_u64n _ _ a3 (by decide), Nat.or_zero])⟩))⟩
        case measure => decide
    · go_wp2_with fail
      go_ret
      exact ⟨_, by rw [HV.out]; rfl, rfl⟩
end Go.Proofs.Ytcfkhhnkboealaa
namespace Go.Proofs.Ytcfkhhnkboealaa
open Go.RowKit
set_option linter.unusedVariables false
set_option linter.unusedSimpArgs false
set_option maxRecDepth 100000
set_option maxHeartbeats 4000000
theorem isW_uniq {w : World} {v : Value} {l m : List Nat} (h : IsW w v l) (k : IsW w v m) : l = m := by
  obtain ⟨s1, c1, e1, _, _, h3⟩ := h
  obtain ⟨s2, c2, e2, _, _, k3⟩ := k
  rw [e1] at e2
  injection e2 with f1 f2 f3
  subst f1
  refine all_eq f2 fun j hj => ?_
  obtain ⟨b, off, e, _, hc⟩ := h3 (by intro e; subst e; simp at hj)
  obtain ⟨b', off', e', _, hc'⟩ := k3 (by intro e; rw [e, List.length_nil] at f2; omega)
  rw [e] at e'
  injection e' with e'
  injection e' with e1 e2
  subst e1 e2
  have h1 := hc j hj
  have h2 := hc' j (by omega)
  rw [h1] at h2
  injection h2 with h2
  injection h2 with h3 h2
  exact Int.ofNat.inj h2
/-- the number that a slice of words tells. -/
noncomputable def numW (w : World) (v : Value) : Nat := by
  classical exact if h : ∃ A, IsW w v (digs A) then Classical.choose h else 0
theorem numW_eq {w : World} {v : Value} {A : Nat} (h : IsW w v (digs A)) : numW w v = A := by
  have hx : ∃ A, IsW w v (digs A) := ⟨A, h⟩
  unfold numW
  rw [dif_pos hx]
  have := isW_uniq (Classical.choose_spec hx) h
  rw [← wv_digs (Classical.choose hx), this, wv_digs]
structure CmR (A B : Nat) (w : World) (va vb : Value) (wr : World) (a b : Nat) : Prop where
  ha : IsW wr va (digs a)
  hb : IsW wr vb (digs b)
  g : Grown w wr
  le : b ≤ a
  ne : a ≠ 0
  len : (digs a).length ≤ 50000
  dv : ∀ g, g ∣ a → g ∣ b → g ∣ A ∧ g ∣ B
theorem dvd_mod_back {g a b : Nat} (h1 : g ∣ b) (h2 : g ∣ a % b) : g ∣ a := (Nat.dvd_mod_iff h1).1 h2
/-- the first bits of two numbers. -/
theorem top_facts {a b n : Nat} (hb : 18446744073709551616 ≤ b) (hle : b ≤ a) (hn : (n : Int) = (bl a : Int) - 60) :
    a / 2 ^ n < 1152921504606846976 ∧ 1 ≤ a / 2 ^ n ∧ b / 2 ^ n ≤ a / 2 ^ n ∧ 5 ≤ n ∧ (n : Int) = ((bl a : Int) - 60) := by
  have ha0 : a ≠ 0 := by omega
  have h1 := bl_lt a
  have h2 := bl_ge ha0
  have h65 : 65 ≤ bl a := by
    have : (2 : Nat) ^ 64 < 2 ^ bl a := Nat.lt_of_le_of_lt (by rw [show (2 : Nat) ^ 64 = 18446744073709551616 by decide]; omega) h1
    have := (Nat.pow_lt_pow_iff_right (show 1 < 2 by decide)).1 this
    omega
  have e : bl a = 60 + n := by omega
  refine ⟨?_, ?_, Nat.div_le_div_right hle, by omega, hn⟩
  · rw [Nat.div_lt_iff_lt_mul (Nat.two_pow_pos n)]
    rw [e, Nat.pow_add] at h1
    rwa [show (2 : Nat) ^ 60 = 1152921504606846976 by decide] at h1
  · rw [Nat.le_div_iff_mul_le (Nat.two_pow_pos n), Nat.one_mul]
    exact Nat.le_trans (Nat.pow_le_pow_right (by decide) (by omega)) h2
theorem len_big {b : Nat} (h : 2 < (digs b).length) : 18446744073709551616 ≤ b := by
  have h0 : b ≠ 0 := by intro e; subst e; simp [digs_zero] at h
  have h1 := digs_ge h0
  have h2 : (4294967296 : Nat) ^ 2 ≤ 4294967296 ^ ((digs b).length - 1) := Nat.pow_le_pow_right (by decide) (by omega)
  rw [show (4294967296 : Nat) ^ 2 = 18446744073709551616 by decide] at h2
  omega
theorem len_small {b : Nat} (h : ¬ 2 < (digs b).length) : b < 18446744073709551616 := by
  have h1 := digs_lt b
  have h2 : (4294967296 : Nat) ^ (digs b).length ≤ 4294967296 ^ 2 := Nat.pow_le_pow_right (by decide) (by omega)
  rw [show (4294967296 : Nat) ^ 2 = 18446744073709551616 by decide] at h2
  omega
/-- bounds of the rows. -/
theorem leh_bd {X Y : Nat} {even : Bool} {x y u0 u1 u2 v0 v1 v2 p : Nat} (h : Leh X Y even x y u0 u1 u2 v0 v1 v2 p) (hX : X < 1152921504606846976) :
    x ≤ X ∧ v2 ≤ X ∧ v1 ≤ v2 ∧ u1 ≤ X + 1 ∧ u2 ≤ v2 := by
  have h1 := h.now1
  have h2 := h.xpos
  have h3 := h.v2pos
  have a1 : v2 ≤ v2 * x := Nat.le_mul_of_pos_right _ h2
  have a2 : x ≤ v2 * x := Nat.le_mul_of_pos_left _ h3
  have h4 := h.uv2
  rcases h.was with ⟨_, rfl, _, rfl, rfl, rfl⟩ | ⟨_, _, _, _, a, b, c, _⟩
  · omega
  · omega
theorem sq_small {v X : Nat} (h : v * v ≤ X) (hX : X < 1152921504606846976) : v < 1073741824 := by
  rcases Nat.lt_or_ge v 1073741824 with k | k
  · exact k
  · have := Nat.mul_le_mul k k
    omega
/-- one step of the rows in the machine's words. -/
theorem leh_words {X Y : Nat} {even : Bool} {x y u0 u1 u2 v0 v1 v2 p : Nat} (h : Leh X Y even x y u0 u1 u2 v0 v1 v2 p) (hX : X < 1152921504606846976) (h1 : v2 ≤ y) (h2 : v1 + v2 ≤ x - y) :
    ∃ q M1 M2 M3 : Nat, q = x / y ∧ M1 = q * y ∧ M2 = q * u2 ∧ M3 = q * v2 ∧ M1 ≤ x ∧ u1 + M2 ≤ 1152921504606846977 ∧ v1 + M3 ≤ 1152921504606846976 ∧ M2 ≤ 1152921504606846976 ∧ q ≤ x ∧
      Leh X Y (!even) y (x - M1) u1 u2 (u1 + M2) v1 v2 (v1 + M3) x ∧ x - M1 < y := by
  have hs := leh_step h h1 h2 (q := x / y) rfl
  have hv := h.v2pos
  have hy : 0 < y := by omega
  have b := leh_bd hs hX
  have hm := Nat.div_mul_le_self x y
  have hmod := Nat.div_add_mod x y
  have hlt := Nat.mod_lt x hy
  have hqx := Nat.div_le_self x y
  rw [Nat.mul_comm] at hmod
  refine ⟨x / y, _, _, _, rfl, rfl, rfl, rfl, hm, ?_, ?_, ?_, hqx, hs, by omega⟩ <;> omega
/-- what the rows' end says of the numbers. -/
theorem leh_next {A B a b X Y n : Nat} {even : Bool} {x y u0 u1 u2 v0 v1 v2 p : Nat} (h : Leh X Y even x y u0 u1 u2 v0 v1 v2 p) (h0 : v0 ≠ 0) (hXY : a = X * 2 ^ n + a % 2 ^ n ∧ b = Y * 2 ^ n + b % 2 ^ n ∧ a % 2 ^ n < 2 ^ n ∧ b % 2 ^ n < 2 ^ n) (hX : X < 1152921504606846976)
    (hle : b ≤ a) (hne : a ≠ 0) (hdv : ∀ g, g ∣ a → g ∣ b → g ∣ A ∧ g ∣ B) (hb0 : b ≠ 0) :
    ∃ A' B' : Nat, (A' : Int) = (if even then (u0 : Int) * a + (-(v0 : Int)) * b else (-(u0 : Int)) * a + (v0 : Int) * b) ∧ (B' : Int) = (if even then (-(u1 : Int)) * a + (v1 : Int) * b else (u1 : Int) * a + (-(v1 : Int)) * b) ∧ B' ≤ A' ∧ A' + B' < a + b ∧ A' ≤ a ∧ B' ≤ a ∧ A' ≠ 0 ∧
      (∀ g, g ∣ A' → g ∣ B' → g ∣ A ∧ g ∣ B) ∧ u0 < 1073741824 ∧ u1 < 1073741824 ∧ v0 < 1073741824 ∧ v1 < 1073741824 := by
  obtain ⟨A', B', e1, e2, e3, e4, e5, e6, e7, e8, e9, e10⟩ := leh_end h h0 hXY.1 hXY.2.1 hXY.2.2.1 hXY.2.2.2
  have hs := sq_small e10 hX
  refine ⟨A', B', ?_, ?_, e3, by omega, by omega, by omega, ?_, ?_, by omega, by omega, by omega, hs⟩
  · rw [e1]; split <;> grind
  · rw [e2]; split <;> grind
  · intro h0
    have : B' = 0 := by omega
    rw [h0, this] at e5
    simp at e5
    omega
  · intro g g1 g2
    refine hdv g ?_ ?_
    · rw [e5]; exact Nat.dvd_add (Nat.dvd_mul_left_of_dvd g1 _) (Nat.dvd_mul_left_of_dvd g2 _)
    · rw [e6]; exact Nat.dvd_add (Nat.dvd_mul_left_of_dvd g1 _) (Nat.dvd_mul_left_of_dvd g2 _)
def RetGW (A B : Nat) (w : World) (e : Ending) (w' : World) : Prop := ∃ (G : Nat) (v : Value), e = .returned v ∧ IsW w' v (digs G) ∧ Grown w w' ∧ G ∣ A ∧ G ∣ B ∧ G ≠ 0
theorem common_c {v1 v2 : Value} {A B : Nat} {w : World} (h1 : IsW w v1 (digs A)) (h2 : IsW w v2 (digs B)) (hne : A ≠ 0 ∨ B ≠ 0) (hA : (digs A).length ≤ 50000) (hB : (digs B).length ≤ 50000) :
    Calls Try.prog 149 #[v1, v2] w (RetGW A B w) := by
  have H1 := Lib.hid h1
  have H2 := Lib.hid h2
  obtain ⟨c, hc⟩ : ∃ c, cmpI A B = c := ⟨_, rfl⟩
  have HC := Lib.hid hc
  have HL : RowKit.Hid ((c < 0 → CmR A B w v2 v1 w B A) ∧ (¬ c < 0 → CmR A B w v1 v2 w A B)) := Lib.hid (by
    constructor
    · intro h
      have : A < B := by
        rcases Nat.lt_or_ge A B with k | k
        · exact k
        · rw [← hc, cmpI_ge k] at h; exact h.elim
      exact ⟨h2, h1, Grown.refl _, by omega, by omega, hB, fun g a b => ⟨b, a⟩⟩
    · intro h
      have : B ≤ A := by
        rcases Nat.lt_or_ge A B with k | k
        · rw [← hc, cmpI_lt k] at h; exact absurd (by decide) h
        · exact k
      exact ⟨h1, h2, Grown.refl _, this, by omega, hA, fun g a b => ⟨a, b⟩⟩)
  have hcb : -1 ≤ c ∧ c ≤ 1 := by rw [← hc]; unfold cmpI; split <;> (try split) <;> omega
  clear hc hne
  have hv1 := h1
  have hv2 := h2
  obtain ⟨s1, c1, rfl, _, _, _⟩ := h1
  obtain ⟨s2, c2, rfl, _, _, _⟩ := h2
  rcases (show (c < 0 ∧ CmR A B w (.slice s2 (digs B).length c2) (.slice s1 (digs A).length c1) w B A) ∨ (¬ c < 0 ∧ CmR A B w (.slice s1 (digs A).length c1) (.slice s2 (digs B).length c2) w A B) from by
    by_cases hlt : c < 0
    · exact .inl ⟨hlt, HL.out.1 hlt⟩
    · exact .inr ⟨hlt, HL.out.2 hlt⟩) with ⟨hlt, hx⟩ | ⟨hlt, hx⟩
  all_goals
    have HX := Lib.hid hx
    clear hx
    go_enter Try.func149, Try.ntmps149
    go_wp2_with (first
      | (go_at_call 95; (with_reducible refine (cmp_c H1.out H2.out).mono ?_); rw [HC.out]; rintro e w' ⟨n, rfl, rfl⟩)
      | fail)
    go_loopw [0, 1, 5, 6, 7, 8, 9, 10, 11, 12, 13, 14, 15, 16, 17] (fun n0 n1 n5 n6 n7 n8 n9 n10 n11 n12 n13 n14 n15 n16 n17 wr => ∃ a b, CmR A B w n0 n1 wr a b) (fun n0 n1 _ _ _ _ _ _ _ _ _ _ _ _ _ wr => numW wr n0 + numW wr n1)
    case atStart =>
      have hx := HX.out
      exact ⟨_, _, hx.ha, hx.hb, gr_drewN _ hx.g, hx.le, hx.ne, hx.len, hx.dv⟩
    case round =>
      obtain ⟨a, b, hR⟩ := hrel
      have HR := Lib.hid hR
      have HM := Lib.hid (And.intro (numW_eq hR.ha) (numW_eq hR.hb))
      clear HX HL
      obtain ⟨sa, ca, rfl, pa1, pa2, _⟩ := hR.ha
      obtain ⟨sb, cb, rfl, pb1, pb2, _⟩ := hR.hb
      clear hR
      by_cases hl2 : 2 < (digs b).length
      · have HBB := Lib.hid (len_big hl2)
        obtain ⟨n, hn⟩ : ∃ n : Nat, (n : Int) = (bl a : Int) - 60 := ⟨bl a - 60, by
          have h1 := bl_lt a
          have h2 : (2 : Nat) ^ 64 < 2 ^ bl a := Nat.lt_of_le_of_lt (by rw [show (2 : Nat) ^ 64 = 18446744073709551616 by decide]; exact Nat.le_trans HBB.out HR.out.le) h1
          have := (Nat.pow_lt_pow_iff_right (show 1 < 2 by decide)).1 h2
          omega⟩
        have hT := top_facts HBB.out HR.out.le hn
        obtain ⟨X, hX⟩ : ∃ X, a / 2 ^ n = X := ⟨_, rfl⟩
        obtain ⟨Y, hY⟩ : ∃ Y, b / 2 ^ n = Y := ⟨_, rfl⟩
        rw [hX, hY] at hT
        obtain ⟨hX1, hX2, hYX, hn5, -⟩ := hT
        have hn9 : n ≤ 100000000 := by
          have h1 := bl_len a
          have h2 := HR.out.len
          omega
        have HN := Lib.hid (show ((bl a : Nat) : Int) = (n : Int) + 60 from by omega)
        have HTA : RowKit.Hid (∀ m, Calls Try.prog 170 #[.slice sa (digs a).length ca, .int .i64 (n : Int)] (wr.drewN m) (fun e w' => ∃ d, e = .returned (.int .u64 (X : Int)) ∧ w' = (wr.drewN m).drewN d)) := Lib.hid (fun m => by
          have := topBits_c (n := n) (HR.out.ha.drewN m) (Nat.le_trans HR.out.len (by decide)) hn9 (by rw [hX]; omega)
          rwa [hX] at this)
        have HTB : RowKit.Hid (∀ m, Calls Try.prog 170 #[.slice sb (digs b).length cb, .int .i64 (n : Int)] (wr.drewN m) (fun e w' => ∃ d, e = .returned (.int .u64 (Y : Int)) ∧ w' = (wr.drewN m).drewN d)) := Lib.hid (fun m => by
          have := topBits_c (n := n) (HR.out.hb.drewN m) (Nat.le_trans (digs_mono HR.out.le) (Nat.le_trans HR.out.len (by decide))) hn9 (by rw [hY]; omega)
          rwa [hY] at this)
        have HXY := Lib.hid (show a = X * 2 ^ n + a % 2 ^ n ∧ b = Y * 2 ^ n + b % 2 ^ n ∧ a % 2 ^ n < 2 ^ n ∧ b % 2 ^ n < 2 ^ n from by
          rw [← hX, ← hY]
          have h1 := Nat.div_add_mod a (2 ^ n)
          have h2 := Nat.div_add_mod b (2 ^ n)
          rw [Nat.mul_comm] at h1 h2
          exact ⟨h1.symm, h2.symm, Nat.mod_lt _ (Nat.two_pow_pos n), Nat.mod_lt _ (Nat.two_pow_pos n)⟩)
        clear hn hX hY
        go_wp2_with (first
          | (go_at_call 167; (with_reducible refine (bitLen_c HR.out.ha).mono ?_); rw [HN.out]; rintro e w1 ⟨d1, rfl, rfl⟩)
          | (go_at_call_of 170 (Value.slice sa (digs a).length ca); (with_reducible refine (HTA.out _).mono ?_); rintro e w2 ⟨d2, rfl, rfl⟩)
          | (go_at_call_of 170 (Value.slice sb (digs b).length cb); (with_reducible refine (HTB.out _).mono ?_); rintro e w3 ⟨d3, rfl, rfl⟩)
          | fail)
        clear HTA HTB
        have HE : RowKit.Hid (∀ d : Nat, CmR A B w (.slice sa (digs a).length ca) (.slice sb (digs b).length cb) (wr.drewN d) a b) := Lib.hid (fun d => ⟨HR.out.ha.drewN d, HR.out.hb.drewN d, gr_drewN d HR.out.g, HR.out.le, HR.out.ne, HR.out.len, HR.out.dv⟩)
        have HLS := Lib.hid (leh_start hYX hX2)
        go_loopw [6, 7, 8, 9, 10, 11, 12, 13, 14, 15] (fun n6 n7 n8 n9 n10 n11 n12 n13 n14 n15 wz => ∃ (x y u0 u1 u2 v0 v1 v2 p d : Nat) (even : Bool), n6 = .int .u64 x ∧ n7 = .int .u64 y ∧ n8 = .int .u64 u0 ∧ n9 = .int .u64 u1 ∧ n10 = .int .u64 u2 ∧ n11 = .int .u64 v0 ∧ n12 = .int .u64 v1 ∧ n13 = .int .u64 v2 ∧ n14 = .bool even ∧ Leh X Y even x y u0 u1 u2 v0 v1 v2 p ∧ wz = wr.drewN d) (fun _ n7 _ _ _ _ _ _ _ _ _ => (intOf n7).toNat)
        case atStart => exact ⟨X, Y, 0, 1, 0, 0, 0, 1, 0, _, false, rfl, rfl, rfl, rfl, rfl, rfl, rfl, rfl, rfl, HLS.out, by first | rfl | (rw [World.drewN_drewN]) | (rw [World.drewN_drewN, World.drewN_drewN])⟩
        case round =>
          obtain ⟨x, y, u0, u1, u2, v0, v1, v2, p, d, even, rfl, rfl, rfl, rfl, rfl, rfl, rfl, rfl, rfl, hLe, rfl⟩ := hrel
          have HLe := Lib.hid hLe
          obtain ⟨b1, b2, b3, b4, b5⟩ := leh_bd hLe hX1
          have hyx := hLe.le
          clear hLe HLS
          by_cases kk : v2 ≤ y ∧ v1 + v2 ≤ x - y
          · obtain ⟨k1, k2⟩ := kk
            have k1i : (v2 : Int) ≤ (y : Int) := by omega
            have k2i : (v1 : Int) + (v2 : Int) ≤ (x : Int) - (y : Int) := by omega
            obtain ⟨q, M1, M2, M3, hq, e1, e2, e3, m1, m2, m3, m4, m5, hN, hlt2⟩ := leh_words HLe.out hX1 k1 k2
            have HN2 := Lib.hid hN
            have f1 : (q : Int) * (y : Int) = (M1 : Int) := by rw [e1, Int.natCast_mul]
            have f2 : (q : Int) * (u2 : Int) = (M2 : Int) := by rw [e2, Int.natCast_mul]
            have f3 : (q : Int) * (v2 : Int) = (M3 : Int) := by rw [e3, Int.natCast_mul]
            have f0 : (x : Int) / (y : Int) = (q : Int) := by rw [hq]; exact (Int.natCast_ediv x y).symm
            have g1 := Lib.hid (show (x : Int) - (M1 : Int) = ((x - M1 : Nat) : Int) from by omega)
            have g2 := Lib.hid (show (u1 : Int) + (M2 : Int) = ((u1 + M2 : Nat) : Int) from by omega)
            have g3 := Lib.hid (show (v1 : Int) + (M3 : Int) = ((v1 + M3 : Nat) : Int) from by omega)
            have HLT := Lib.hid hlt2
            have hy1 : (1 : Int) ≤ (y : Int) := by have := HLe.out.v2pos; omega
            clear hN hlt2 e1 e2 e3 hq k1 k2
            go_wp2_with fail
            go_roundw
            case rel => exact ⟨y, x - M1, u1, u2, u1 + M2, v1, v2, v1 + M3, x, d, !even, rfl, by rw [g1.out], rfl, rfl, by rw [g2.out], rfl, rfl, by rw [g3.out], rfl, HN2.out, rfl⟩
            case measure =>
              rw [g1.out]
              exact HLT.out
          · have hx2 : (¬ (v2 : Int) ≤ (y : Int)) ∨ ((v2 : Int) ≤ (y : Int) ∧ ¬ ((v1 : Int) + (v2 : Int) ≤ (x : Int) - (y : Int))) := by omega
            have hbne : b ≠ 0 := by have := HBB.out; omega
            by_cases h0 : v0 = 0
            · subst h0
              have HD := Lib.hid (div_c (HR.out.ha.drewN d) (HR.out.hb.drewN d) hbne (Nat.le_trans HR.out.len (by decide)))
              have HLT := Lib.hid (Nat.mod_lt a (Nat.pos_of_ne_zero hbne))
              have HBN := Lib.hid hbne
              clear hbne kk
              rcases hx2 with k1i | ⟨k1i, k2i⟩
              all_goals
                go_wp2_with (first
                  | (go_at_call 150; (with_reducible refine HD.out.mono ?_); rintro e w1 ⟨q1, q2, rfl, hq1, hq2, hg1⟩; have HQ2 := Lib.hid hq2; have HG1 := Lib.hid (gr_trans (gr_drewN d (Grown.refl wr)) hg1); clear hq1 hq2 hg1)
                  | fail)
                go_roundw
                case rel => exact ⟨b, a % b, HR.out.hb.grown HG1.out, HQ2.out, gr_trans HR.out.g HG1.out, Nat.le_of_lt HLT.out, HBN.out, Nat.le_trans (digs_mono HR.out.le) HR.out.len, fun g g1 g2 => HR.out.dv g (dvd_mod_back g1 g2) g1⟩
                case measure =>
                  rw [numW_eq (HR.out.hb.grown HG1.out), numW_eq HQ2.out, HM.out.1, HM.out.2]
                  have h1 := HLT.out
                  have h2 := HR.out.le
                  omega
            · have hv0 : ((v0 : Int) == 0) = false := by simp; omega
              obtain ⟨A', B', e1, e2, e3, e4, e5, e6, e7, e8, g1, g2, g3, g4⟩ := leh_next HLe.out h0 HXY.out hX1 HR.out.le HR.out.ne HR.out.dv hbne
              have HF := Lib.hid (And.intro e3 (And.intro e4 (And.intro e5 (And.intro e7 e8))))
              have hlen1 := digs_mono HR.out.le
              have hlen2 : (digs a).length ≤ 100000000 := Nat.le_trans HR.out.len (by decide)
              have HB1 := Lib.hid (fun (W : World) (hg : Grown wr W) => fun p q hp hq hpq hS => @blend_c _ _ _ _ A' p q W (HR.out.ha.grown hg) (HR.out.hb.grown hg) hlen1 hlen2 hp hq hpq hS e5)
              have HB2 := Lib.hid (fun (W : World) (hg : Grown wr W) => fun p q hp hq hpq hS => @blend_c _ _ _ _ B' p q W (HR.out.ha.grown hg) (HR.out.hb.grown hg) hlen1 hlen2 hp hq hpq hS e6)
              have HLL := Lib.hid (Nat.le_trans (digs_mono e5) HR.out.len)
              clear e3 e4 e5 e6 e7 e8 hlen1 hlen2 kk h0 hbne
              cases even
              all_goals
                simp only [Bool.false_eq_true, if_false, if_true] at e1 e2
                have E1 := Lib.hid e1
                have E2 := Lib.hid e2
                clear e1 e2
                rcases hx2 with k1i | ⟨k1i, k2i⟩
                all_goals
                  go_wp2_with (first
                    | (go_at_call 171; (with_reducible refine (HB1.out _ (gr_drewN d (Grown.refl wr)) _ _ (by omega) (by omega) (by omega) E1.out).mono ?_); rintro e w5 ⟨va, rfl, hva, hga⟩; have HVA := Lib.hid hva; have HGA := Lib.hid (gr_trans (gr_drewN d (Grown.refl wr)) hga); clear hva hga)
                    | (go_at_call 171; (with_reducible refine (HB2.out _ HGA.out _ _ (by omega) (by omega) (by omega) E2.out).mono ?_); rintro e w6 ⟨vb, rfl, hvb, hgb⟩; have HVB := Lib.hid hvb; have HGB := Lib.hid hgb; clear hvb hgb)
                    | fail)
                  go_roundw
                  case rel => exact ⟨A', B', HVA.out.grown HGB.out, HVB.out, gr_trans HR.out.g (gr_trans HGA.out HGB.out), HF.out.1, HF.out.2.2.2.1, HLL.out, HF.out.2.2.2.2⟩
                  case measure =>
                    rw [numW_eq (HVA.out.grown HGB.out), numW_eq HVB.out, HM.out.1, HM.out.2]
                    exact HF.out.2.1
      · have hb64 := len_small hl2
        by_cases hb0 : b = 0
        · subst hb0
          have hlen0 : (digs 0).length = 0 := rfl
          rw [hlen0]
          go_wp2_with (first
            | (go_at_call 148; (with_reducible refine (copied_c HR.out.ha).mono ?_); rintro e w' ⟨v, rfl, hv, hg⟩)
            | fail)
          go_ret
          exact ⟨a, v, rfl, hv, gr_trans HR.out.g hg, (HR.out.dv a (Nat.dvd_refl a) (Nat.dvd_zero a)).1, (HR.out.dv a (Nat.dvd_refl a) (Nat.dvd_zero a)).2, HR.out.ne⟩
        · have hl0 : ((digs b).length : Int) ≠ 0 := by have := digs_len_pos hb0; omega
          have hlb : (((digs b).length : Int) == 0) = false := by simpa using hl0
          have HB0 := Lib.hid hb0
          have HD := Lib.hid (div_c HR.out.ha HR.out.hb hb0 (Nat.le_trans HR.out.len (by decide)))
          have hr64 : a % b < 18446744073709551616 := Nat.lt_trans (Nat.mod_lt _ (Nat.pos_of_ne_zero hb0)) hb64
          have HB64 := Lib.hid hb64
          have HR64 := Lib.hid hr64
          obtain ⟨r, hr⟩ : ∃ r, a % b = r := ⟨_, rfl⟩
          rw [hr] at HD HR64
          have HRr := Lib.hid hr
          clear hb0 hr64 hr
          go_wp2_with (first
            | (go_at_call 150; (with_reducible refine HD.out.mono ?_); rintro e w1 ⟨q1, q2, rfl, hq1, hq2, hg1⟩; have HQ2 := Lib.hid hq2; have HG1 := Lib.hid hg1; have HB1 := Lib.hid (HR.out.hb.grown hg1); clear hq1 hq2 hg1)
            | (go_at_call_of 168 (Value.slice sb (digs b).length cb); (with_reducible refine (toUint_c HB1.out HB64.out).mono ?_); rintro e w2 ⟨d2, rfl, rfl⟩)
            | (go_at_call 168; (with_reducible refine (toUint_c (HQ2.out.drewN _) HR64.out).mono ?_); rintro e w3 ⟨d3, rfl, rfl⟩)
            | fail)
          go_loopw [20, 21] (fun n20 n21 wz => ∃ x y d : Nat, n20 = .int .u64 x ∧ n21 = .int .u64 y ∧ x < 18446744073709551616 ∧ y < 18446744073709551616 ∧ x ≠ 0 ∧ (∀ g, g ∣ x → g ∣ y → g ∣ b ∧ g ∣ r) ∧ wz = w1.drewN d) (fun _ n21 _ => (intOf n21).toNat)
          case atStart => exact ⟨b, r, _, rfl, rfl, HB64.out, HR64.out, HB0.out, fun g a b => ⟨a, b⟩, by first | rfl | (rw [World.drewN_drewN])⟩
          case round =>
            obtain ⟨x, y, d, rfl, rfl, hx, hy, hx0, hdv, rfl⟩ := hrel
            have HDV := Lib.hid hdv
            have HX0 := Lib.hid hx0
            clear hdv hx0
            by_cases hy0 : y = 0
            · subst hy0
              have HG2 := Lib.hid (gr_trans HR.out.g (gr_drewN d HG1.out))
              go_wp2_with (first
                | (go_at_call 142; (with_reducible refine (fromUint_c x hx _).mono ?_); rintro e w4 ⟨v, rfl, hv, hg⟩)
                | fail)
              go_ret
              have h1 := HDV.out x (Nat.dvd_refl x) (Nat.dvd_zero x)
              rw [← HRr.out] at h1
              have h2 := HR.out.dv x (dvd_mod_back h1.1 h1.2) h1.1
              exact ⟨x, v, rfl, hv, gr_trans HG2.out hg, h2.1, h2.2, HX0.out⟩
            · have hy1 : ((y : Int) != 0) = true := by simp; omega
              have hyp : (1 : Int) ≤ (y : Int) := by omega
              have HM1 := Lib.hid (show (x : Int) % (y : Int) = ((x % y : Nat) : Int) from rfl)
              have HLT := Lib.hid (Nat.mod_lt x (Nat.pos_of_ne_zero hy0))
              have HY0 := Lib.hid hy0
              clear hy0
              go_wp2_with fail
              go_quiet (fail)
              go_wp2_with fail
              go_roundw
              case rel => exact ⟨y, x % y, _, rfl, by rw [HM1.out], hy, Nat.lt_trans HLT.out hy, HY0.out, fun g a b => HDV.out g (dvd_mod_back a b) a, by first | rfl | (rw [World.drewN_drewN])⟩
              case measure =>
                rw [HM1.out]
                exact HLT.out
end Go.Proofs.Ytcfkhhnkboealaa
