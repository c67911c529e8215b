/- Scaling by powers of two: products and quotients that stay the same but for the power, to the word. No text of the program. -/
import Derived.Test.YtcfkhhnkboealaaRsx
namespace Go.Proofs.Ytcfkhhnkboealaa
set_option linter.unusedVariables false
set_option linter.unusedSimpArgs false
set_option maxRecDepth 100000
theorem V.same {f g : Nat} {a : Rat} (hf : V f a) (hg : V g a) (hs : sgn f = sgn g) : f = g := by
  have e1 := hf.size
  rw [hg.size] at e1
  have x1 := div_self_mul (mval (rung f) : Rat) UQ_ne
  have x2 := div_self_mul (mval (rung g) : Rat) UQ_ne
  rw [← e1, x2] at x1
  have e4 : mval (rung g) = mval (rung f) := by exact_mod_cast x1
  rw [← wd_self hf.lt, ← wd_self hg.lt, hs, mval_inj e4]
theorem V.rung0 {f : Nat} {a : Rat} (hf : V f a) (h : a = 0) : rung f = 0 := by
  have s := hf.size
  rw [h, show ab (0 : Rat) = 0 by decide +kernel] at s
  have x := div_self_mul (mval (rung f) : Rat) UQ_ne
  rw [← s, Rat.zero_mul] at x
  have h3 : mval (rung f) = 0 := by
    have h2 : ((0 : Nat) : Rat) = (mval (rung f) : Rat) := x
    exact_mod_cast h2.symm
  rcases Nat.eq_zero_or_pos (rung f) with k | k
  · exact k
  · have := mval_pos k; omega
theorem V.of0 {f : Nat} {a : Rat} (hf : V f a) (h : rung f = 0) : a = 0 := by
  have e := hf.form
  rw [h, mval_zero] at e
  rw [e, show ((0 : Nat) : Rat) / (U : Rat) = 0 by grind]
  cases sgn f <;> simp [sq]
/-- a product by a power of two is the scaled float. -/
theorem fmul_pow {f : Nat} (hl : f < 18446744073709551616) (hf : fin f = true) {j : Int} (h1 : -1022 ≤ j) (h2 : j ≤ 1023) : fmul f ((j + 1023).toNat * 4503599627370496) = scaleF f j := by
  obtain ⟨K, hK⟩ : ∃ K : Nat, (j + 1023).toNat = K + 1 := ⟨(j + 1022).toNat, by omega⟩
  have hKj : j = (K : Int) - 1022 := by omega
  have hr : (K + 1) * 4503599627370496 < 9218868437227405312 := by omega
  have hrr : rung ((K + 1) * 4503599627370496) = (K + 1) * 4503599627370496 := by unfold rung; omega
  have hss : sgn ((K + 1) * 4503599627370496) = false := by unfold sgn; simp; omega
  have hfin : fin ((K + 1) * 4503599627370496) = true := by unfold fin; rw [hrr]; simpa using hr
  rw [hK, fmul_fin hf hfin, hrr, hss, mval_two, Bool.xor_false]
  by_cases h0 : rung f = 0
  · rw [scale_nought (fin_notN hf) h0, h0, mval_zero, Nat.zero_mul]
    have := wd_self hl
    rw [h0] at this
    exact this
  · rw [scale_val hl hf h0]
    unfold rndE
    obtain ⟨c, hc⟩ : ∃ c : Nat, c = 1074 := ⟨_, rfl⟩
    rw [show (1074 : Nat) = c from hc.symm]
    by_cases hj : 0 ≤ j
    · rw [show 52 + K = j.toNat + c by omega, Nat.pow_add, ← Nat.mul_assoc, rndQ_cancel, show (-j).toNat = 0 by omega]
      rfl
    · obtain ⟨i, hi⟩ : ∃ i : Nat, (-j).toNat = i := ⟨_, rfl⟩
      have e := rndQ_scale (mval (rung f)) i (52 + K)
      rw [show i + (52 + K) = c by omega] at e
      rw [e, hi, show j.toNat = 0 by omega, Nat.pow_zero, Nat.mul_one]
/-- SCALED, EXACTLY: of a float that is nought or stays between 2^-1000 and 2^1000. -/
theorem V.up {f : Nat} {a : Rat} (hf : V f a) {n : Int} (h1 : -1000 ≤ n) (h2 : n ≤ 1000) (hs : a = 0 ∨ pw (-1000) ≤ ab (a * pw n)) (hb : ab (a * pw n) ≤ pw 1000) :
    V (scaleF f n) (a * pw n) ∧ sgn (scaleF f n) = sgn f := by
  have hc := clamp_id (n := n) (by omega) (by omega)
  by_cases h0 : rung f = 0
  · rw [scale_nought (fin_notN hf.fin) h0]
    have e := hf.of0 h0
    subst e
    rw [Rat.zero_mul]
    exact ⟨hf, rfl⟩
  · have hp1 : pw 1000 ≤ BG := by
      have e : BG = pw (kBG : Int) := by rw [pw_nat]; rfl
      rw [e]
      exact pw_mono (by rw [kBG_eq]; decide)
    obtain ⟨c, g1, _, _, g4, _⟩ := hf.scale (n := n) (by omega) (by omega) (Rat.le_trans hb hp1)
    rw [hc] at g1
    refine ⟨?_, (scale_sgn hf.lt hf.fin h0).1⟩
    rcases hs with e | hs
    · exact absurd (hf.rung0 e) h0
    · have : 9007199254740992 * (2 * et) ≤ pw (-1000) := by decide +kernel
      rw [← g4 (Rat.le_trans this hs)]
      exact g1
/-- the order of a float is told by its size. -/
theorem partE_of {f : Nat} {a : Rat} (hf : V f a) {k : Int} (h1 : 1 / 2 ≤ ab a * pw (-k)) (h2 : ab a * pw (-k) < 1) : partE f = k := by
  have h0 : a ≠ 0 := by
    intro e
    rw [e, show ab (0 : Rat) = 0 by decide +kernel, Rat.zero_mul] at h1
    exact absurd h1 (by decide +kernel)
  obtain ⟨p1, p2, _, _⟩ := hf.parts h0
  generalize partE f = e at *
  have key : ∀ {u v : Int}, u < v → 1 / 2 ≤ ab a * pw (-v) → ab a * pw (-u) < 1 → False := by
    intro u v huv q1 q2
    have e1 : pw (-u) = pw (-v) * pw (v - u) := by rw [← pw_add, show -v + (v - u) = -u by omega]
    have e2 : 2 ≤ pw (v - u) := by have := pw_mono (a := 1) (b := v - u) (by omega); rwa [pw_one] at this
    rw [e1] at q2
    have e3 : ab a * (pw (-v) * pw (v - u)) = ab a * pw (-v) * pw (v - u) := by grind
    rw [e3] at q2
    have := Rat.mul_le_mul_of_nonneg_left e2 (show 0 ≤ ab a * pw (-v) by grind)
    grind
  rcases Int.lt_trichotomy e k with h | h | h
  · exact (key h h1 p2).elim
  · exact h
  · exact (key h p1 h2).elim
/-- a float of a usual size: a number of 53 digits and a power of two. -/
theorem norm_read {r : Nat} (h0 : 4503599627370496 ≤ rung r) (h : rung r < 9218868437227405312) : ∃ m k, Ieee.double.read r = .number (sgn r) m (-1074 + (k : Nat)) ∧ mval (rung r) = m * 2 ^ k ∧ 4503599627370496 ≤ m ∧ m < 9007199254740992 ∧ k ≤ 2045 := by
  obtain ⟨m, k, g1, g2, g3, g4⟩ := read_number h
  refine ⟨m, k, g1, g2, ?_, g3, g4⟩
  have e := read_eq r
  dsimp only at e
  have hr : r % 9223372036854775808 = rung r := rfl
  rw [hr, if_neg (by omega), if_pos h, g1] at e
  injection e with e1 e2 e3
  omega
theorem log52 {m : Nat} (h1 : 4503599627370496 ≤ m) (h2 : m < 9007199254740992) : m.log2 = 52 := by
  have h0 : m ≠ 0 := by omega
  have a1 := (Nat.le_log2 h0 (k := 52)).2 h1
  have a2 := (Nat.log2_lt h0 (k := 53)).2 h2
  omega
theorem same_parts {m n a b : Nat} (h1 : 4503599627370496 ≤ m) (h2 : m < 9007199254740992) (h3 : 4503599627370496 ≤ n) (h4 : n < 9007199254740992) (h : m * 2 ^ a = n * 2 ^ b) : m = n ∧ a = b := by
  have e := congrArg Nat.log2 h
  rw [log2_mul m a (by omega), log2_mul n b (by omega), log52 h1 h2, log52 h3 h4] at e
  have e2 : a = b := by omega
  subst e2
  exact ⟨Nat.eq_of_mul_eq_mul_right (Nat.two_pow_pos a) h, rfl⟩
/-- THE QUOTIENT of usual floats, by their numbers of 53 digits. -/
theorem fdiv_norm {f g m1 k1 m2 k2 : Nat} (hf : Ieee.double.read f = .number (sgn f) m1 (-1074 + (k1 : Nat))) (hg : Ieee.double.read g = .number (sgn g) m2 (-1074 + (k2 : Nat)))
    (a1 : 4503599627370496 ≤ m1) (a2 : m1 < 9007199254740992) (b1 : 4503599627370496 ≤ m2) (b2 : m2 < 9007199254740992) :
    fdiv f g = wd (sgn f ^^ sgn g) (rndQ ((2 * (m1 * 2 ^ 54 / m2) + (m1 * 2 ^ 54 % m2 != 0).toNat) * 2 ^ (e1 + k1)) (k2 + 54 + 1)) := by
  have hm : m2 ≠ 0 := by omega
  rw [div_def, hf, hg]
  have hfb : Ieee.double.fractionBits + 2 = 54 := rfl
  rw [hfb]
  simp only [Ieee.Datum.quotient]
  rw [if_neg (by simpa using hm)]
  simp only [Option.map_some, canon]
  rw [Nat.shiftLeft_eq, log52 a1 a2, log52 b1 b2, show 54 + 52 - 52 = 54 from rfl]
  show Ieee.double.nearest _ _ _ = _
  rw [nearest_any _ _ (e1 + k1) (k2 + 54 + 1) _ (by rw [e1_eq]; omega), word_eq]
theorem num54 {m1 m2 : Nat} (s : Bool) (a1 : 4503599627370496 ≤ m1) (b1 : 4503599627370496 ≤ m2) (b2 : m2 < 9007199254740992) : 2 ^ 54 ≤ 2 * (m1 * 2 ^ 54 / m2) + s.toNat := by
  have : 2 ^ 53 ≤ m1 * 2 ^ 54 / m2 := by
    rw [Nat.le_div_iff_mul_le (by omega)]
    have e1 : (2 : Nat) ^ 53 = 9007199254740992 := by decide
    have e2 : (2 : Nat) ^ 54 = 18014398509481984 := by decide
    rw [e1, e2]
    omega
  have e1 : (2 : Nat) ^ 53 = 9007199254740992 := by decide
  have e2 : (2 : Nat) ^ 54 = 18014398509481984 := by decide
  omega
/-- rounding of what is not small: shifted by a power of two. -/
theorem rndQ_shift {N A D B E : Nat} (hN : N ≠ 0) (h1 : 52 + D ≤ N.log2 + A) (h2 : 52 + E ≤ N.log2 + B) (f1 : rndQ (N * 2 ^ A) D < 9218868437227405312) (f2 : rndQ (N * 2 ^ B) E < 9218868437227405312) :
    ∃ R, 4503599627370496 ≤ R ∧ rndQ (N * 2 ^ A) D = (N.log2 + A - 52 - D) * 4503599627370496 + R ∧ rndQ (N * 2 ^ B) E = (N.log2 + B - 52 - E) * 4503599627370496 + R := by
  have form : ∀ {A D : Nat}, 52 + D ≤ N.log2 + A → rndQ (N * 2 ^ A) D < 9218868437227405312 → rndQ (N * 2 ^ A) D = (N.log2 + A - 52 - D) * 4503599627370496 + rne (N * 2 ^ A) (2 ^ (N.log2 + A - 52)) := by
    intro A D h f
    unfold rndQ at f ⊢
    have hz : N * 2 ^ A ≠ 0 := Nat.mul_ne_zero hN (Nat.ne_of_gt (Nat.two_pow_pos A))
    rw [if_neg hz, log2_mul N A hN] at f ⊢
    rw [show D + (N.log2 + A - 52 - D) = N.log2 + A - 52 by omega] at f ⊢
    omega
  have eq : ∀ {A B : Nat}, 52 ≤ N.log2 + A → A ≤ B → rne (N * 2 ^ B) (2 ^ (N.log2 + B - 52)) = rne (N * 2 ^ A) (2 ^ (N.log2 + A - 52)) := by
    intro A B h hab
    have e1 : N * 2 ^ B = N * 2 ^ A * 2 ^ (B - A) := by rw [Nat.mul_assoc, ← Nat.pow_add, show A + (B - A) = B by omega]
    have e2 : 2 ^ (N.log2 + B - 52) = 2 ^ (N.log2 + A - 52) * 2 ^ (B - A) := by rw [← Nat.pow_add, show N.log2 + A - 52 + (B - A) = N.log2 + B - 52 by omega]
    rw [e1, e2, rne_scale _ _ _ (Nat.two_pow_pos _)]
  refine ⟨rne (N * 2 ^ A) (2 ^ (N.log2 + A - 52)), ?_, form h1 f1, ?_⟩
  · refine le_rne_of (Nat.two_pow_pos _) ?_
    have e3 : (4503599627370496 : Nat) = 2 ^ 52 := by decide
    rw [e3, ← Nat.pow_add, show 52 + (N.log2 + A - 52) = N.log2 + A by omega, Nat.pow_add]
    exact Nat.mul_le_mul_right _ (Nat.log2_self_le hN)
  · rw [form h2 f2]
    rcases Nat.le_total A B with h | h
    · rw [eq (by omega) h]
    · rw [eq (A := B) (B := A) (by omega) h]
theorem mval_stepE {R E : Nat} (hR : 4503599627370496 ≤ R) : mval (E * 4503599627370496 + R) = mval R * 2 ^ E := by
  unfold mval
  rw [if_neg (by omega), if_neg (by omega), Nat.mul_assoc, ← Nat.pow_add]
  congr 2
  · omega
  · omega
theorem V.usual {f : Nat} {a : Rat} (hf : V f a) (h : pw (-1000) ≤ ab a) : 4503599627370496 ≤ rung f := by
  rcases Nat.lt_or_ge (rung f) 4503599627370496 with k | k
  · exfalso
    have m := mval_small (Nat.le_of_lt k)
    rw [hf.size, m, le_div UQ_pos] at h
    have c : pw (-1000) * (U : Rat) = ((2 ^ 74 : Nat) : Rat) := by decide +kernel
    rw [c] at h
    have h2 : 2 ^ 74 ≤ rung f := by exact_mod_cast h
    omega
  · exact k
theorem nat_of_size {m n : Nat} {i : Int} {p q : Nat} (hi : i = (p : Int) - (q : Int)) (h : (m : Rat) / (U : Rat) = (n : Rat) / (U : Rat) * pw i) : m * 2 ^ q = n * 2 ^ p := by
  have x1 := div_self_mul (m : Rat) UQ_ne
  have x2 := div_self_mul (n : Rat) UQ_ne
  have e : pw i * ((2 ^ q : Nat) : Rat) = ((2 ^ p : Nat) : Rat) := by
    rw [← pw_nat, ← pw_nat, ← pw_add, show i + (q : Int) = (p : Int) by omega]
  rw [h] at x1
  have e2 : (m : Rat) * ((2 ^ q : Nat) : Rat) = (n : Rat) * ((2 ^ p : Nat) : Rat) := by
    rw [← x1, ← e]
    generalize (n : Rat) / (U : Rat) = z at *
    grind
  rw [← cast_mul, ← cast_mul] at e2
  exact_mod_cast e2
theorem place_gap {m1 k1 m2 k2 : Nat} {a b : Rat} (ha : ab a = ((m1 * 2 ^ k1 : Nat) : Rat) / (U : Rat)) (hb : ab b = ((m2 * 2 ^ k2 : Nat) : Rat) / (U : Rat)) (a2 : m1 < 9007199254740992) (b1 : 4503599627370496 ≤ m2)
    (h : pw (-1000) * ab b ≤ ab a) : k2 ≤ k1 + 1000 := by
  have hU := UQ_pos
  have x1 := div_self_mul ((m1 * 2 ^ k1 : Nat) : Rat) UQ_ne
  have x2 := div_self_mul ((m2 * 2 ^ k2 : Nat) : Rat) UQ_ne
  rw [← ha] at x1
  rw [← hb] at x2
  have e := pw_negnat 1000
  have e0 : (-((1000 : Nat) : Int)) = -1000 := by decide
  rw [e0] at e
  obtain ⟨c, hc⟩ : ∃ c : Nat, c = 1000 := ⟨_, rfl⟩
  rw [← hc] at e
  have h2 := Rat.mul_le_mul_of_nonneg_right (Rat.mul_le_mul_of_nonneg_right h (Rat.le_of_lt hU)) (Rat.le_of_lt (pow_posQ c))
  have e3 : pw (-1000) * ab b * (U : Rat) * ((2 ^ c : Nat) : Rat) = ((m2 * 2 ^ k2 : Nat) : Rat) := by
    rw [← x2]
    generalize pw (-1000) = u at *
    generalize ((2 ^ c : Nat) : Rat) = v at *
    grind
  have e4 : ab a * (U : Rat) * ((2 ^ c : Nat) : Rat) = ((m1 * 2 ^ k1 * 2 ^ c : Nat) : Rat) := by rw [x1, ← cast_mul]
  rw [e3, e4] at h2
  have h3 := cast_le.1 h2
  rcases Nat.lt_or_ge (k1 + c) k2 with k | k
  · exfalso
    have e5 : m1 * 2 ^ k1 * 2 ^ c = m1 * 2 ^ (k1 + c) := by rw [Nat.mul_assoc, ← Nat.pow_add]
    have e6 : m2 * 2 ^ k2 = m2 * 2 ^ (k2 - (k1 + c)) * 2 ^ (k1 + c) := by rw [Nat.mul_assoc, ← Nat.pow_add, show k2 - (k1 + c) + (k1 + c) = k2 by omega]
    rw [e5, e6] at h3
    have h4 := Nat.le_of_mul_le_mul_right h3 (Nat.two_pow_pos (k1 + c))
    have h5 : 2 ^ 1 ≤ 2 ^ (k2 - (k1 + c)) := Nat.pow_le_pow_right (by decide) (by omega)
    have h6 := Nat.mul_le_mul b1 h5
    omega
  · omega
/-- A QUOTIENT OF SCALED FLOATS is the scaled quotient. -/
theorem fdiv_shift {f g f' g' : Nat} {a b : Rat} {i j : Int} (hf : V f a) (hg : V g b) (hf' : V f' (a * pw i)) (hg' : V g' (b * pw j)) (sf : sgn f' = sgn f) (sg : sgn g' = sgn g)
    (na : pw (-1000) ≤ ab a) (nb : pw (-1000) ≤ ab b) (na' : pw (-1000) ≤ ab (a * pw i)) (nb' : pw (-1000) ≤ ab (b * pw j))
    (q1 : pw (-1000) * ab b ≤ ab a) (q2 : ab a ≤ pw 1000 * ab b) (q1' : pw (-1000) * ab (b * pw j) ≤ ab (a * pw i)) (q2' : ab (a * pw i) ≤ pw 1000 * ab (b * pw j)) :
    ∃ c, V (fdiv f g) c ∧ V (fdiv f' g') (c * pw (i - j)) ∧ sgn (fdiv f' g') = sgn (fdiv f g) := by
  have p0 := pw_pos (-1000)
  have fin2 : ∀ {x y : Rat}, 0 < ab y → ab x ≤ pw 1000 * ab y → 2 * ab (x / y) ≤ BG := by
    intro x y hy h
    have : ab x / ab y ≤ pw 1000 := by rw [div_le hy]; exact h
    rw [ab_div]
    have hB : 2 * pw 1000 ≤ BG := by
      have e : BG = pw (kBG : Int) := by rw [pw_nat]; rfl
      have e2 : 2 * pw 1000 = pw 1001 := by rw [← pw_one, ← pw_add]; rfl
      rw [e, e2]
      exact pw_mono (by rw [kBG_eq]; decide)
    grind
  have yb : 0 < ab b := by grind
  have yb' : 0 < ab (b * pw j) := by grind
  obtain ⟨c, hc, _⟩ := hf.div hg (by intro e; rw [e, show ab (0 : Rat) = 0 by decide +kernel] at yb; exact absurd yb (by decide +kernel)) (fin2 yb q2)
  obtain ⟨c', hc', _⟩ := hf'.div hg' (by intro e; rw [e, show ab (0 : Rat) = 0 by decide +kernel] at yb'; exact absurd yb' (by decide +kernel)) (fin2 yb' q2')
  obtain ⟨m1, k1, r1, v1, a1, a2, _⟩ := norm_read (hf.usual na) (fin_rung hf.fin)
  obtain ⟨m2, k2, r2, v2, b1, b2, _⟩ := norm_read (hg.usual nb) (fin_rung hg.fin)
  obtain ⟨m3, k3, r3, v3, a3, a4, _⟩ := norm_read (hf'.usual na') (fin_rung hf'.fin)
  obtain ⟨m4, k4, r4, v4, b3, b4, _⟩ := norm_read (hg'.usual nb') (fin_rung hg'.fin)
  have z1 := hf.size
  have z2 := hg.size
  have z3 := hf'.size
  have z4 := hg'.size
  rw [v1] at z1
  rw [v2] at z2
  rw [v3] at z3
  rw [v4] at z4
  have gap := place_gap z1 z2 a2 b1 q1
  have gap' := place_gap z3 z4 a4 b3 q1'
  rw [ab_mul, ab_pos (Rat.le_of_lt (pw_pos i)), z1] at z3
  rw [ab_mul, ab_pos (Rat.le_of_lt (pw_pos j)), z2] at z4
  obtain ⟨p, q, hi⟩ := int_sub i
  obtain ⟨s, t, hj⟩ := int_sub j
  have n1 := nat_of_size hi z3.symm
  have n2 := nat_of_size hj z4.symm
  rw [Nat.mul_assoc, Nat.mul_assoc, ← Nat.pow_add, ← Nat.pow_add] at n1 n2
  obtain ⟨rfl, w1⟩ := same_parts a3 a4 a1 a2 n1
  obtain ⟨rfl, w2⟩ := same_parts b3 b4 b1 b2 n2
  have d1 := fdiv_norm r1 r2 a1 a2 b1 b2
  have d2 := fdiv_norm r3 r4 a1 a2 b1 b2
  have hN := num54 (m3 * 2 ^ 54 % m4 != 0) a1 b1 b2
  generalize 2 * (m3 * 2 ^ 54 / m4) + (m3 * 2 ^ 54 % m4 != 0).toNat = N at *
  have e54 : (2 : Nat) ^ 54 = 18014398509481984 := by decide
  have hN0 : N ≠ 0 := by omega
  have hL := (Nat.le_log2 hN0 (k := 54)).2 hN
  have he : e1 = 1074 := rfl
  rw [d1] at hc ⊢
  rw [d2] at hc' ⊢
  have l1 := rndQ_le (N * 2 ^ (e1 + k1)) (k2 + 54 + 1)
  have l2 := rndQ_le (N * 2 ^ (e1 + k3)) (k4 + 54 + 1)
  have f1 := fin_rung hc.fin
  have f2 := fin_rung hc'.fin
  rw [wd_rung l1] at f1
  rw [wd_rung l2] at f2
  obtain ⟨R, hR, s1, s2⟩ := rndQ_shift hN0 (by omega) (by omega) f1 f2
  refine ⟨c, hc, ?_, by rw [wd_sgn l1, wd_sgn l2, sf, sg]⟩
  have o1 := hc.form
  have o2 := hc'.form
  rw [wd_rung l1, wd_sgn l1, s1, mval_stepE hR] at o1
  rw [wd_rung l2, wd_sgn l2, s2, mval_stepE hR, sf, sg] at o2
  have ex : c' = c * pw (i - j) := by
    rw [o1, o2, cast_mul, cast_mul, ← pw_nat, ← pw_nat]
    generalize hE : N.log2 + (e1 + k1) - 52 - (k2 + 54 + 1) = E
    generalize hF : N.log2 + (e1 + k3) - 52 - (k4 + 54 + 1) = F
    have e : pw (F : Int) = pw (E : Int) * pw (i - j) := by
      rw [← pw_add, show (E : Int) + (i - j) = (F : Int) by omega]
    rw [e]
    cases (sgn f ^^ sgn g) <;> simp only [sq] <;> grind
  rw [← ex]
  exact hc'
end Go.Proofs.Ytcfkhhnkboealaa
