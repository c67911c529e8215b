/- The program's logarithm of one and x where x is tiny; other ways of the law. No text of the program. -/
import Derived.Test.YtcfkhhnkboealaaDoorLh
namespace Go.Proofs.YtcfkhhnkboealaaDoor
open Go.RowKit
set_option linter.unusedVariables false
set_option linter.unusedSimpArgs false
set_option maxRecDepth 100000
set_option maxHeartbeats 4000000
open Turns Sizes
theorem beside_two : mval 4611686018427387903 * 4503599627370496 = 9007199254740991 * U ∧ mval 4611686018427387905 * 2251799813685248 = 4503599627370497 * U ∧ mval 4611686018427387904 = 2 * U := by decide +kernel
theorem aux2_up {u y m : Nat} (b : y * 2251799813685248 = 4503599627370497 * u) (h : 36028797018963968 * m ≤ 72057594037927936 * u + u) : m ≤ y := by omega
theorem aux2_lo {u z m : Nat} (b : z * 4503599627370496 = 9007199254740991 * u) (h : 72057594037927936 * u ≤ 36028797018963968 * m + u) : z ≤ m := by omega
theorem aux2_k1 {u z m : Nat} (b : z * 4503599627370496 = 9007199254740991 * u) (h : 72057594037927936 * u ≤ 36028797018963968 * m + u) (hu : 0 < u) (k : 2 * m ≤ z + 2 * u) : False := by omega
theorem aux2_k2 {u y m : Nat} (b : y * 2251799813685248 = 4503599627370497 * u) (h : 36028797018963968 * m ≤ 72057594037927936 * u + u) (hu : 0 < u) (k : 2 * u + y ≤ 2 * m) : False := by omega
theorem three2 {r : Nat} (h1 : r ≤ 4611686018427387905) (h2 : 4611686018427387903 ≤ r) (h3 : r ≠ 4611686018427387903) (h4 : r ≠ 4611686018427387905) : r = 4611686018427387904 := by omega
theorem rnd_two {m : Nat} (h1 : 72057594037927936 * U ≤ 36028797018963968 * m + U) (h2 : 36028797018963968 * m ≤ 72057594037927936 * U + U) (hU : 0 < U) : rndN m = 4611686018427387904 := by
  refine three2 (rndN_le_of (by decide) (aux2_up beside_two.2.1 h2)) (le_rndN_of (by decide) (aux2_lo beside_two.1 h1)) (fun e => ?_) (fun e => ?_)
  · have k := rnd_below (m := m) (d := 0) e (by decide)
    rw [show 4611686018427387903 + 1 = 4611686018427387904 from rfl, beside_two.2.2, Nat.pow_zero, Nat.mul_one] at k
    exact aux2_k1 beside_two.1 h1 hU k
  · have k := rnd_above (m := m) (d := 0) e (by decide) (by decide)
    rw [show 4611686018427387905 - 1 = 4611686018427387904 from rfl, beside_two.2.2, Nat.pow_zero, Nat.mul_one] at k
    exact aux2_k2 beside_two.2.1 h2 hU k
theorem aux2_m {s : Int} {u : Nat} (h1 : 36028797018963968 * s ≤ (u : Int)) (h2 : -(u : Int) ≤ 36028797018963968 * s) (hu : 0 < u) : 72057594037927936 * u ≤ 36028797018963968 * (((2 * u : Nat) : Int) + s).natAbs + u ∧ 36028797018963968 * (((2 * u : Nat) : Int) + s).natAbs ≤ 72057594037927936 * u + u ∧ ¬ (((2 * u : Nat) : Int) + s = 0) ∧ ¬ (((2 * u : Nat) : Int) + s < 0) := by omega
theorem two_add {g : Nat} {y : Rat} (hg : V g y) (hy : ab y ≤ 1 / 36028797018963968) : fadd 4611686018427387904 g = 4611686018427387904 := by
  obtain ⟨b1, b2, _, _, b5, _⟩ := word_facts (show 4611686018427387904 < 9218868437227405312 by decide)
  rw [beside_two.2.2] at b5
  have hU := UQ_pos
  have hv := hg.val
  unfold qv at hv
  have h := div_self_mul (sval g : Rat) UQ_ne
  rw [hv] at h
  obtain ⟨y1, y2⟩ := ab_le.1 hy
  have z1 := Rat.mul_le_mul_of_nonneg_right y1 (Rat.le_of_lt hU)
  have z2 := Rat.mul_le_mul_of_nonneg_right y2 (Rat.le_of_lt hU)
  rw [h] at z1 z2
  have hu : 0 < U := U_pos
  have c1 : (((36028797018963968 * sval g : Int)) : Rat) ≤ (((U : Nat) : Int) : Rat) := by
    rw [Rat.intCast_mul, Rat.intCast_natCast]
    have e : ((36028797018963968 : Int) : Rat) = 36028797018963968 := by decide +kernel
    rw [e]
    generalize (U : Rat) = u at *
    grind
  have c2 : (((-((U : Nat) : Int)) : Int) : Rat) ≤ ((36028797018963968 * sval g : Int) : Rat) := by
    rw [Rat.intCast_mul, Rat.intCast_neg, Rat.intCast_natCast]
    have e : ((36028797018963968 : Int) : Rat) = 36028797018963968 := by decide +kernel
    rw [e]
    generalize (U : Rat) = u at *
    grind
  obtain ⟨m1, m2, m3, m4⟩ := aux2_m (cast_le'.1 c1) (cast_le'.1 c2) hu
  rw [fadd_fin b1 hg.fin, b5, if_neg m3, decide_eq_false m4, rnd_two m1 m2 hu]
  exact wd_false' _
theorem read_two : Ieee.double.read 4611686018427387904 = .number false 4503599627370496 (-1074 + ((1023 : Nat) : Int)) := by decide +kernel
/-- halves. -/
theorem halve_word {f : Nat} (hf : Proofs.YtcfkhhnkboealaaDoor.fin f = true) : ∃ q, fdiv f 4611686018427387904 = wd (sgn f) q ∧ q < 9218868437227405312 ∧ (9007199254740992 ≤ rung f → 2 * mval q = mval (rung f)) ∧ (rung f < 9007199254740992 → 2 * mval q ≤ mval (rung f) + 1 ∧ mval (rung f) ≤ 2 * mval q + 1) := by
  obtain ⟨m1, k1, hr1, hm1, hb1, hk1⟩ := read_number (fin_rung hf)
  have hl1 : m1.log2 ≤ 52 := by
    by_cases h : m1 = 0
    · subst h; decide
    · have := (Nat.log2_lt h (k := 53)).2 (by omega); omega
  obtain ⟨s, hs⟩ : ∃ s, 54 + (4503599627370496 : Nat).log2 - m1.log2 = s + 52 := ⟨54 - m1.log2, by rw [show (4503599627370496 : Nat).log2 = 52 by decide]; omega⟩
  obtain ⟨E, hE⟩ : ∃ E, E = s + 1075 := ⟨_, rfl⟩
  have hdef : fdiv f 4611686018427387904 = wd (sgn f) (rndQ (mval (rung f) * 2 ^ E) (E + 1)) := by
    rw [div_def, hr1, read_two]
    have hfb : Ieee.double.fractionBits + 2 = 54 := rfl
    rw [hfb]
    simp only [Ieee.Datum.quotient]
    rw [if_neg (by decide)]
    simp only [Option.map_some, canon]
    rw [hs, Nat.shiftLeft_eq]
    have hd : m1 * 2 ^ (s + 52) = m1 * 2 ^ s * 4503599627370496 := by rw [Nat.pow_add, Nat.mul_assoc]
    rw [hd, Nat.mul_div_cancel _ (by decide), Nat.mul_mod_left]
    show Ieee.double.nearest _ _ _ = _
    rw [nearest_any _ _ (e1 + k1) (1023 + (s + 52) + 1) _ (by rw [e1_eq]; omega), word_eq]
    have e : (2 * (m1 * 2 ^ s) + (0 != 0).toNat) * 2 ^ (e1 + k1) = mval (rung f) * 2 ^ E := by
      have h0 : (0 != 0).toNat = 0 := by decide
      rw [h0, Nat.add_zero, e1_eq, hm1, hE]
      obtain ⟨q, hq⟩ : ∃ q, q = 1074 := ⟨_, rfl⟩
      rw [← hq, show s + 1075 = s + q + 1 by omega, Nat.pow_add 2 q k1, Nat.pow_add 2 (s + q) 1, Nat.pow_add 2 s q]
      generalize 2 ^ q = X
      generalize 2 ^ s = Y
      generalize 2 ^ k1 = Z
      rw [Nat.pow_one]
      simp [Nat.mul_comm, Nat.mul_left_comm, Nat.mul_assoc]
    rw [e, show 1023 + (s + 52) + 1 = E + 1 by omega]
    have : (sgn f ^^ false) = sgn f := Bool.xor_false _
    rw [this]
  have hfr := fin_rung hf
  have cancel : ∀ b', b' < 9218868437227405312 → rndQ (2 * mval b' * 2 ^ E) (E + 1) = b' := by
    intro b' hb'
    rw [show 2 * mval b' * 2 ^ E = mval b' * 2 ^ (E + 1) by rw [Nat.pow_succ, Nat.mul_comm 2, Nat.mul_assoc, Nat.mul_comm 2], rndQ_cancel, rnd_mval hb']
  rcases Nat.lt_or_ge (rung f) 9007199254740992 with q | q
  · have hmv : mval (rung f) = rung f := by
      unfold mval
      split
      · rfl
      · rw [show rung f / 4503599627370496 - 1 = 0 by omega]; omega
    have small : ∀ n, n ≤ 4503599627370496 → mval n = n := by
      intro n hn
      unfold mval
      split
      · rfl
      · rw [show n / 4503599627370496 - 1 = 0 by omega]; omega
    obtain ⟨n, hn⟩ : ∃ n, n = rung f / 2 := ⟨_, rfl⟩
    have c1 := cancel n (by omega)
    have c2 := cancel (n + 1) (by omega)
    rw [small n (by omega)] at c1
    rw [small (n + 1) (by omega)] at c2
    have m1 : rndQ (2 * n * 2 ^ E) (E + 1) ≤ rndQ (mval (rung f) * 2 ^ E) (E + 1) := rndQ_mono (Nat.mul_le_mul_right _ (by omega))
    have m2 : rndQ (mval (rung f) * 2 ^ E) (E + 1) ≤ rndQ (2 * (n + 1) * 2 ^ E) (E + 1) := rndQ_mono (Nat.mul_le_mul_right _ (by omega))
    have m3 : rung f = 2 * n → rndQ (mval (rung f) * 2 ^ E) (E + 1) = n := by intro h; rw [hmv, h]; exact c1
    rw [c1] at m1
    rw [c2] at m2
    generalize rndQ (mval (rung f) * 2 ^ E) (E + 1) = Q at *
    refine ⟨_, hdef, by omega, fun h => by omega, fun _ => ?_⟩
    rw [small Q (by omega), hmv]
    by_cases h : rung f = 2 * n
    · have := m3 h
      omega
    · omega
  · obtain ⟨b', hb1', hb2'⟩ : ∃ b', b' < 9218868437227405312 ∧ mval (rung f) = 2 * mval b' := by
      refine ⟨rung f - 4503599627370496, by omega, ?_⟩
      obtain ⟨L, hL⟩ : ∃ L, rung f / 4503599627370496 = L + 2 := ⟨rung f / 4503599627370496 - 2, by omega⟩
      have hL2 : (rung f - 4503599627370496) / 4503599627370496 = L + 1 := by omega
      unfold mval
      rw [if_neg (by omega), if_neg (by omega), hL, hL2, show (rung f - 4503599627370496) % 4503599627370496 = rung f % 4503599627370496 by omega, show L + 2 - 1 = (L + 1 - 1) + 1 by omega, Nat.pow_succ]
      generalize 2 ^ (L + 1 - 1) = X
      rw [← Nat.mul_assoc, Nat.mul_comm]
    have c1 := cancel b' hb1'
    rw [← hb2'] at c1
    exact ⟨b', by rw [hdef, c1], hb1', fun _ => hb2'.symm, fun h => by omega⟩
theorem V.add_zero {f g : Nat} {a b : Rat} (hf : V f a) (hg : V g b) (h0 : rung g = 0) (h : ab a ≤ 1000000) : V (fadd f g) a := by
  have hr := fin_rung hf.fin
  have hB := BG_big
  have z0 : sval g = 0 := by
    rcases sval_cases g with ⟨_, b⟩ | ⟨_, b⟩ <;> rw [b, h0, mval_zero] <;> rfl
  have b0 : b = 0 := by
    have := hg.size
    rw [h0, mval_zero] at this
    have e : ((0 : Nat) : Rat) / (U : Rat) = 0 := by
      have a := div_self_mul ((0 : Nat) : Rat) UQ_ne
      have := UQ_ne
      have e0 : ((0 : Nat) : Rat) = 0 := rfl
      rw [e0] at a ⊢
      grind
    rw [e] at this
    have := ab_of b
    grind
  have hna : (sval f + sval g).natAbs = mval (rung f) := by
    rw [z0, Int.add_zero]
    rcases sval_cases f with ⟨_, b⟩ | ⟨_, b⟩ <;> rw [b] <;> simp
  obtain ⟨f1, f2⟩ := fadd_exact hf.fin hg.fin (by rw [hna, rnd_mval hr]; exact ⟨hr, rfl⟩)
  obtain ⟨c, hc, _⟩ := hf.add hg (by rw [b0, show a + 0 = a by grind]; grind)
  have e : c = a := by
    rw [← hc.val, ← hf.val]
    unfold qv
    rw [f2, z0, Int.add_zero]
  rwa [e] at hc
theorem et_U2 : 2 * et * (U : Rat) = 1 := by
  unfold et
  have := UQ_ne
  grind
theorem rung_none {g : Nat} {b : Rat} (hg : V g b) (h : ab b < 2 * et) : rung g = 0 := by
  rcases Nat.eq_zero_or_pos (rung g) with q | q
  · exact q
  · exfalso
    have h1 := hg.size
    have h2 := cast_le.2 (show 1 ≤ mval (rung g) from mval_pos q)
    have e1 : ((1 : Nat) : Rat) = 1 := rfl
    have h3 := div_self_mul (mval (rung g) : Rat) UQ_ne
    have hU := UQ_pos
    have h4 := et_U2
    rw [← h1] at h3
    have := Rat.mul_lt_mul_of_pos_right h hU
    grind
theorem gap_two_et {r : Nat} : 2 * et ≤ gapq r ∧ (9007199254740992 ≤ r → 4 * et ≤ gapq r) := by
  have h4 := et_U2
  have hU := UQ_pos
  have e : ∀ k : Rat, ∀ n : Nat, k ≤ (n : Rat) → n ≤ 2 ^ (r / 4503599627370496 - 1) → 2 * et * k ≤ gapq r := by
    intro k n h1 h2
    rw [gap_eq, le_div hU]
    have h3 := cast_le.2 h2
    have e : 2 * et * k * (U : Rat) = k := by
      rw [show 2 * et * k * (U : Rat) = 2 * et * (U : Rat) * k by grind, h4, Rat.one_mul]
    rw [e]
    exact Rat.le_trans h1 h3
  constructor
  · have := e 1 1 (by decide +kernel) (Nat.one_le_two_pow)
    grind
  · intro h
    have h5 : 2 ^ 1 ≤ 2 ^ (r / 4503599627370496 - 1) := Nat.pow_le_pow_right (by decide) (by omega)
    have := e 2 2 (by decide +kernel) h5
    grind
theorem more_tiny {f : Nat} {a : Rat} (hf : V f a) (ha : ab a ≤ pw (-200)) : ∃ m, V (moreF f) m ∧ ab (m - a) ≤ 3 / 2 * gapq (rung f) := by
  have huu : 0 < uu ∧ uu ≤ 1 / 100000000 := by decide +kernel
  have hB := BG_big
  have p2 := pw_pos (-200)
  have p2s : pw (-200) ≤ 1 / 1000000 := by decide +kernel
  have hmf : moreF f = oddF (fdiv f (fadd 4611686018427387904 f)) := by
    unfold moreF
    by_cases hc : (fle 13821547256400052224 f && fle f 4600427019358961664) = true
    · rw [hc, if_pos rfl]
    · exfalso
      have := ab_le.1 ha
      rcases more_out hf hc with q | q <;> grind
  obtain ⟨q, q1, q2, q3, q4⟩ := halve_word hf.fin
  rw [hmf, two_add hf (Rat.le_trans ha (by decide +kernel)), q1]
  have hg := V.word (s := sgn f) q2
  have hform := hf.form
  have heU := et_U2
  have hU := UQ_pos
  have het0 := et_pos
  obtain ⟨v, hv⟩ : ∃ v, v = sq (sgn f) ((mval q : Rat) / (U : Rat)) := ⟨_, rfl⟩
  rw [← hv] at hg
  have near : ab (2 * v - a) ≤ 2 * et ∧ (9007199254740992 ≤ rung f → 2 * v = a) := by
    have x1 := div_self_mul (mval q : Rat) UQ_ne
    have x2 := div_self_mul (mval (rung f) : Rat) UQ_ne
    generalize (mval q : Rat) / (U : Rat) = X at *
    generalize hY : (mval (rung f) : Rat) / (U : Rat) = Y at *
    have key : ab (2 * X - Y) ≤ 2 * et ∧ (9007199254740992 ≤ rung f → 2 * X = Y) := by
      constructor
      · have bound : ab (2 * (mval q : Rat) - (mval (rung f) : Rat)) ≤ 1 := by
          rcases Nat.lt_or_ge (rung f) 9007199254740992 with c | c
          · obtain ⟨d1, d2⟩ := q4 c
            have d1' := cast_le.2 d1
            have d2' := cast_le.2 d2
            have e1 : ((2 * mval q : Nat) : Rat) = 2 * (mval q : Rat) := by rw [cast_mul]; rfl
            have e2 : ((mval (rung f) + 1 : Nat) : Rat) = (mval (rung f) : Rat) + 1 := by grind
            have e3 : ((2 * mval q + 1 : Nat) : Rat) = 2 * (mval q : Rat) + 1 := by grind
            rw [e1, e2] at d1'
            rw [e3] at d2'
            rw [ab_le]; constructor <;> grind
          · have d := q3 c
            have e1 : ((2 * mval q : Nat) : Rat) = 2 * (mval q : Rat) := by rw [cast_mul]; rfl
            have : (mval (rung f) : Rat) = 2 * (mval q : Rat) := by rw [← d, e1]
            rw [this, show 2 * (mval q : Rat) - 2 * (mval q : Rat) = 0 by grind]
            decide +kernel
        have e : (2 * X - Y) * (U : Rat) = 2 * (mval q : Rat) - (mval (rung f) : Rat) := by grind
        have e2 : ab (2 * X - Y) * (U : Rat) ≤ 1 := by rw [← e, ab_mul, ab_pos (Rat.le_of_lt hU)] at bound; exact bound
        rw [← heU] at e2
        exact Rat.le_of_mul_le_mul_right e2 hU
      · intro c
        have d := q3 c
        have e1 : ((2 * mval q : Nat) : Rat) = 2 * (mval q : Rat) := by rw [cast_mul]; rfl
        have : (mval (rung f) : Rat) = 2 * (mval q : Rat) := by rw [← d, e1]
        have : (2 * X - Y) * (U : Rat) = 0 := by grind
        have := UQ_ne
        grind
    rw [hv, hform]
    cases sgn f
    · exact key
    · constructor
      · show ab (2 * -X - -Y) ≤ _
        rw [show 2 * -X - -Y = -(2 * X - Y) by grind, ab_neg]; exact key.1
      · intro c
        show 2 * -X = -Y
        rw [← key.2 c]; grind
  have etp : et ≤ pw (-1000) := et_1000
  have p1000 : pw (-1000) ≤ 1 / 1000000 * pw (-400) ∧ pw (-400) = pw (-200) * pw (-200) ∧ pw (-400) ≤ 1 / 1000000 * pw (-200) := by decide +kernel
  have vb : 2 * ab v ≤ 2 * pw (-200) := by
    have t := ab_tri (2 * v) a 0
    rw [show 2 * v - 0 = 2 * v by grind, show a - 0 = a by grind, ab_mul, show ab (2 : Rat) = 2 by decide +kernel] at t
    grind
  have vn := ab_nn v
  have vv : v * v = ab v * ab v := by
    rcases (show 0 ≤ v ∨ v < 0 by grind) with c | c
    · rw [ab_pos c]
    · have : ab v = -v := by unfold ab; grind
      rw [this]; grind
  have vv0 : 0 ≤ v * v := by rw [vv]; exact Rat.mul_nonneg vn vn
  have vv1 : v * v ≤ pw (-400) := by rw [vv, p1000.2.1]; exact mul_mono vn (by grind) vn (by grind)
  have p4 := pw_pos (-400)
  obtain ⟨S, hS, r1⟩ := hg.mul hg (by rw [ab_pos vv0]; grind)
  have S0 : 0 ≤ S := by
    have hw := fmul_fin hg.fin hg.fin
    rw [Bool.xor_self, wd_false'] at hw
    have hfin := fin_rung hS.fin
    have hle := rndQ_le (mval (rung (wd (sgn f) q)) * mval (rung (wd (sgn f) q))) 1074
    have hlt : fmul (wd (sgn f) q) (wd (sgn f) q) < 9218868437227405312 := by
      rw [hw] at hfin ⊢
      rw [rung_pos hle] at hfin
      exact hfin
    exact (posV hS hlt).1
  rw [ab_pos vv0] at r1
  have k1 := Rat.mul_le_mul_of_nonneg_right huu.2 vv0
  have S1 : S ≤ 2 * pw (-400) := by
    have := (ab_le.1 r1).2
    grind
  have hz : ab (S - S) ≤ 1001 / 1000 * (uu * S) := by
    rw [show S - S = 0 by grind, show ab (0 : Rat) = 0 by decide +kernel]
    have := Rat.mul_nonneg (Rat.le_of_lt huu.1) S0
    grind
  obtain ⟨t, ht, r2⟩ := q_upto hS hz S0 (by grind) 11 (by omega)
  obtain ⟨g0, g1⟩ := hq_size S0 (show S ≤ 296 / 10000 by grind) 11 (by omega)
  generalize hq S 11 = g at *
  have tb : ab t ≤ 1 := by
    have := ab_le.1 r2
    rw [ab_le]; constructor <;> grind
  have St : ab (S * t) ≤ 2 * pw (-400) := by
    rw [ab_mul, ab_pos S0]
    have := mul_mono S0 S1 (ab_nn t) tb
    grind
  obtain ⟨T, hT, r3⟩ := hS.mul ht (by grind)
  have Tb : ab T ≤ 3 * pw (-400) := by
    have x := ab_tri T (S * t) 0
    rw [show T - 0 = T by grind, show S * t - 0 = S * t by grind] at x
    have k := Rat.mul_le_mul_of_nonneg_right huu.2 (ab_nn (S * t))
    grind
  have hA := hg.twice (by grind)
  have a2 : ab (2 * v) = 2 * ab v := by rw [ab_mul, show ab (2 : Rat) = 2 by decide +kernel]
  have AT1 : ab (2 * v * T) ≤ 2 * ab v * (3 * pw (-400)) := by
    rw [ab_mul, a2]
    exact Rat.mul_le_mul_of_nonneg_left Tb (by grind)
  have AT2 : 2 * ab v * (3 * pw (-400)) ≤ 1 / 100000 * (2 * ab v) := by
    have := Rat.mul_le_mul_of_nonneg_left (show 3 * pw (-400) ≤ 1 / 100000 by grind) (show 0 ≤ 2 * ab v by grind)
    grind
  obtain ⟨M, hM, r4⟩ := hA.mul hT (by grind)
  obtain ⟨ge, ge2⟩ := gap_two_et (r := rung f)
  have Mb : ab M ≤ 2 * ab v * (4 * pw (-400)) + et := by
    have x := ab_tri M (2 * v * T) 0
    rw [show M - 0 = M by grind, show 2 * v * T - 0 = 2 * v * T by grind] at x
    have k := Rat.mul_le_mul_of_nonneg_right huu.2 (ab_nn (2 * v * T))
    have k2 := Rat.mul_nonneg (show 0 ≤ 2 * ab v by grind) (Rat.le_of_lt p4)
    grind
  rcases Nat.lt_or_ge (rung f) 9007199254740992 with c | c
  · have af : ab a ≤ 9007199254740992 * (2 * et) := by
      have hmv : mval (rung f) ≤ 9007199254740992 := by
        have h1 := mval_le_iff.2 (Nat.le_of_lt c)
        have h2 : mval 9007199254740992 = 9007199254740992 := by decide +kernel
        omega
      have h3 := cast_le.2 hmv
      have e9 : ((9007199254740992 : Nat) : Rat) = 9007199254740992 := by decide +kernel
      rw [hf.size, div_le hU]
      grind
    have M0 : rung (fmul (fmul 4611686018427387904 (wd (sgn f) q)) (fmul (fmul (wd (sgn f) q) (wd (sgn f) q)) (qSeq (fmul (wd (sgn f) q) (wd (sgn f) q)) 11))) = 0 := by
      refine rung_none hM ?_
      have v2 : 2 * ab v ≤ 9007199254740993 * (2 * et) := by
        have x := ab_tri (2 * v) a 0
        rw [show 2 * v - 0 = 2 * v by grind, show a - 0 = a by grind, a2] at x
        have := near.1
        grind
      have p5 : 4 * pw (-400) ≤ 1 / 90071992547409930000 := by decide +kernel
      have m := mul_mono (show 0 ≤ 2 * ab v by grind) v2 (show 0 ≤ 4 * pw (-400) by grind) p5
      grind
    have ho := hA.add_zero hM M0 (by grind)
    exact ⟨_, ho, by have := near.1; grind⟩
  · have hva := near.2 c
    rw [hva] at hA r4 AT1 a2
    obtain ⟨o, ho, r5⟩ := hA.add hM (by
      have x := ab_add a M
      grind)
    refine ⟨o, ho, ?_⟩
    have x := ab_tri o (a + M) a
    rw [show a + M - a = M by grind] at x
    have y := ab_add a M
    have k := Rat.mul_le_mul_of_nonneg_left y (Rat.le_of_lt huu.1)
    have ga := (gap_any hf).1
    have g4 := ge2 c
    have k2 := Rat.mul_le_mul_of_nonneg_right huu.2 (ab_nn M)
    have p6 : 4 * pw (-400) ≤ 1 / 1000 * uu := by decide +kernel
    have m := Rat.mul_le_mul_of_nonneg_left p6 (show 0 ≤ 2 * ab v by grind)
    have m0 := Rat.mul_nonneg (Rat.le_of_lt huu.1) (ab_nn a)
    have e5 : 2 * ab v * (1 / 1000 * uu) = 1 / 1000 * (uu * ab a) := by rw [← a2]; grind
    rw [e5] at m
    have e6 : uu * (ab a + ab M) = uu * ab a + uu * ab M := by grind
    rw [e6] at k
    generalize uu * ab a = P at *
    generalize uu * ab M = P2 at *
    generalize 2 * ab v * (4 * pw (-400)) = P3 at *
    clear near AT1 AT2 r4 r3 r2 r1 Tb St vv1 vb
    grind
end Go.Proofs.YtcfkhhnkboealaaDoor
