/- The values of floats as fractions; how far a rounded float is from the true value: sums, products, quotients, roots. No text of the program. -/
import Derived.Test.YtcfkhhnkboealaaRda
import Derived.Test.YtcfkhhnkboealaaWhb
import Derived.Test.YtcfkhhnkboealaaRmz
namespace Go.Proofs.Ytcfkhhnkboealaa
set_option linter.unusedVariables false
set_option linter.unusedSimpArgs false
set_option maxRecDepth 100000
/-- a figure's rounding: within half a unit of the least, or within 2^-53 of itself. -/
theorem rnd_near {m d r : Nat} (hr : rndQ m d = r) (hf : r < 9218868437227405312) :
    (2 * m ≤ 2 * (mval r * 2 ^ d) + 2 ^ d ∧ 2 * (mval r * 2 ^ d) ≤ 2 * m + 2 ^ d) ∨
    (9007199254740992 * m ≤ 9007199254740992 * (mval r * 2 ^ d) + m ∧ 9007199254740992 * (mval r * 2 ^ d) ≤ 9007199254740992 * m + m ∧ 9007199254740992 ≤ r) := by
  by_cases hm : m = 0
  · subst hm
    unfold rndQ at hr
    rw [if_pos rfl] at hr
    subst hr
    rw [mval_zero]
    left
    have := Nat.two_pow_pos d
    omega
  · obtain ⟨L, q, h1, h2, h3, h4⟩ := rndQ_plc hm d
    have hrq : r = L * 4503599627370496 + q := by rw [hr] at h1; omega
    have h5 : L = 0 ∨ 4503599627370496 ≤ q := h4.imp id (·.1)
    have a := mval_plc h3 h5
    obtain ⟨e1, e2⟩ := rne_err m (2 ^ (d + L)) (Nat.two_pow_pos _)
    rw [← h2] at e1 e2
    rw [hrq, a, Nat.mul_assoc, Nat.mul_comm (2 ^ L), ← Nat.pow_add]
    have e3 : (2 * q + 1) * 2 ^ (d + L) = 2 * (q * 2 ^ (d + L)) + 2 ^ (d + L) := by rw [Nat.add_mul, Nat.one_mul, Nat.mul_assoc]
    rw [e3] at e1
    rcases Nat.eq_zero_or_pos L with rfl | hL
    · left; exact ⟨e1, e2⟩
    · right
      rcases h4 with h4 | ⟨h40, h4⟩
      · omega
      · have hr2 : 9007199254740992 ≤ L * 4503599627370496 + q := by omega
        generalize q * 2 ^ (d + L) = A at *
        generalize 2 ^ (d + L) = G at *
        omega
theorem stick (m A H q G : Nat) (st : Bool) (hA : 0 < A) (hG : G = 4 * (A * H)) (h1 : 2 * ((2 * m + st.toNat) * A) ≤ (2 * q + 1) * G) (h2 : 2 * (q * G) ≤ 2 * ((2 * m + st.toNat) * A) + G) :
    (4 * m + 4 * st.toNat) * A ≤ 2 * (q * G) + G ∧ 2 * (q * G) ≤ 4 * m * A + G := by
  have e1 : (2 * q + 1) * G = A * (4 * ((2 * q + 1) * H)) := by rw [hG]; grind
  have e2 : q * G = A * (4 * (q * H)) := by rw [hG]; grind
  have e3 : 2 * ((2 * m + st.toNat) * A) = A * (2 * (2 * m + st.toNat)) := by grind
  rw [e1, e3] at h1
  have h1 := Nat.le_of_mul_le_mul_left h1 hA
  rw [e2, e3, hG, show 2 * (A * (4 * (q * H))) = A * (2 * (4 * (q * H))) by grind, show A * (2 * (2 * m + st.toNat)) + 4 * (A * H) = A * (2 * (2 * m + st.toNat) + 4 * H) by grind] at h2
  have h2 := Nat.le_of_mul_le_mul_left h2 hA
  have e4 : (2 * q + 1) * H = 2 * (q * H) + H := by grind
  rw [e4] at h1
  have g1 : 4 * m + 4 * st.toNat ≤ 2 * (4 * (q * H)) + 4 * H := by cases st <;> simp only [Bool.toNat_true, Bool.toNat_false] at * <;> omega
  have g2 : 2 * (4 * (q * H)) ≤ 4 * m + 4 * H := by cases st <;> simp only [Bool.toNat_true, Bool.toNat_false] at * <;> omega
  have g1 := Nat.mul_le_mul_left A g1
  have g2 := Nat.mul_le_mul_left A g2
  rw [e2, hG]
  constructor <;> grind
theorem half_le (m A H G : Nat) (st : Bool) (hA : 0 < A) (hG : G = 4 * (A * H)) (h : 4503599627370496 * G ≤ (2 * m + st.toNat) * A) : 4503599627370496 * G ≤ 2 * m * A := by
  rw [hG, show 4503599627370496 * (4 * (A * H)) = A * (18014398509481984 * H) by grind, Nat.mul_comm _ A] at h
  have h := Nat.le_of_mul_le_mul_left h hA
  have h : 18014398509481984 * H ≤ 2 * m := by cases st <;> simp only [Bool.toNat_true, Bool.toNat_false] at * <;> omega
  have h := Nat.mul_le_mul_left A h
  rw [hG]; grind
/-- the same with a figure whose last digit tells that more follows. -/
theorem rnd_sticky {m a d r : Nat} {st : Bool} (hr : rndQ ((2 * m + st.toNat) * 2 ^ a) d = r) (hf : r < 9218868437227405312) (hm : 9007199254740992 ≤ m) :
    ((4 * m + 4 * st.toNat) * 2 ^ a ≤ 2 * (mval r * 2 ^ d) + 2 ^ d ∧ 2 * (mval r * 2 ^ d) ≤ 4 * m * 2 ^ a + 2 ^ d ∧ 4 * 2 ^ a ≤ 2 ^ d) ∨
    (9007199254740992 * ((2 * m + 2 * st.toNat) * 2 ^ a) ≤ 9007199254740992 * (mval r * 2 ^ d) + 2 * m * 2 ^ a ∧ 9007199254740992 * (mval r * 2 ^ d) ≤ 9007199254740992 * (2 * m * 2 ^ a) + 2 * m * 2 ^ a) := by
  have hn : 2 * m + st.toNat ≠ 0 := by omega
  have hA := Nat.two_pow_pos a
  have hN : (2 * m + st.toNat) * 2 ^ a ≠ 0 := Nat.mul_ne_zero hn (Nat.ne_of_gt hA)
  have hlog : 54 + a ≤ ((2 * m + st.toNat) * 2 ^ a).log2 := by
    rw [Nat.le_log2 hN, Nat.pow_add]
    exact Nat.mul_le_mul_right _ (by rw [show (2 : Nat) ^ 54 = 18014398509481984 by decide]; omega)
  have hself := Nat.log2_self_le hN
  unfold rndQ at hr
  rw [if_neg hN] at hr
  generalize hL : ((2 * m + st.toNat) * 2 ^ a).log2 - 52 - d = L at hr
  have hge : 0 < L → 4503599627370496 * 2 ^ (d + L) ≤ (2 * m + st.toNat) * 2 ^ a := by
    intro h
    refine Nat.le_trans ?_ hself
    rw [show (4503599627370496 : Nat) = 2 ^ 52 by decide, ← Nat.pow_add]
    exact Nat.pow_le_pow_right (by decide) (by omega)
  have hq : rne ((2 * m + st.toNat) * 2 ^ a) (2 ^ (d + L)) ≤ 9007199254740992 := by
    apply rne_le_of (Nat.two_pow_pos _)
    rw [show (9007199254740992 : Nat) = 2 ^ 53 by decide, ← Nat.pow_add]
    exact Nat.le_of_lt (Nat.lt_of_lt_of_le (@Nat.lt_log2_self _) (Nat.pow_le_pow_right (by decide) (by omega)))
  have hq2 : L = 0 ∨ 4503599627370496 ≤ rne ((2 * m + st.toNat) * 2 ^ a) (2 ^ (d + L)) := by
    rcases Nat.eq_zero_or_pos L with h | h
    · exact .inl h
    · exact .inr (le_rne_of (Nat.two_pow_pos _) (hge h))
  obtain ⟨e1, e2⟩ := rne_err ((2 * m + st.toNat) * 2 ^ a) (2 ^ (d + L)) (Nat.two_pow_pos _)
  generalize rne ((2 * m + st.toNat) * 2 ^ a) (2 ^ (d + L)) = q at *
  have hrq : r = L * 4503599627370496 + q := by omega
  have av := mval_plc hq hq2
  have hG : 2 ^ (d + L) = 4 * (2 ^ a * 2 ^ (d + L - a - 2)) := by
    rw [show (4 : Nat) = 2 ^ 2 by decide, ← Nat.pow_add, ← Nat.pow_add]
    congr 1; omega
  obtain ⟨s1, s2⟩ := stick m _ _ q _ st hA hG e1 e2
  rw [hrq, av, Nat.mul_assoc, Nat.mul_comm (2 ^ L), ← Nat.pow_add]
  rcases Nat.eq_zero_or_pos L with h | h
  · left
    subst h
    refine ⟨s1, s2, ?_⟩
    rw [Nat.add_zero] at hG
    rw [hG]
    exact Nat.mul_le_mul_left _ (Nat.le_mul_of_pos_right _ (Nat.two_pow_pos _))
  · right
    have s3 := half_le m _ _ _ st hA hG (hge h)
    generalize 2 ^ (d + L) = G at *
    generalize hx : q * G = X at *
    have k1 : (4 * m + 4 * st.toNat) * 2 ^ a = 2 * ((2 * m + 2 * st.toNat) * 2 ^ a) := by grind
    have k2 : 4 * m * 2 ^ a = 2 * (2 * m * 2 ^ a) := by grind
    rw [k1] at s1
    rw [k2] at s2
    generalize (2 * m + 2 * st.toNat) * 2 ^ a = P at *
    generalize 2 * m * 2 ^ a = Q at *
    omega
/-- a float's value. -/
def qv (f : Nat) : Rat := (sval f : Rat) / (U : Rat)
/-- 2^-53, and half of the least float. -/
def uu : Rat := 1 / 9007199254740992
def et : Rat := 1 / (2 * (U : Rat))
def kBG : Nat := 1023
theorem kBG_eq : kBG = 1023 := rfl
/-- up to here all is finite. -/
def BG : Rat := ((2 ^ kBG : Nat) : Rat)
structure V (f : Nat) (a : Rat) : Prop where
  lt : f < 18446744073709551616
  fin : fin f = true
  val : qv f = a
theorem icast (n : Nat) : ((n : Int) : Rat) = (n : Rat) := rfl
theorem UQ_pos : (0 : Rat) < (U : Rat) := by
  have : 0 < U := Nat.two_pow_pos _
  have h : ((0 : Nat) : Rat) < (U : Rat) := by exact_mod_cast this
  simpa using h
theorem UQ_ne : (U : Rat) ≠ 0 := by have := UQ_pos; grind
theorem et_pos : 0 < et := by
  unfold et
  have h := UQ_pos
  have : (0 : Rat) ≤ 1 / (2 * (U : Rat)) := (le_div (by grind)).2 (by grind)
  grind
theorem et_U : 2 * et * (U : Rat) = 1 := by unfold et; have := UQ_ne; grind
theorem uu_pos : 0 < uu := by unfold uu; decide +kernel
theorem mval_BG : (mval 9214364837600034816 : Rat) = BG * (U : Rat) := by
  have h : mval 9214364837600034816 = 2 ^ kBG * U := by
    obtain ⟨k, hk⟩ : ∃ k : Nat, k = 2045 := ⟨_, rfl⟩
    have := mval_two k
    rw [show (k + 1) * 4503599627370496 = 9214364837600034816 by omega, show 52 + k = kBG + e1 by have := e1_eq; have := kBG_eq; omega, Nat.pow_add, ← U_def] at this
    exact this
  rw [h, cast_mul]
  rfl
theorem V.of {f : Nat} (h : f < 18446744073709551616) (hf : Proofs.Ytcfkhhnkboealaa.fin f = true) : V f (qv f) := ⟨h, hf, rfl⟩
theorem V.pos {r : Nat} (h : r < 9218868437227405312) : V r ((mval r : Rat) / (U : Rat)) := by
  have h1 : rung r = r := by unfold rung; omega
  have h2 : sgn r = false := by unfold sgn; simp; omega
  refine ⟨by omega, by unfold Proofs.Ytcfkhhnkboealaa.fin; rw [h1]; simpa using h, ?_⟩
  unfold qv sval
  rw [h1, h2]
  simp [icast]
def sq (s : Bool) (x : Rat) : Rat := if s then -x else x
theorem sq_ab (s : Bool) (x : Rat) : ab (sq s x) = ab x := by cases s <;> simp [sq, ab_neg]
theorem sq_sub (s : Bool) (x y : Rat) : sq s x - sq s y = sq s (x - y) := by cases s <;> simp [sq] <;> grind
theorem V.word {s : Bool} {r : Nat} (h : r < 9218868437227405312) : V (wd s r) (sq s ((mval r : Rat) / (U : Rat))) := by
  refine ⟨wd_lt (Nat.le_of_lt h), ?_, ?_⟩
  · unfold Proofs.Ytcfkhhnkboealaa.fin; rw [wd_rung (Nat.le_of_lt h)]; simpa using h
  · unfold qv
    rw [wd_sval (Nat.le_of_lt h)]
    cases s
    · simp [sq, icast]
    · simp [sq, icast]; grind
theorem V.form {f : Nat} {a : Rat} (h : V f a) : a = sq (sgn f) ((mval (rung f) : Rat) / (U : Rat)) := by
  rw [← h.val]
  unfold qv sval
  cases sgn f
  · simp [sq, icast]
  · simp [sq, icast]; grind
theorem V.size {f : Nat} {a : Rat} (h : V f a) : ab a = (mval (rung f) : Rat) / (U : Rat) := by
  rw [h.form, sq_ab]
  exact ab_pos ((le_div UQ_pos).2 (by rw [Rat.zero_mul]; exact cast_nn _))
theorem pow_posQ (d : Nat) : (0 : Rat) < ((2 ^ d : Nat) : Rat) := by
  have := Nat.two_pow_pos d
  have h : ((0 : Nat) : Rat) < ((2 ^ d : Nat) : Rat) := by exact_mod_cast this
  simpa using h
theorem rnd_fin {m d : Nat} (h : (m : Rat) ≤ BG * (U : Rat) * ((2 ^ d : Nat) : Rat)) : rndQ m d < 9218868437227405312 := by
  have hc : rndQ (mval 9214364837600034816 * 2 ^ d) d = 9214364837600034816 := by rw [rndQ_cancel, rnd_mval (by decide)]
  rw [← mval_BG, ← cast_mul] at h
  have := rndQ_mono (d := d) (cast_le.1 h)
  rw [hc] at this
  omega
/-- the rounded one, as a fraction. -/
theorem rnd_q {m d r : Nat} (hr : rndQ m d = r) (hf : r < 9218868437227405312) :
    ab ((mval r : Rat) / (U : Rat) - (m : Rat) / (((2 ^ d : Nat) : Rat) * (U : Rat))) ≤ uu * ((m : Rat) / (((2 ^ d : Nat) : Rat) * (U : Rat))) + (if d = 0 then 0 else et) := by
  have hU := UQ_pos
  have hD := pow_posQ d
  have hDU : 0 < ((2 ^ d : Nat) : Rat) * (U : Rat) := Rat.mul_pos hD hU
  have hm := cast_nn m
  generalize eX : (m : Rat) / (((2 ^ d : Nat) : Rat) * (U : Rat)) = X
  have hX : (m : Rat) = X * (((2 ^ d : Nat) : Rat) * (U : Rat)) := by grind
  have hX0 : 0 ≤ X := by rw [← eX]; exact (le_div hDU).2 (by grind)
  generalize eY : (mval r : Rat) / (U : Rat) = Y
  have hY : (mval r : Rat) = Y * (U : Rat) := by grind
  rw [ab_le]
  rcases rnd_near hr hf with ⟨h1, h2⟩ | ⟨h1, h2, _⟩
  · by_cases hd : d = 0
    · subst hd
      have h3 : m = mval r := by
        have : (2 : Nat) ^ 0 = 1 := rfl
        rw [this] at h1 h2; omega
      have h4 : X = Y := by
        have : (m : Rat) = (mval r : Rat) := by rw [h3]
        rw [hX, hY] at this
        have e : ((2 ^ 0 : Nat) : Rat) = 1 := by decide +kernel
        rw [e] at this
        have : X * (U : Rat) = Y * (U : Rat) := by grind
        have hu := UQ_ne
        grind
      have := mul_nn (Rat.le_of_lt uu_pos) hX0
      subst h4
      simp
      grind
    · have h1 := cast_le.2 h1
      have h2 := cast_le.2 h2
      rw [if_neg hd]
      have g1 : 2 * (X * (((2 ^ d : Nat) : Rat) * (U : Rat))) ≤ 2 * (Y * (U : Rat) * ((2 ^ d : Nat) : Rat)) + ((2 ^ d : Nat) : Rat) := by
        rw [← hX, ← hY]; simpa [cast_mul] using h1
      have g2 : 2 * (Y * (U : Rat) * ((2 ^ d : Nat) : Rat)) ≤ 2 * (X * (((2 ^ d : Nat) : Rat) * (U : Rat))) + ((2 ^ d : Nat) : Rat) := by
        rw [← hX, ← hY]; simpa [cast_mul] using h2
      generalize ((2 ^ d : Nat) : Rat) = D at *
      have hu := mul_nn (Rat.le_of_lt uu_pos) hX0
      have et1 := et_U
      have k1 : 2 * (X - Y) ≤ 2 * et := by
        refine Rat.le_of_mul_le_mul_right (c := D * (U : Rat)) ?_ hDU
        have : 2 * et * (D * (U : Rat)) = D := by grind
        rw [this]; grind
      have k2 : 2 * (Y - X) ≤ 2 * et := by
        refine Rat.le_of_mul_le_mul_right (c := D * (U : Rat)) ?_ hDU
        have : 2 * et * (D * (U : Rat)) = D := by grind
        rw [this]; grind
      grind
  · have h1 := cast_le.2 h1
    have h2 := cast_le.2 h2
    have he : 0 ≤ (if d = 0 then 0 else et) := by split; exact Rat.le_refl; exact Rat.le_of_lt et_pos
    generalize (if d = 0 then 0 else et) = E at *
    have g1 : 9007199254740992 * (X * (((2 ^ d : Nat) : Rat) * (U : Rat))) ≤ 9007199254740992 * (Y * (U : Rat) * ((2 ^ d : Nat) : Rat)) + X * (((2 ^ d : Nat) : Rat) * (U : Rat)) := by
      rw [← hX, ← hY]; simpa [cast_mul] using h1
    have g2 : 9007199254740992 * (Y * (U : Rat) * ((2 ^ d : Nat) : Rat)) ≤ 9007199254740992 * (X * (((2 ^ d : Nat) : Rat) * (U : Rat))) + X * (((2 ^ d : Nat) : Rat) * (U : Rat)) := by
      rw [← hX, ← hY]; simpa [cast_mul] using h2
    generalize ((2 ^ d : Nat) : Rat) = D at *
    have k1 : 9007199254740992 * (X - Y) ≤ X := by
      refine Rat.le_of_mul_le_mul_right (c := D * (U : Rat)) ?_ hDU
      grind
    have k2 : 9007199254740992 * (Y - X) ≤ X := by
      refine Rat.le_of_mul_le_mul_right (c := D * (U : Rat)) ?_ hDU
      grind
    unfold uu
    grind
theorem natAbsQ (s : Int) : ((s.natAbs : Nat) : Rat) = ab (s : Rat) := by
  rcases Int.le_total 0 s with h | h
  · obtain ⟨n, rfl⟩ := Int.eq_ofNat_of_zero_le h
    rw [icast, ab_pos (cast_nn n)]
    simp
  · obtain ⟨n, hn⟩ := Int.eq_ofNat_of_zero_le (a := -s) (by omega)
    have : s = -(n : Int) := by omega
    subst this
    simp [ab_neg, icast]
    exact (ab_pos (cast_nn n)).symm
theorem sgn_abQ (s : Int) (b : Bool) : sq (if s = 0 then b else decide (s < 0)) ((s.natAbs : Nat) : Rat) = (s : Rat) := by
  by_cases h : s = 0
  · subst h; cases b <;> simp [sq]
  · rw [if_neg h]
    rcases Int.lt_or_gt_of_ne h with h2 | h2
    · obtain ⟨n, hn⟩ := Int.eq_ofNat_of_zero_le (a := -s) (by omega)
      have : s = -(n : Int) := by omega
      subst this
      rw [decide_eq_true h2]
      simp [sq, icast]
    · obtain ⟨n, rfl⟩ := Int.eq_ofNat_of_zero_le (Int.le_of_lt h2)
      rw [decide_eq_false (by omega)]
      simp [sq, icast]
theorem sq_div (s : Bool) (x y : Rat) : sq s (x / y) = sq s x / y := by cases s <;> simp [sq] <;> grind
theorem V.whole_sum (s : Int) (b : Bool) (h : ab ((s : Rat) / (U : Rat)) ≤ BG) :
    ∃ c, V (wd (if s = 0 then b else decide (s < 0)) (rndN s.natAbs)) c ∧ ab (c - (s : Rat) / (U : Rat)) ≤ uu * ab ((s : Rat) / (U : Rat)) := by
  have hU := UQ_pos
  have e1 : ab ((s : Rat) / (U : Rat)) = ((s.natAbs : Nat) : Rat) / (U : Rat) := by rw [ab_div, natAbsQ, ab_pos (Rat.le_of_lt hU)]
  have hfin : rndN s.natAbs < 9218868437227405312 := by
    refine rnd_fin (d := 0) ?_
    rw [e1, div_le hU] at h
    have e : ((2 ^ 0 : Nat) : Rat) = 1 := by decide +kernel
    rw [e]; grind
  have hq := rnd_q (d := 0) (show rndQ s.natAbs 0 = rndN s.natAbs from rfl) hfin
  have e : ((2 ^ 0 : Nat) : Rat) = 1 := by decide +kernel
  rw [e, Rat.one_mul, if_pos rfl] at hq
  refine ⟨_, V.word hfin, ?_⟩
  have e2 : (s : Rat) / (U : Rat) = sq (if s = 0 then b else decide (s < 0)) (((s.natAbs : Nat) : Rat) / (U : Rat)) := by rw [sq_div, sgn_abQ]
  rw [e2, sq_sub, sq_ab, sq_ab]
  have e3 : ab (((s.natAbs : Nat) : Rat) / (U : Rat)) = ((s.natAbs : Nat) : Rat) / (U : Rat) := ab_pos ((le_div hU).2 (by rw [Rat.zero_mul]; exact cast_nn _))
  rw [e3]
  grind
theorem V.add {f g : Nat} {a b : Rat} (hf : V f a) (hg : V g b) (h : ab (a + b) ≤ BG) : ∃ c, V (fadd f g) c ∧ ab (c - (a + b)) ≤ uu * ab (a + b) := by
  have e : a + b = ((sval f + sval g : Int) : Rat) / (U : Rat) := by
    rw [← hf.val, ← hg.val]; unfold qv; have := UQ_ne; grind
  rw [e] at h ⊢
  rw [fadd_fin hf.fin hg.fin]
  exact V.whole_sum _ _ h
theorem V.sub {f g : Nat} {a b : Rat} (hf : V f a) (hg : V g b) (h : ab (a - b) ≤ BG) : ∃ c, V (fsub f g) c ∧ ab (c - (a - b)) ≤ uu * ab (a - b) := by
  have e : a - b = ((sval f - sval g : Int) : Rat) / (U : Rat) := by
    rw [← hf.val, ← hg.val]; unfold qv; have := UQ_ne; grind
  rw [e] at h ⊢
  rw [fsub_fin hf.fin hg.fin hg.lt]
  exact V.whole_sum _ _ h
theorem V.mul {f g : Nat} {a b : Rat} (hf : V f a) (hg : V g b) (h : ab (a * b) ≤ BG) : ∃ c, V (fmul f g) c ∧ ab (c - a * b) ≤ uu * ab (a * b) + et := by
  have hU := UQ_pos
  have hne := UQ_ne
  have eU : ((2 ^ e1 : Nat) : Rat) = (U : Rat) := rfl
  have h74 : (1074 : Nat) = e1 := rfl
  have e0 : a * b = sq (sgn f ^^ sgn g) (((mval (rung f) * mval (rung g) : Nat) : Rat) / (((2 ^ e1 : Nat) : Rat) * (U : Rat))) := by
    rw [eU, cast_mul, hf.form, hg.form]
    cases sgn f <;> cases sgn g <;> simp [sq] <;> grind
  have hab : ab (a * b) = ((mval (rung f) * mval (rung g) : Nat) : Rat) / (((2 ^ e1 : Nat) : Rat) * (U : Rat)) := by
    rw [e0, sq_ab]
    exact ab_pos ((le_div (by rw [eU]; exact Rat.mul_pos hU hU)).2 (by rw [Rat.zero_mul]; exact cast_nn _))
  have hfin : rndQ (mval (rung f) * mval (rung g)) e1 < 9218868437227405312 := by
    refine rnd_fin ?_
    rw [hab, div_le (by rw [eU]; exact Rat.mul_pos hU hU)] at h
    rw [eU] at h ⊢
    grind
  have hq := rnd_q (d := e1) (show rndQ (mval (rung f) * mval (rung g)) e1 = _ from rfl) hfin
  rw [if_neg (by rw [e1_eq]; decide), ← hab] at hq
  rw [fmul_fin hf.fin hg.fin, h74]
  refine ⟨_, V.word hfin, ?_⟩
  rw [hab] at hq ⊢
  rw [e0, sq_sub, sq_ab]
  exact hq
/-- a rounded figure from whose true value it is not apart by the last digit. -/
theorem sticky_q {m a d r : Nat} {st : Bool} {X : Rat} (hr : rndQ ((2 * m + st.toNat) * 2 ^ a) d = r) (hf : r < 9218868437227405312) (hm : 9007199254740992 ≤ m)
    (h1 : ((2 * m * 2 ^ a : Nat) : Rat) ≤ X * ((2 ^ d : Nat) : Rat)) (h2 : X * ((2 ^ d : Nat) : Rat) ≤ (((2 * m + 2 * st.toNat) * 2 ^ a : Nat) : Rat)) :
    ab ((mval r : Rat) / (U : Rat) - X / (U : Rat)) ≤ uu * (X / (U : Rat)) + et := by
  have hU := UQ_pos
  have hne := UQ_ne
  have hD := pow_posQ d
  have hX : 0 ≤ X := by
    have := cast_nn (2 * m * 2 ^ a)
    refine Rat.le_of_mul_le_mul_right (c := ((2 ^ d : Nat) : Rat)) ?_ hD
    rw [Rat.zero_mul]; exact Rat.le_trans this h1
  have key : ab ((mval r : Rat) - X) ≤ uu * X ∨ ab ((mval r : Rat) - X) ≤ 1 / 2 := by
    generalize eR : (mval r : Rat) = R
    rcases rnd_sticky hr hf hm with ⟨g1, g2, _⟩ | ⟨g1, g2⟩
    · right
      have g1 := cast_le.2 g1
      have g2 := cast_le.2 g2
      have k1 : (4 * m + 4 * st.toNat) * 2 ^ a = 2 * ((2 * m + 2 * st.toNat) * 2 ^ a) := by grind
      have k2 : 4 * m * 2 ^ a = 2 * (2 * m * 2 ^ a) := by grind
      rw [k1] at g1
      rw [k2] at g2
      generalize (2 * m + 2 * st.toNat) * 2 ^ a = P at *
      generalize 2 * m * 2 ^ a = Q at *
      have g1 : 2 * (P : Rat) ≤ 2 * (R * ((2 ^ d : Nat) : Rat)) + ((2 ^ d : Nat) : Rat) := by rw [← eR]; simpa [cast_mul] using g1
      have g2 : 2 * (R * ((2 ^ d : Nat) : Rat)) ≤ 2 * (Q : Rat) + ((2 ^ d : Nat) : Rat) := by rw [← eR]; simpa [cast_mul] using g2
      generalize ((2 ^ d : Nat) : Rat) = D at *
      rw [ab_le]
      constructor
      · refine Rat.le_of_mul_le_mul_right (c := D) ?_ hD
        grind
      · refine Rat.le_of_mul_le_mul_right (c := D) ?_ hD
        grind
    · left
      have g1 := cast_le.2 g1
      have g2 := cast_le.2 g2
      generalize (2 * m + 2 * st.toNat) * 2 ^ a = P at *
      generalize 2 * m * 2 ^ a = Q at *
      have g1 : 9007199254740992 * (P : Rat) ≤ 9007199254740992 * (R * ((2 ^ d : Nat) : Rat)) + (Q : Rat) := by rw [← eR]; simpa [cast_mul] using g1
      have g2 : 9007199254740992 * (R * ((2 ^ d : Nat) : Rat)) ≤ 9007199254740992 * (Q : Rat) + (Q : Rat) := by rw [← eR]; simpa [cast_mul] using g2
      generalize ((2 ^ d : Nat) : Rat) = D at *
      unfold uu
      rw [ab_le]
      constructor
      · refine Rat.le_of_mul_le_mul_right (c := D) ?_ hD
        grind
      · refine Rat.le_of_mul_le_mul_right (c := D) ?_ hD
        grind
  have e1 : (mval r : Rat) / (U : Rat) - X / (U : Rat) = ((mval r : Rat) - X) / (U : Rat) := by grind
  have hp := et_pos
  have hu := mul_nn (Rat.le_of_lt uu_pos) hX
  rw [e1, ab_div, ab_pos (Rat.le_of_lt hU), div_le hU]
  have e2 : (uu * (X / (U : Rat)) + et) * (U : Rat) = uu * X + 1 / 2 := by have := et_U; grind
  rw [e2]
  rcases key with k | k <;> grind
theorem fdiv_fin2 {f g : Nat} (hf : Proofs.Ytcfkhhnkboealaa.fin f = true) (hg : Proofs.Ytcfkhhnkboealaa.fin g = true) (h0 : rung g ≠ 0) :
    ∃ m1 k1 m2 k2 s, mval (rung f) = m1 * 2 ^ k1 ∧ mval (rung g) = m2 * 2 ^ k2 ∧ 0 < m2 ∧ (m1 ≠ 0 → m2 * 9007199254740992 ≤ m1 * 2 ^ s) ∧
      fdiv f g = wd (sgn f ^^ sgn g) (rndQ ((2 * (m1 * 2 ^ s / m2) + (m1 * 2 ^ s % m2 != 0).toNat) * 2 ^ (e1 + k1)) (k2 + s + 1)) := by
  obtain ⟨m1, k1, hr1, hm1, hb1, hk1⟩ := read_number (fin_rung hf)
  obtain ⟨m2, k2, hr2, hm2, hb2, hk2⟩ := read_number (fin_rung hg)
  have h2 : m2 ≠ 0 := by
    intro h; rw [h, Nat.zero_mul] at hm2; have := mval_pos (show 0 < rung g by omega); omega
  have hl1 : m1.log2 ≤ 52 := by
    by_cases h : m1 = 0
    · subst h; decide
    · have := (Nat.log2_lt h (k := 53)).2 (by omega); omega
  refine ⟨m1, k1, m2, k2, 54 + m2.log2 - m1.log2, hm1, hm2, by omega, ?_, ?_⟩
  · intro h1
    have a1 := Nat.log2_self_le h1
    have a2 : m2 < 2 ^ (m2.log2 + 1) := Nat.lt_log2_self
    have a3 : 2 ^ m1.log2 * 2 ^ (54 + m2.log2 - m1.log2) = 2 ^ (m2.log2 + 1) * 9007199254740992 := by
      rw [← Nat.pow_add, show m1.log2 + (54 + m2.log2 - m1.log2) = m2.log2 + 1 + 53 by omega, Nat.pow_add]
    have a4 : 2 ^ m1.log2 * 2 ^ (54 + m2.log2 - m1.log2) ≤ m1 * 2 ^ (54 + m2.log2 - m1.log2) := Nat.mul_le_mul_right _ a1
    rw [a3] at a4
    exact Nat.le_trans (Nat.mul_le_mul_right _ (Nat.le_of_lt a2)) a4
  · rw [div_def, hr1, hr2]
    have hfb : Ieee.double.fractionBits + 2 = 54 := rfl
    rw [hfb]
    simp only [Ieee.Datum.quotient]
    rw [if_neg (by simpa using h2)]
    simp only [Option.map_some, canon]
    rw [Nat.shiftLeft_eq]
    show Ieee.double.nearest _ _ _ = _
    rw [nearest_any _ _ (e1 + k1) (k2 + (54 + m2.log2 - m1.log2) + 1) _ (by rw [e1_eq]; omega), word_eq]
theorem div_self_mul (x : Rat) {y : Rat} (h : y ≠ 0) : x / y * y = x := by grind
theorem V.nz {f : Nat} {a : Rat} (h : V f a) (ha : a ≠ 0) : rung f ≠ 0 := by
  intro e
  apply ha
  rw [h.form, e, mval_zero]
  have : ((0 : Nat) : Rat) / (U : Rat) = 0 := by grind
  rw [this]
  cases sgn f <;> simp [sq]
theorem V.div {f g : Nat} {a b : Rat} (hf : V f a) (hg : V g b) (h0 : b ≠ 0) (h : 2 * ab (a / b) ≤ BG) : ∃ c, V (fdiv f g) c ∧ ab (c - a / b) ≤ uu * ab (a / b) + et := by
  have hU := UQ_pos
  have hne := UQ_ne
  obtain ⟨m1, k1, m2, k2, s, ef, eg, hp, hs, he⟩ := fdiv_fin2 hf.fin hg.fin (hg.nz h0)
  have aa := hf.size
  have ab' := hg.size
  have hD := pow_posQ (k2 + s + 1)
  have hA := pow_posQ (e1 + k1)
  have hM2 : (0 : Rat) < (m2 : Rat) := by
    have h : ((0 : Nat) : Rat) < (m2 : Rat) := by exact_mod_cast hp
    simpa using h
  have eD : ((2 ^ (k2 + s + 1) : Nat) : Rat) = ((2 ^ k2 : Nat) : Rat) * ((2 ^ s : Nat) : Rat) * 2 := by rw [Nat.pow_succ, Nat.pow_add, cast_mul, cast_mul]; rfl
  have eA : ((2 ^ (e1 + k1) : Nat) : Rat) = (U : Rat) * ((2 ^ k1 : Nat) : Rat) := by rw [Nat.pow_add, cast_mul]; rfl
  have h1 := pow_posQ k1
  have h2 := pow_posQ k2
  have h3 := pow_posQ s
  -- the true quotient, in units
  obtain ⟨X, eX⟩ : ∃ X : Rat, X = ((m1 * 2 ^ s : Nat) : Rat) * 2 * ((2 ^ (e1 + k1) : Nat) : Rat) / ((m2 : Rat) * ((2 ^ (k2 + s + 1) : Nat) : Rat)) := ⟨_, rfl⟩
  have hXU : ab (a / b) = X / (U : Rat) := by
    rw [ab_div, aa, ab', ef, eg, eX, eD, eA, cast_mul, cast_mul, cast_mul]
    have n1 : ((2 ^ k1 : Nat) : Rat) ≠ 0 := by grind
    have n2 : ((2 ^ k2 : Nat) : Rat) ≠ 0 := by grind
    have n3 : ((2 ^ s : Nat) : Rat) ≠ 0 := by grind
    have n4 : (m2 : Rat) ≠ 0 := by grind
    generalize ((2 ^ k1 : Nat) : Rat) = K1 at *
    generalize ((2 ^ k2 : Nat) : Rat) = K2 at *
    generalize ((2 ^ s : Nat) : Rat) = S at *
    generalize (U : Rat) = u at *
    grind
  have hsg : a / b = sq (sgn f ^^ sgn g) (X / (U : Rat)) := by
    rw [← hXU, ab_div, aa, ab']
    rw [hf.form, hg.form]
    cases sgn f <;> cases sgn g <;> simp [sq] <;> grind
  have e9 : X * ((2 ^ (k2 + s + 1) : Nat) : Rat) * (m2 : Rat) = ((m1 * 2 ^ s : Nat) : Rat) * 2 * ((2 ^ (e1 + k1) : Nat) : Rat) := by
    rw [eX]
    have n4 : (m2 : Rat) ≠ 0 := by grind
    have n5 : ((2 ^ (k2 + s + 1) : Nat) : Rat) ≠ 0 := by grind
    grind
  rw [he, hXU, hsg]
  by_cases hz : m1 = 0
  · have hn : 2 * (m1 * 2 ^ s / m2) + (m1 * 2 ^ s % m2 != 0).toNat = 0 := by rw [hz]; simp
    have hX0 : X = 0 := by
      rw [eX, hz, Nat.zero_mul]
      have : ((0 : Nat) : Rat) = 0 := rfl
      rw [this]; grind
    have hr0 : rndQ ((2 * (m1 * 2 ^ s / m2) + (m1 * 2 ^ s % m2 != 0).toNat) * 2 ^ (e1 + k1)) (k2 + s + 1) = 0 := by
      rw [hn, Nat.zero_mul]; unfold rndQ; rw [if_pos rfl]
    rw [hr0]
    refine ⟨_, V.word (by decide), ?_⟩
    rw [hX0, sq_sub, sq_ab, mval_zero]
    have : ((0 : Nat) : Rat) / (U : Rat) - 0 / (U : Rat) = 0 := by grind
    rw [this]
    have e0 : ab 0 = 0 := by decide +kernel
    have := et_pos
    rw [e0]; grind
  have hs := hs hz
  have hdm := Nat.div_add_mod (m1 * 2 ^ s) m2
  have hml := Nat.mod_lt (m1 * 2 ^ s) hp
  have hq : 9007199254740992 ≤ m1 * 2 ^ s / m2 := (Nat.le_div_iff_mul_le hp).2 (by rw [Nat.mul_comm]; exact hs)
  have b1 : m2 * (m1 * 2 ^ s / m2) ≤ m1 * 2 ^ s := by omega
  have b2 : m1 * 2 ^ s ≤ m2 * (m1 * 2 ^ s / m2 + (m1 * 2 ^ s % m2 != 0).toNat) := by
    rw [Nat.mul_add]
    by_cases hr : m1 * 2 ^ s % m2 = 0
    · rw [hr] at hdm ⊢; simp; omega
    · have : (m1 * 2 ^ s % m2 != 0) = true := by simpa using hr
      rw [this, Bool.toNat_true, Nat.mul_one]; omega
  have hst : (m1 * 2 ^ s % m2 != 0).toNat ≤ 1 := Bool.toNat_le _
  generalize hQ : m1 * 2 ^ s / m2 = Q at *
  generalize hST : (m1 * 2 ^ s % m2 != 0) = st at *
  generalize hP : m1 * 2 ^ s = P at *
  have b1 := cast_le.2 b1
  have b2 := cast_le.2 b2
  rw [cast_mul] at b1 b2
  have g1 : ((2 * Q * 2 ^ (e1 + k1) : Nat) : Rat) ≤ X * ((2 ^ (k2 + s + 1) : Nat) : Rat) := by
    refine Rat.le_of_mul_le_mul_right (c := (m2 : Rat)) ?_ hM2
    rw [e9, cast_mul, cast_mul]
    have := Rat.mul_le_mul_of_nonneg_right b1 (Rat.le_of_lt hA)
    have e2 : ((2 : Nat) : Rat) = 2 := rfl
    rw [e2]; grind
  have g2 : X * ((2 ^ (k2 + s + 1) : Nat) : Rat) ≤ (((2 * Q + 2 * st.toNat) * 2 ^ (e1 + k1) : Nat) : Rat) := by
    refine Rat.le_of_mul_le_mul_right (c := (m2 : Rat)) ?_ hM2
    rw [e9, show 2 * Q + 2 * st.toNat = 2 * (Q + st.toNat) by omega, cast_mul, cast_mul]
    have := Rat.mul_le_mul_of_nonneg_right b2 (Rat.le_of_lt hA)
    have e2 : ((2 : Nat) : Rat) = 2 := rfl
    rw [e2]; grind
  have hfin : rndQ ((2 * Q + st.toNat) * 2 ^ (e1 + k1)) (k2 + s + 1) < 9218868437227405312 := by
    refine rnd_fin ?_
    rw [hXU] at h
    have k1' : 2 * X ≤ BG * (U : Rat) := by
      have := Rat.mul_le_mul_of_nonneg_right h (Rat.le_of_lt hU)
      rwa [Rat.mul_assoc, div_self_mul X hne] at this
    have k2' := Rat.mul_le_mul_of_nonneg_right k1' (Rat.le_of_lt hD)
    have k3' : (((2 * Q + st.toNat) * 2 ^ (e1 + k1) : Nat) : Rat) ≤ ((2 * (2 * Q * 2 ^ (e1 + k1)) : Nat) : Rat) := by
      apply cast_le.2
      rw [← Nat.mul_assoc]
      exact Nat.mul_le_mul_right _ (by omega)
    rw [cast_mul 2 (2 * Q * 2 ^ (e1 + k1))] at k3'
    have e2 : ((2 : Nat) : Rat) = 2 := rfl
    rw [e2] at k3'
    refine Rat.le_trans k3' (Rat.le_trans ?_ k2')
    clear k3' k2' k1' h b1 b2 g2 e9 hsg hXU eX eD eA
    grind
  refine ⟨_, V.word hfin, ?_⟩
  have key := sticky_q rfl hfin hq g1 g2
  have hX0 : 0 ≤ X / (U : Rat) := by rw [← hXU]; exact ab_nn _
  rw [sq_sub, sq_ab]
  exact key
theorem V.neg {f : Nat} {a : Rat} (h : V f a) : V (fneg f) (-a) := by
  have hn := fin_notN h.fin
  refine ⟨?_, by rw [fin_neg]; exact h.fin, ?_⟩
  · unfold fneg
    rw [hn]
    exact Nat.xor_lt_two_pow (n := 64) h.lt (by decide)
  · unfold qv
    rw [sval_neg h.lt hn, ← h.val]
    unfold qv
    simp
    grind
theorem V.sqrt {r : Nat} {a : Rat} (h : V r a) (h0 : 0 < a) : ∃ c, V (fsqrt r) c ∧ 0 ≤ c ∧ c * c ≤ (1 + uu) * (1 + uu) * a ∧ (1 - uu) * (1 - uu) * a ≤ c * c ∧ fsqrt r < 9218868437227405312 := by
  have hU := UQ_pos
  have hne := UQ_ne
  have hs : sgn r = false := by
    cases e : sgn r
    · rfl
    · have e1 := h.form
      rw [e] at e1
      have e2 := (le_div (a := 0) (b := (mval (rung r) : Rat)) hU).2 (by rw [Rat.zero_mul]; exact cast_nn _)
      simp only [sq, if_true] at e1
      grind
  have hrr : rung r = r := by
    have := h.lt
    unfold sgn at hs
    unfold rung
    simp at hs
    omega
  have hr : r < 9218868437227405312 := by have := fin_rung h.fin; omega
  have hr0 : 0 < r := by
    have := h.nz (by grind); omega
  have hval : a = (mval r : Rat) / (U : Rat) := by
    have e1 := h.form
    rw [hs, hrr] at e1
    simpa [sq] using e1
  obtain ⟨n, w, a', st, e, l1, l2, l3, l4, l5, l6, l7⟩ := sqrt_parts hr0 hr
  have hf := sqrt_fin hr0 hr
  refine ⟨_, V.pos hf, (le_div hU).2 (by rw [Rat.zero_mul]; exact cast_nn _), ?_⟩
  have hst := rnd_sticky (m := w) (a := a') (d := 0) (st := st) (r := fsqrt r) e.symm hf (by rw [show (2 : Nat) ^ 54 = 18014398509481984 by decide] at l5; omega)
  have hA := Nat.two_pow_pos a'
  rcases hst with ⟨_, _, q3⟩ | ⟨q1, q2⟩
  · rw [Nat.pow_zero] at q3; omega
  rw [Nat.pow_zero, Nat.mul_one] at q1 q2
  have c1 : (2 * w * 2 ^ a') * (2 * w * 2 ^ a') ≤ mval r * U := by
    rw [l4]
    have := Nat.mul_le_mul_right (4 * (2 ^ a' * 2 ^ a')) l1
    grind
  have c2 : mval r * U ≤ ((2 * w + 2 * st.toNat) * 2 ^ a') * ((2 * w + 2 * st.toNat) * 2 ^ a') := by
    rw [l4]
    have l9 : n ≤ (w + st.toNat) * (w + st.toNat) := by
      cases st
      · have := l3 rfl; simp; omega
      · simp; omega
    have := Nat.mul_le_mul_right (4 * (2 ^ a' * 2 ^ a')) l9
    grind
  have c3 : 2 * w * 2 ^ a' ≤ (2 * w + 2 * st.toNat) * 2 ^ a' := Nat.mul_le_mul_right _ (by omega)
  generalize (2 * w + 2 * st.toNat) * 2 ^ a' = Q at *
  generalize 2 * w * 2 ^ a' = P at *
  generalize eR : mval (fsqrt r) = R at *
  have q1 := cast_le.2 q1
  have q2 := cast_le.2 q2
  have c1 := cast_le.2 c1
  have c2 := cast_le.2 c2
  have c3 := cast_le.2 c3
  rw [cast_mul, cast_mul] at c1 c2
  have q1 : 9007199254740992 * (Q : Rat) ≤ 9007199254740992 * (R : Rat) + (P : Rat) := by simpa [cast_mul] using q1
  have q2 : 9007199254740992 * (R : Rat) ≤ 9007199254740992 * (P : Rat) + (P : Rat) := by simpa [cast_mul] using q2
  have p0 := cast_nn P
  have p1 := cast_nn Q
  have p2 := cast_nn R
  have d1 : (R : Rat) ≤ (1 + uu) * (P : Rat) := by unfold uu; grind
  have d2 : (1 - uu) * (Q : Rat) ≤ (R : Rat) := by unfold uu; grind
  have d3 : 0 ≤ (1 - uu) * (Q : Rat) := mul_nn (by unfold uu; decide +kernel) p1
  have d4 : (R : Rat) * (R : Rat) ≤ (1 + uu) * (P : Rat) * ((1 + uu) * (P : Rat)) := mul_mono p2 d1 p2 d1
  have d5 : (1 - uu) * (Q : Rat) * ((1 - uu) * (Q : Rat)) ≤ (R : Rat) * (R : Rat) := mul_mono d3 d2 d3 d2
  have u1 : 0 ≤ (1 + uu) * (1 + uu) := by unfold uu; decide +kernel
  have u2 : 0 ≤ (1 - uu) * (1 - uu) := by unfold uu; decide +kernel
  have d6 := Rat.mul_le_mul_of_nonneg_left c1 u1
  have d7 := Rat.mul_le_mul_of_nonneg_left c2 u2
  have hUU : 0 < (U : Rat) * (U : Rat) := Rat.mul_pos hU hU
  have e6 : (R : Rat) / (U : Rat) * ((R : Rat) / (U : Rat)) * ((U : Rat) * (U : Rat)) = (R : Rat) * (R : Rat) := by grind
  have e7 : ∀ t : Rat, t * a * ((U : Rat) * (U : Rat)) = t * ((mval r : Rat) * (U : Rat)) := by intro t; rw [hval]; grind
  refine ⟨?_, ?_, hf⟩
  · refine Rat.le_of_mul_le_mul_right (c := (U : Rat) * (U : Rat)) ?_ hUU
    rw [e6, e7]; grind
  · refine Rat.le_of_mul_le_mul_right (c := (U : Rat) * (U : Rat)) ?_ hUU
    rw [e6, e7]; grind
theorem V.absv {f : Nat} {a : Rat} (h : V f a) : V (rung f) (ab a) := by rw [h.size]; exact V.pos (fin_rung h.fin)
theorem V.uniq {f : Nat} {a b : Rat} (h : V f a) (k : V f b) : a = b := by rw [← h.val, ← k.val]
/-- bounds by numerals. -/
theorem BG_big : (1267650600228229401496703205376 : Rat) ≤ BG := by
  have h : 1267650600228229401496703205376 ≤ 2 ^ kBG := by
    rw [show (1267650600228229401496703205376 : Nat) = 2 ^ 100 by decide]
    exact Nat.pow_le_pow_right (by decide) (by rw [kBG_eq]; decide)
  have := cast_le.2 h
  exact this
theorem et_tau : et ≤ 1 / 1606938044258990275541962092341162602522202993782792835301376 := by
  have h : 1606938044258990275541962092341162602522202993782792835301376 ≤ U := by
    rw [show (1606938044258990275541962092341162602522202993782792835301376 : Nat) = 2 ^ 200 by decide, U_def]
    exact Nat.pow_le_pow_right (by decide) (by rw [e1_eq]; decide)
  have h2 := cast_le.2 h
  have h3 := et_U
  have h4 := et_pos
  have e : ((1606938044258990275541962092341162602522202993782792835301376 : Nat) : Rat) = 1606938044258990275541962092341162602522202993782792835301376 := rfl
  rw [e] at h2
  have := Rat.mul_le_mul_of_nonneg_left h2 (Rat.le_of_lt h4)
  grind
end Go.Proofs.Ytcfkhhnkboealaa
