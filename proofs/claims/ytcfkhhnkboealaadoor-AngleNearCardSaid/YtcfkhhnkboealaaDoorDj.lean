/- What the law's turn works with: the rest of quarters by big floats, sizes. No text of the program. -/
import Derived.Test.YtcfkhhnkboealaaDoorDhi
import Derived.Test.YtcfkhhnkboealaaDoorDcd
import Derived.Test.YtcfkhhnkboealaaDoorDe
namespace Go.Proofs.YtcfkhhnkboealaaDoor
open Go.RowKit
set_option linter.unusedVariables false
set_option linter.unusedSimpArgs false
set_option maxRecDepth 100000
set_option maxHeartbeats 4000000
open Turns Sizes
/-- half of the law's half circle. -/
theorem half_near {p h : Rat} (hp1 : ab (p - 2 * hp) ≤ tw 103) (h1 : ab (h - p / 2) ≤ 3 * u4 * ab (p / 2)) : ab (h - hp) ≤ tw 103 ∧ 157 / 100 ≤ h ∧ h ≤ 1571 / 1000 ∧ 314 / 100 ≤ p ∧ p ≤ 3142 / 1000 := by
  obtain ⟨u0, u1, u2⟩ := u4_fine
  have hb : 15707 / 10000 ≤ hp ∧ hp ≤ 15708 / 10000 := by decide +kernel
  have w : tw 103 ≤ 1 / 1000000 ∧ 10 * tw 390 ≤ 1 / 4 * tw 103 := by decide +kernel
  have w0 := tw_pos 103
  have pp := ab_le.1 hp1
  generalize hp = H at *
  generalize tw 103 = z at *
  generalize tw 390 = z9 at *
  have p2 : ab (p / 2) ≤ 2 := by
    rw [show p / 2 = p * (1 / 2) by grind, ab_le]
    constructor <;> grind
  have k := Rat.mul_le_mul_of_nonneg_left p2 (show 0 ≤ 3 * u4 by grind)
  have hh := ab_le.1 (Rat.le_trans h1 k)
  refine ⟨?_, ?_, ?_, ?_, ?_⟩
  · rw [ab_le]
    constructor <;> grind
  all_goals grind
/-- the whole number of quarters that the law takes. -/
theorem turn_quot {a h Q c M : Rat} (ha : ab a ≤ 1048576) (hh : 157 / 100 ≤ h) (h1 : ab (Q - a / h) ≤ 3 * u4 * ab (a / h)) (h2 : ab (c - Q) ≤ uu * ab Q + et) (h3 : ab (c - M) ≤ 1 / 2) : ab (a / h - M) ≤ 5000000001 / 10000000000 ∧ ab (a / h) ≤ 668000 ∧ ab Q ≤ 668001 ∧ ab c ≤ 668002 ∧ ab M ≤ 668003 := by
  obtain ⟨u0, _, u2⟩ := u4_fine
  have u1 : u4 ≤ 1 / 1000000000000000000000 := Rat.le_trans u2 (by decide +kernel)
  clear u2
  have hu : 0 < uu ∧ uu ≤ 112 / 1000000000000000000 := by decide +kernel
  have het := et_uu
  have x1 : ab (a / h) ≤ 668000 := by
    rw [ab_div, ab_pos (show 0 ≤ h by grind), div_le (by grind)]
    grind
  generalize a / h = X at *
  have k1 := Rat.mul_le_mul_of_nonneg_left x1 (show 0 ≤ 3 * u4 by grind)
  have q1 : ab Q ≤ 668001 := by
    have := ab_add (Q - X) X
    rw [show Q - X + X = Q by grind] at this
    grind
  have k2 := Rat.mul_le_mul_of_nonneg_left q1 (Rat.le_of_lt hu.1)
  have c1 : ab c ≤ 668002 := by
    have := ab_add (c - Q) Q
    rw [show c - Q + Q = c by grind] at this
    grind
  refine ⟨?_, x1, q1, c1, ?_⟩
  · have a1 := ab_sub (c - M) (c - Q)
    have a2 := ab_sub (c - M - (c - Q)) (Q - X)
    rw [show c - M - (c - Q) - (Q - X) = X - M by grind] at a2
    grind
  · have a1 := ab_sub c (c - M)
    rw [show c - (c - M) = M by grind] at a1
    grind
/-- the rest. -/
theorem turn_rest {a h M P y : Rat} (hh : ab (h - hp) ≤ tw 103) (h1 : 157 / 100 ≤ h) (h2 : h ≤ 1571 / 1000) (hM : ab M ≤ 668003) (hq : ab (a / h - M) ≤ 5000000001 / 10000000000) (h3 : ab (P - M * h) ≤ u4 * ab (M * h)) (h4 : ab (y - (a - P)) ≤ u4 * ab (a - P)) :
    ab (y - (a - M * hp)) ≤ tw 82 ∧ ab y ≤ 7858 / 10000 ∧ ab (a - M * h) ≤ 7857 / 10000 := by
  obtain ⟨u0, u1, u2⟩ := u4_fine
  have w : 668003 * tw 103 + 1200000 * tw 390 ≤ tw 82 := by decide +kernel
  have w9 := tw_pos 390
  have w8 := tw_pos 103
  have e : a - M * h = (a / h - M) * h := by
    have : a / h * h = a := div_self_mul _ (by grind)
    grind
  have r1 : ab (a - M * h) ≤ 7857 / 10000 := by
    rw [e, ab_mul, ab_pos (show 0 ≤ h by grind)]
    exact Rat.le_trans (mul_mono (ab_nn _) hq (by grind) h2) (by decide +kernel)
  have m1 : ab (M * h) ≤ 1050000 := by
    rw [ab_mul, ab_pos (show 0 ≤ h by grind)]
    exact Rat.le_trans (mul_mono (ab_nn _) hM (by grind) h2) (by decide +kernel)
  have k1 := Rat.mul_le_mul_of_nonneg_left m1 u0
  have r2 : ab (a - P) ≤ 78575 / 100000 := by
    have x := ab_sub (a - M * h) (P - M * h)
    rw [show a - M * h - (P - M * h) = a - P by grind] at x
    clear e
    grind
  have k2 := Rat.mul_le_mul_of_nonneg_left r2 u0
  have d1 : ab (M * (h - hp)) ≤ 668003 * tw 103 := by
    rw [ab_mul]
    exact mul_mono (ab_nn _) hM (ab_nn _) hh
  have x1 := ab_sub (y - (a - P)) (P - M * h)
  have x2 := ab_sub (y - (a - P) - (P - M * h)) (M * (h - hp))
  have e2 : y - (a - P) - (P - M * h) - M * (h - hp) = y - (a - M * hp) := by grind
  rw [e2] at x2
  have w2 : 668003 * tw 103 ≤ 1 / 1000000000 := by decide +kernel
  refine ⟨?_, ?_, r1⟩
  · clear e e2 hq hM hh h1 h2 r1 r2 m1 w2 u1
    have k1' := Rat.le_trans h3 k1
    have k2' := Rat.le_trans h4 k2
    clear h3 h4 k1 k2
    generalize ab (y - (a - M * hp)) = L at *
    generalize ab (M * (h - hp)) = L1 at *
    generalize ab (P - M * h) = L2 at *
    generalize ab (y - (a - P)) = L3 at *
    generalize ab (y - (a - P) - (P - M * h)) = L4 at *
    generalize tw 103 = z3 at *
    generalize tw 82 = z2 at *
    generalize tw 390 = z9 at *
    grind
  · have x := ab_add (y - (a - P)) (a - P)
    rw [show y - (a - P) + (a - P) = y by grind] at x
    clear e e2 hq hM hh h1 h2 w w2 d1 x1 x2 h3 k1
    grind
/-- a float that is not small lies on a coarse grid. -/
theorem V.grid53 {f : Nat} {a : Rat} (hf : V f a) (h : 1 / 2 ≤ ab a) : ∃ z : Int, a = (z : Rat) * pw (-((53 : Nat) : Int)) := by
  have hr := fin_rung hf.fin
  have hs := hf.size
  have hlo : 4602678819172646912 ≤ rung f := by
    rcases Nat.lt_or_ge (rung f) 4602678819172646912 with q | q
    · exfalso
      have hh := V.half.uniq (V.pos (by decide))
      have m1 := mval_lt q
      have m2 : (mval (rung f) : Rat) < (mval 4602678819172646912 : Rat) := by exact_mod_cast m1
      rw [hs, hh, div_le UQ_pos, div_self_mul _ UQ_ne] at h
      grind
    · exact q
  obtain ⟨L, hL⟩ : ∃ L, L = rung f / 4503599627370496 - 1 := ⟨_, rfl⟩
  obtain ⟨q, hq⟩ : ∃ q, q = rung f - L * 4503599627370496 := ⟨_, rfl⟩
  have hr2 : rung f = L * 4503599627370496 + q := by omega
  have b1 : 4503599627370496 ≤ q := by omega
  have b2 : q < 9007199254740992 := by omega
  have e0 : mval (rung f) = q * 2 ^ L := by rw [hr2]; exact mval_plc (by omega) (.inr b1)
  obtain ⟨d, hd⟩ : ∃ d, L = 1021 + d := ⟨L - 1021, by omega⟩
  refine ⟨sg (sgn f) (q * 2 ^ d), ?_⟩
  have e := hf.form
  rw [one_U, e0] at e
  have e2 : ((q * 2 ^ L : Nat) : Rat) * pw (-((1074 : Nat) : Int)) = ((q * 2 ^ d : Nat) : Rat) * pw (-((53 : Nat) : Int)) := by
    rw [cast_mul, cast_mul, ← pw_nat L, ← pw_nat d, Rat.mul_assoc, Rat.mul_assoc, ← pw_add, ← pw_add]
    congr 2
    omega
  rw [e, e2, sg_cast, ← sq_mulr]
/-- the size of the rest. -/
theorem rest_sz {w : World} {f g : Nat} {a P y : Rat} {m : Int} (hf : V f a) (hP : FV w g P) (hPs : Sz 30 P) (h0 : (m : Rat) = 0 → P = 0) (h1 : (m : Rat) ≠ 0 → 1 / 2 ≤ ab a) (ha : ab a ≤ 1048576) (hp2 : ab P ≤ 1100000) (h4 : ab (y - (a - P)) ≤ u4 * ab (a - P)) : Sz 1102 y := by
  obtain ⟨u0, u1, u2⟩ := u4_fine
  by_cases hm : (m : Rat) = 0
  · have s := hf.sz
    rw [h0 hm, show a - 0 = a by grind] at h4
    exact (s.near h4 (by grind)).mono (by omega)
  · obtain ⟨z, hz⟩ := hf.grid53 (h1 hm)
    obtain ⟨z1, hz1⟩ := grid_up hz (show 53 ≤ 432 by decide)
    obtain ⟨z2, hz2⟩ := hP.grid hPs
    have s : Sz 432 (a - P) := by
      refine Sz.grid (z := z1 - z2) (K := 432) (M := 40) ?_ ?_ (by omega) (by omega)
      · rw [Rat.intCast_sub, hz1, hz2]; grind
      · have := ab_sub a P
        have e : pw ((40 : Nat) : Int) = 1099511627776 := by decide +kernel
        rw [e]
        clear hz hz1 hz2
        grind
    exact (s.near h4 (by grind)).mono (by omega)
theorem Sz.ee {y : Rat} (h : Sz 1102 y) : ∀ k, k ≤ 100 → Sz (1118 * k + 1) (Proofs.YtcfkhhnkboealaaDoor.ee y k)
  | 0, _ => Sz.one.mono (by omega)
  | k + 1, hk => by
    have a := ((Sz.ee h k (by omega)).mul h).mul (Sz.natInv (k := k + 1) (by omega) (by omega))
    have e : Proofs.YtcfkhhnkboealaaDoor.ee y (k + 1) = Proofs.YtcfkhhnkboealaaDoor.ee y k * y * (1 / ((k + 1 : Nat) : Rat)) := by rw [ee_rat]; grind
    rw [e]
    exact a.mono (by omega)
theorem turn_tsz {y t : Rat} {k : Nat} (h : Sz 1102 y) (hk : k ≤ 70) (ht : TTm u4 y k t) : Sz 78300 t := by
  obtain ⟨u0, u1, u2⟩ := u4_fine
  have kn : (k : Rat) ≤ 70 := cast_le.2 hk
  have m := Rat.mul_le_mul_of_nonneg_right kn u0
  have e : 5 * (k : Rat) * u4 = 5 * ((k : Rat) * u4) := by grind
  exact ((Sz.ee h k (by omega)).near ht (by rw [e]; grind)).mono (by omega)
theorem turn_csz {y c : Rat} {k : Nat} (hy : ab y ≤ 8 / 10) (hk : k ≤ 70) (hc : CSm u4 y k c) : Sz 4 c := by
  obtain ⟨u0, u1, u2⟩ := u4_fine
  rcases (show k = 0 ∨ 1 ≤ k by omega) with q | q
  · left
    subst q
    unfold CSm at hc
    have e : ((0 : Nat) : Rat) = 0 := rfl
    have z : PSm y 0 = 0 := rfl
    rw [e, z, Cq.zero_re] at hc
    have := ab_le.1 hc
    grind
  · obtain ⟨a, b⟩ := (sums_range (s := 0) u0 u1 (show k < 100 by omega) hy).1 q hc
    exact Sz.between a b (by decide +kernel) (by decide +kernel) (by decide +kernel)
theorem turn_ssz {y s : Rat} {k : Nat} (h : Sz 1102 y) (hy : ab y ≤ 8 / 10) (hk : k ≤ 70) (hs : SSm u4 y k s) (h1 : k ≤ 1 → s = 0) : Sz 1107 s := by
  obtain ⟨u0, u1, u2⟩ := u4_fine
  rcases (show k ≤ 1 ∨ 2 ≤ k by omega) with q | q
  · left; exact h1 q
  · have r := (sums_range (c := 0) u0 u1 (show k < 100 by omega) hy).2 q hs
    rcases h with h | ⟨l1, l2⟩
    · left
      rw [h, show ab (0 : Rat) = 0 by decide +kernel] at r
      have := ab_le.1 r
      grind
    · right
      have e1 : pw (-((1107 : Nat) : Int)) * 32 = pw (-((1102 : Nat) : Int)) := by
        rw [show (32 : Rat) = pw 5 by decide +kernel, ← pw_add]; rfl
      have e2 : pw ((1107 : Nat) : Int) = pw ((1102 : Nat) : Int) * 32 := by
        rw [show (32 : Rat) = pw 5 by decide +kernel, ← pw_add]; rfl
      have p1 := pw_pos (-((1107 : Nat) : Int))
      have p2 := pw_pos ((1102 : Nat) : Int)
      have x1 := ab_add (s - y) y
      have x2 := ab_sub s (s - y)
      rw [show s - y + y = s by grind] at x1
      rw [show s - (s - y) = y by grind] at x2
      rw [e2]
      generalize pw (-((1107 : Nat) : Int)) = z1 at *
      generalize pw (-((1102 : Nat) : Int)) = z2 at *
      generalize pw ((1102 : Nat) : Int) = z3 at *
      constructor <;> grind
theorem turn_osz {t o : Rat} {k : Nat} (h : Sz 78300 t) (h2 : ab (o - sg4 k * t) ≤ u4 * ab t) : Sz 78301 o := by
  obtain ⟨u0, u1, _⟩ := u4_fine
  have e : ab (sg4 k * t) = ab t := by rw [ab_mul, sg4_ab, Rat.one_mul]
  have s : Sz 78300 (sg4 k * t) := by
    rcases h with q | q
    · left; rw [q, Rat.mul_zero]
    · right; rw [e]; exact q
  rw [← e] at h2
  exact s.near h2 (by grind)
end Go.Proofs.YtcfkhhnkboealaaDoor
