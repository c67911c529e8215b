/- What a float times a power of two is worth: the nearest float of it. Plain. The nearest float to a whole number by a power of two: plain. The nearest float to a quotient of whole numbers: the walk. -/
import Derived.Test.YtcfkhhnkboealaaStra
import Derived.Test.YtcfkhhnkboealaaPara
import Derived.Test.YtcfkhhnkboealaaWdc
import Derived.Test.YtcfkhhnkboealaaMida
import Derived.Deep.DeepCutAuto
import Derived.Test.YtcfkhhnkboealaaRmz
namespace Go.Proofs.Ytcfkhhnkboealaa
open Go.RowKit
set_option linter.unusedVariables false
set_option linter.unusedSimpArgs false
set_option maxRecDepth 100000
/-- the rounded figures, and their unit. -/
def nrN (a d : Nat) : Nat := if nrA a d / nrD a d < 9007199254740992 then rne (nrA a d) (nrD a d) else rne (nrA a d) (2 * nrD a d)
def nrV (a d : Nat) : Int := if nrA a d / nrD a d < 9007199254740992 then nrU a d else nrU a d + 1
theorem bl_pow (j : Nat) : bl (2 ^ j) = j + 1 := by
  unfold bl
  rw [if_neg (Nat.ne_of_gt (Nat.two_pow_pos j)), Nat.log2_two_pow]
theorem nrN_le {a d : Nat} (ha : a ≠ 0) (hd : d ≠ 0) : nrN a d ≤ 9007199254740992 := by
  have hD : 0 < nrD a d := Nat.mul_pos (Nat.pos_of_ne_zero hd) (Nat.two_pow_pos _)
  have h54 := nr_lt ha hd
  unfold nrN
  split
  · rename_i h
    apply rne_le_of hD
    rw [Nat.div_lt_iff_lt_mul hD] at h
    omega
  · apply rne_le_of (by omega)
    rw [Nat.div_lt_iff_lt_mul hD, show (2 : Nat) ^ 54 = 9007199254740992 * 2 by decide, Nat.mul_assoc] at h54
    omega
/-- a figure of 53 bits at its place. -/
theorem rnd_place {n k : Nat} (h1 : n ≤ 9007199254740992) (h2 : k = 0 ∨ 4503599627370496 ≤ n) : rndE n (k : Int) = min (k * 4503599627370496 + n) 9218868437227405312 := by
  by_cases h0 : n = 0
  · subst h0
    rw [rndE_zero]
    have : k = 0 := by omega
    subst this; decide
  · by_cases h53 : n = 9007199254740992
    · subst h53
      have hl : (9007199254740992 : Nat).log2 = 53 := (Nat.log2_eq_iff (by omega)).2 ⟨by decide, by decide⟩
      rw [rndE_form (m := 9007199254740992) (L := k + 1) (p := k) (q := k + 1) (by omega) (by rw [hl]; omega) (by omega)]
      rw [show 9007199254740992 * 2 ^ k = 4503599627370496 * 2 ^ (k + 1) by rw [Nat.pow_succ]; omega, rne_mul _ _ (Nat.two_pow_pos _), show (k + 1) * 4503599627370496 + 4503599627370496 = k * 4503599627370496 + 9007199254740992 by omega]
    · have hl : n.log2 ≤ 52 := by
        have := (Nat.log2_lt h0 (k := 53)).2 (by omega)
        omega
      have hl2 : k = 0 ∨ n.log2 = 52 := by
        rcases h2 with h2 | h2
        · exact .inl h2
        · exact .inr (log2_52 h2 (by omega))
      rw [rndE_form (m := n) (L := k) (p := k) (q := k) h0 (by omega) (by omega), rne_mul _ _ (Nat.two_pow_pos _)]
/-- THE NEAREST FLOAT of a by a power of two. -/
theorem near_pow {a j : Nat} (ha : a ≠ 0) : ∃ k : Nat, nrV a (2 ^ j) + 1074 = (k : Int) ∧ rndE (nrN a (2 ^ j)) (k : Int) = rndE a (1074 - (j : Int)) := by
  have hd : (2 : Nat) ^ j ≠ 0 := Nat.ne_of_gt (Nat.two_pow_pos j)
  have hD : 0 < nrD a (2 ^ j) := Nat.mul_pos (Nat.pos_of_ne_zero hd) (Nat.two_pow_pos _)
  have h54 := nr_lt ha hd
  have hle := nrN_le ha hd
  have l1 := Nat.log2_self_le ha
  have l2 := @Nat.lt_log2_self a
  obtain ⟨l, hl⟩ : ∃ l, a.log2 = l := ⟨_, rfl⟩
  rw [hl] at l1 l2
  have hU : nrU a (2 ^ j) = max ((l : Int) - (j : Int) - 53) (-1074) := by
    unfold nrU; rw [bl_pow]; unfold bl; rw [if_neg ha, hl]; omega
  obtain ⟨u, hu⟩ : ∃ u, nrU a (2 ^ j) = u := ⟨_, rfl⟩
  rw [hu] at hU
  have hA : nrA a (2 ^ j) = a * 2 ^ (-u).toNat := by unfold nrA; rw [hu]
  have hDD : nrD a (2 ^ j) = 2 ^ (j + u.toNat) := by unfold nrD; rw [hu, ← Nat.pow_add]
  obtain ⟨P, hP⟩ : ∃ P, P = (-u).toNat := ⟨_, rfl⟩
  obtain ⟨Q, hQ⟩ : ∃ Q, Q = j + u.toNat := ⟨_, rfl⟩
  have hA1 : 2 ^ (l + P) ≤ a * 2 ^ P := by rw [Nat.pow_add]; exact Nat.mul_le_mul_right _ l1
  have hA2 : a * 2 ^ P < 2 ^ (l + 1 + P) := by rw [Nat.pow_add]; exact Nat.mul_lt_mul_of_pos_right l2 (Nat.two_pow_pos _)
  unfold nrN at hle ⊢
  unfold nrV
  rw [hA, hDD, ← hP, ← hQ] at hle ⊢
  rw [hu]
  by_cases h : a * 2 ^ P / 2 ^ Q < 9007199254740992
  · rw [if_pos h] at hle
    rw [if_pos h, if_pos h]
    have hlow : l + P < 53 + Q := by
      rw [Nat.div_lt_iff_lt_mul (Nat.two_pow_pos _), show (9007199254740992 : Nat) = 2 ^ 53 by decide, ← Nat.pow_add] at h
      exact (Nat.pow_lt_pow_iff_right (by decide)).1 (Nat.lt_of_le_of_lt hA1 h)
    have hu2 : u = -1074 := by omega
    refine ⟨0, by omega, ?_⟩
    rw [rnd_place hle (.inl rfl)]
    rw [rndE_form (m := a) (t := 1074 - (j : Int)) (L := 0) (p := P) (q := Q) ha (by rw [hl]; omega) (by omega)]
  · rw [if_neg h] at hle
    rw [if_neg h, if_neg h]
    have hhigh : 53 + Q < l + 1 + P := by
      have h' : 9007199254740992 ≤ a * 2 ^ P / 2 ^ Q := by omega
      rw [Nat.le_div_iff_mul_le (Nat.two_pow_pos _), show (9007199254740992 : Nat) = 2 ^ 53 by decide, ← Nat.pow_add] at h'
      exact (Nat.pow_lt_pow_iff_right (by decide)).1 (Nat.lt_of_le_of_lt h' hA2)
    have hge : 4503599627370496 ≤ rne (a * 2 ^ P) (2 * 2 ^ Q) := by
      apply le_rne_of (by have := Nat.two_pow_pos Q; omega)
      have h' : 9007199254740992 ≤ a * 2 ^ P / 2 ^ Q := by omega
      rw [Nat.le_div_iff_mul_le (Nat.two_pow_pos _)] at h'
      omega
    obtain ⟨k, hk⟩ : ∃ k : Nat, u + 1 + 1074 = (k : Int) := ⟨(u + 1 + 1074).toNat, by omega⟩
    refine ⟨k, hk, ?_⟩
    rw [rnd_place hle (.inr hge)]
    rw [show 2 * 2 ^ Q = 2 ^ (Q + 1) by rw [Nat.pow_succ]; omega]
    rw [rndE_form (m := a) (t := 1074 - (j : Int)) (L := k) (p := P) (q := Q + 1) ha (by rw [hl]; omega) (by omega)]
theorem wd_false' (r : Nat) : wd false r = r := by unfold wd; exact if_neg (by decide)
theorem U_pow : U = 2 ^ e1 := by unfold U; rfl
/-- the float of figures, times their unit. -/
theorem scale_ofInt {n : Nat} (h1 : n ≤ 9007199254740992) (v : Int) : scaleF (ofInt n) v = rndE n (v + 1074) := by
  have he : (e1 : Int) = 1074 := by rw [e1_eq]; rfl
  have he2 : e1 = 1074 := e1_eq
  have hr : ofInt (n : Int) = rndN (n * 2 ^ e1) := by
    rw [ofInt_eq, show decide ((n : Int) < 0) = false from decide_eq_false (by omega)]
    rw [wd_false', show (n : Int).natAbs = n by omega, U_pow]
  rw [← he, ← rndE_shift]
  generalize hE : e1 = E at *
  by_cases h0 : n = 0
  · subst h0
    rw [Nat.zero_mul, rndE_zero, hr, Nat.zero_mul]
    have hz : rndN 0 = 0 := by unfold rndN rndQ; exact if_pos rfl
    rw [hz]
    exact scale_nought (f := 0) (by decide +kernel) (by decide +kernel) v
  · have key : rndN (n * 2 ^ E) < 9218868437227405312 ∧ mval (rndN (n * 2 ^ E)) = n * 2 ^ E := by
      by_cases h53 : n = 9007199254740992
      · have e : n * 2 ^ E = 1 * 2 ^ (53 + E) := by rw [h53, Nat.pow_add, Nat.one_mul]
        rw [e]
        exact rnd_exact (by decide) (by omega)
      · exact rnd_exact (by omega) (by omega)
    obtain ⟨h2, h3⟩ := key
    have hm : n * 2 ^ E ≠ 0 := Nat.mul_ne_zero h0 (Nat.ne_of_gt (Nat.two_pow_pos _))
    rw [hr]
    generalize rndN (n * 2 ^ E) = r at h2 h3
    have hrr : rung r = r := by unfold rung; omega
    have hs : sgn r = false := by unfold sgn; simp; omega
    rw [scale_val (by omega) (by unfold fin; rw [hrr]; simpa using h2) (by rw [hrr]; intro hz; rw [hz, mval_zero] at h3; exact hm h3.symm) v, hrr, hs, h3, wd_false']
end Go.Proofs.Ytcfkhhnkboealaa
namespace Go.Proofs.Ytcfkhhnkboealaa
open Go.RowKit
set_option linter.unusedVariables false
set_option linter.unusedSimpArgs false
set_option maxRecDepth 100000
set_option maxHeartbeats 4000000
theorem bl_len (a : Nat) : bl a ≤ 32 * (digs a).length := by
  by_cases h : a = 0
  · subst h; rw [bl_zero]; exact Nat.zero_le _
  · have h1 := bl_ge h
    have h2 := digs_lt a
    rw [show (4294967296 : Nat) = 2 ^ 32 by decide, ← Nat.pow_mul] at h2
    have h3 := (Nat.pow_lt_pow_iff_right (show 1 < 2 by decide)).1 (Nat.lt_of_le_of_lt h1 h2)
    omega
theorem digs_len_shift (a k : Nat) : (digs (a * 2 ^ k)).length ≤ (digs a).length + k := by
  apply digs_len_le
  rw [Nat.pow_add]
  exact Nat.lt_of_lt_of_le (Nat.mul_lt_mul_of_pos_right (digs_lt a) (Nat.two_pow_pos k)) (Nat.mul_le_mul_left _ (Nat.pow_le_pow_left (by decide) k))
theorem nr_odd (N : Nat) (h : N < 18446744073709551616) : bits .and .u64 (N : Int) 1 = ((N % 2 : Nat) : Int) := by
  have := u64_and_nat N 1 h (by decide)
  rw [show (1 : Nat) = 2 ^ 1 - 1 from rfl, Nat.and_two_pow_sub_one_eq_mod] at this
  exact this
/-- is the half passed, or met at an odd figure? -/
def nrM (N R D : Nat) : Bool := decide (D < 2 * R) || (D == 2 * R && N % 2 == 1)
theorem nrM_rne {A D : Nat} : A / D + (if nrM (A / D) (A % D) D then 1 else 0) = rne A D := rfl
theorem nrM_two {A D : Nat} (hD : 0 < D) : A / D / 2 + (if (A / D % 2 == 1) && (!(decide (A % D = 0)) || (A / D / 2 % 2 == 1)) then 1 else 0) = rne A (2 * D) := by
  unfold rne
  rw [Nat.mul_comm 2 D, ← Nat.div_div_eq_div_mul, Nat.mod_mul]
  have hr := Nat.mod_lt A hD
  generalize A % D = r at *
  generalize A / D = q at *
  congr 1
  rcases Nat.mod_two_eq_zero_or_one q with h | h
  · rw [h, Nat.mul_zero, Nat.add_zero]
    have h1 : ¬ D * 2 < 2 * r := by omega
    have h2 : ¬ D * 2 = 2 * r := by omega
    simp [h1, h2]
  · rw [h, Nat.mul_one]
    by_cases h0 : r = 0
    · subst h0
      have h1 : ¬ D * 2 < 2 * D := by omega
      have h2 : D * 2 = 2 * D := by omega
      simp [h1, h2]
    · have h1 : D * 2 < 2 * (r + D) := by omega
      simp [h0, h1]
theorem upW1_c {v : Value} {A : Nat} {w : World} (h : IsW w v (digs A)) (hA : (digs A).length ≤ 1000000) : Calls Try.prog 101 #[v, .int .i64 1] w (RetW (A * 2) w) := upW_c 1 h (by decide) hA
def RetNr (f : Nat) (w : World) (e : Ending) (w' : World) : Prop := ∃ r c, e = .returned (.tuple #[.float .f64 r, .bool c]) ∧ Rep r f ∧ Grown w w'
theorem nearest_c {v1 v2 : Value} {a d : Nat} {w : World} (b : Bool) (h1 : IsW w v1 (digs a)) (h2 : IsW w v2 (digs d)) (ha : a ≠ 0) (hd : d ≠ 0) (la : (digs a).length ≤ 500) (ld : (digs d).length ≤ 500) :
    Calls Try.prog 143 #[.bool b, v1, v2] w (RetNr (if b then fneg (scaleF (ofInt (nrN a d)) (nrV a d)) else scaleF (ofInt (nrN a d)) (nrV a d)) w) := by
  have H1 := Lib.hid h1
  have H2 := Lib.hid h2
  obtain ⟨L1, hL1⟩ : ∃ L, (digs a).length = L := ⟨_, rfl⟩
  have hL0 : 0 < L1 := by rw [← hL1]; exact digs_len_pos ha
  have hL1' := hL1
  have hld := ld
  rw [hL1] at la
  obtain ⟨b1, o1, c1, rfl, a1, a2, a3, a4⟩ := isW_slice h1 hL1 hL0
  have hl1 : (((L1 : Nat) : Int) == 0) = false := by rw [beq_eq_false_iff_ne]; omega
  obtain ⟨ba, hba⟩ : ∃ x, bl a = x := ⟨_, rfl⟩
  obtain ⟨bd, hbd⟩ : ∃ x, bl d = x := ⟨_, rfl⟩
  have ba1 : ba ≤ 16000 := by have := bl_len a; rw [hba] at this; omega
  have bd1 : bd ≤ 16000 := by have := bl_len d; rw [hbd] at this; omega
  have HBA := Lib.hid hba
  have HBD := Lib.hid hbd
  obtain ⟨u, hu⟩ : ∃ u, nrU a d = u := ⟨_, rfl⟩
  have hu1 : u = max ((ba : Int) - (bd : Int) - 53) (-1074) := by rw [← hu]; unfold nrU; rw [hba, hbd]
  have HU := Lib.hid hu
  have HM := Lib.hid (show (if (ba : Int) - (bd : Int) - 53 < -1074 then (-1074 : Int) else (ba : Int) - (bd : Int) - 53) = u by rw [hu1]; split <;> omega)
  have hu2 : -1074 ≤ u := by omega
  have hu3 : u ≤ 16000 := by omega
  have HLA1 := Lib.hid hL1'
  have HLD1 := Lib.hid hld
  have HAD : RowKit.Hid (0 ≤ u → nrA a d = a) := Lib.hid (fun h => by unfold nrA; rw [hu, show (-u).toNat = 0 by omega, Nat.pow_zero, Nat.mul_one])
  have HDD : RowKit.Hid (u < 0 → nrD a d = d) := Lib.hid (fun h => by unfold nrD; rw [hu, show u.toNat = 0 by omega, Nat.pow_zero, Nat.mul_one])
  have HAK : RowKit.Hid (∀ k : Nat, (k : Int) = -u → nrA a d = a * 2 ^ k) := Lib.hid (fun k hk => by unfold nrA; rw [hu]; congr 2; omega)
  have HDK : RowKit.Hid (∀ k : Nat, (k : Int) = u → nrD a d = d * 2 ^ k) := Lib.hid (fun k hk => by unfold nrD; rw [hu]; congr 2; omega)
  have hAl : (digs (nrA a d)).length ≤ 100000 := by
    unfold nrA; rw [hu]; have := digs_len_shift a (-u).toNat; omega
  have hD0 : nrD a d ≠ 0 := Nat.mul_ne_zero hd (Nat.ne_of_gt (Nat.two_pow_pos _))
  have hN54 := nr_lt ha hd
  have hNle := nrN_le ha hd
  obtain ⟨F, hF⟩ : ∃ F, nrN a d = F := ⟨_, rfl⟩
  obtain ⟨V, hV⟩ : ∃ V, nrV a d = V := ⟨_, rfl⟩
  have hF1 := hF
  have hV1 := hV
  rw [hF] at hNle
  unfold nrN at hF1
  unfold nrV at hV1
  rw [hF, hV]
  rw [hu] at hV1
  obtain ⟨A, hA⟩ : ∃ A, nrA a d = A := ⟨_, rfl⟩
  obtain ⟨D, hD⟩ : ∃ D, nrD a d = D := ⟨_, rfl⟩
  rw [hA, hD] at hF1 hN54
  rw [hA, hD] at hV1
  rw [hA] at hAl HAD HAK
  rw [hD] at hD0 HDD HDK
  obtain ⟨N, hN⟩ : ∃ N, A / D = N := ⟨_, rfl⟩
  obtain ⟨R, hR⟩ : ∃ R, A % D = R := ⟨_, rfl⟩
  have hRD : R < D := by rw [← hR]; exact Nat.mod_lt _ (Nat.pos_of_ne_zero hD0)
  have hDl : (digs D).length ≤ 1000000 := by
    rw [← hD]; unfold nrD; rw [hu]; have := digs_len_shift d u.toNat; omega
  have HRL := Lib.hid (show (digs R).length ≤ 1000000 from Nat.le_trans (digs_mono (Nat.le_of_lt hRD)) hDl)
  have hone : N + (if nrM N R D then 1 else 0) = rne A D := by rw [← hN, ← hR]; exact nrM_rne
  have htwo : N / 2 + (if (N % 2 == 1) && (!(decide (R = 0)) || (N / 2 % 2 == 1)) then 1 else 0) = rne A (2 * D) := by rw [← hN, ← hR]; exact nrM_two (Nat.pos_of_ne_zero hD0)
  rw [hN] at hF1 hV1 hN54
  rw [← hone, ← htwo] at hF1
  have hN64 : N < 18446744073709551616 := Nat.lt_trans hN54 (by decide)
  obtain ⟨c, hc⟩ : ∃ c, cmpI (R * 2) D = c := ⟨_, rfl⟩
  have HC := Lib.hid hc
  have HC3 : RowKit.Hid ((c = 1 ∧ nrM N R D = true) ∨ (c = 0 ∧ nrM N R D = (N % 2 == 1)) ∨ (c = -1 ∧ nrM N R D = false)) := Lib.hid (by
    rw [← hc]; unfold cmpI nrM
    rcases Nat.lt_trichotomy (R * 2) D with h | h | h
    · right; right
      have h1 : ¬ D < 2 * R := by omega
      have h2 : ¬ D = 2 * R := by omega
      simp [h, h1, h2]
    · right; left
      have h1 : ¬ D < 2 * R := by omega
      have h2 : D = 2 * R := by omega
      have h3 : ¬ R * 2 < D := by omega
      have h4 : ¬ D < R * 2 := by omega
      simp [h3, h4, h1]
      omega
    · left
      have h1 : D < 2 * R := by omega
      have h3 : ¬ R * 2 < D := by omega
      simp [h, h3, h1])
  have HN := Lib.hid hN
  have HR := Lib.hid hR
  have HN64 := Lib.hid hN64
  have HF1 := Lib.hid hF1
  have HV1 := Lib.hid hV1
  have HFl := Lib.hid hNle
  have HAL := Lib.hid hAl
  have HD0 := Lib.hid hD0
  have HN54 := Lib.hid hN54
  obtain ⟨z, hz⟩ : ∃ z, decide (R = 0) = z := ⟨_, rfl⟩
  have HZ := Lib.hid hz
  have hz1 : ((((digs R).length : Nat) : Int) == 0) = z := by
    rw [← hz]
    by_cases e : R = 0
    · rw [e, digs_zero]; rfl
    · have := digs_len_pos e
      rw [decide_eq_false e, beq_eq_false_iff_ne]; omega
  clear hba hbd hu hu1 hL1 hL1' ha hd h1 h2 hld ld hAl hD0 hN54 hNle hF hV hF1 hV1 hA hD hN hR hRD hDl hone htwo hN64 hc hz
  go_enter Try.func143, Try.ntmps143
  go_upto_if 28 with (first
    | (go_at_call 167; (with_reducible refine (bitLen_c H1.out).mono ?_); rw [HBA.out]; rintro e w1 ⟨n1, rfl, rfl⟩)
    | (go_at_call 167; (with_reducible refine (bitLen_c (H2.out.drewN _)).mono ?_); rw [HBD.out]; rintro e w' ⟨n2, rfl, rfl⟩)
    | fail)
  rw [HM.out]
  go_cut [1, 2, 8] (fun s1 s2 s8 wx => IsW wx s1 (digs A) ∧ IsW wx s2 (digs D) ∧ s8 = .int .i64 u ∧ Grown w wx)
  case first =>
    rcases Int.lt_or_le u 0 with hneg | hpos
    · obtain ⟨k, hk⟩ : ∃ k : Nat, (k : Int) = -u := ⟨(-u).toNat, by omega⟩
      have HK := Lib.hid (HAK.out k hk)
      have HDe := Lib.hid (HDD.out hneg)
      go_wp2_with (first
        | (go_at_call 101; rw [← hk]; go_loud ((with_reducible refine (upW_c k (H1.out.drewN _) (by omega) (by rw [HLA1.out]; omega)).mono ?_); rw [← HK.out]; rintro e w2 ⟨va, rfl, hva, hga⟩; have HVA := Lib.hid hva; have HGA := Lib.hid (gr_trans (gr_drewN _ (Grown.refl w)) hga); clear hva hga))
        | fail)
      go_meet
      exact ⟨HVA.out, by rw [HDe.out]; exact H2.out.grown HGA.out, rfl, HGA.out⟩
    · obtain ⟨k, hk⟩ : ∃ k : Nat, (k : Int) = u := ⟨u.toNat, by omega⟩
      have HK := Lib.hid (HDK.out k hk)
      have HAe := Lib.hid (HAD.out hpos)
      have hneg : ¬ u < 0 := by omega
      go_wp2_with (first
        | (go_at_call 101; rw [← hk]; go_loud ((with_reducible refine (upW_c k (H2.out.drewN _) (by omega) (Nat.le_trans HLD1.out (by decide))).mono ?_); rw [← HK.out]; rintro e w2 ⟨va, rfl, hva, hga⟩; have HVA := Lib.hid hva; have HGA := Lib.hid (gr_trans (gr_drewN _ (Grown.refl w)) hga); clear hva hga))
        | fail)
      go_meet
      exact ⟨by rw [HAe.out]; exact H1.out.grown HGA.out, HVA.out, rfl, HGA.out⟩
  case rest =>
    obtain ⟨hA, hD, rfl, hG⟩ := hcut
    have HA := Lib.hid hA
    have HDv := Lib.hid hD
    have HG := Lib.hid hG
    clear hA hD hG
    go_upto_region 10 with (first
      | (go_at_call 150; go_loud ((with_reducible refine (div_c HA.out HDv.out HD0.out HAL.out).mono ?_); rw [HN.out, HR.out]; rintro e w3 ⟨vq, vr, rfl, hvq, hvr, hgq⟩; have HVQ := Lib.hid hvq; have HVR := Lib.hid hvr; have HGQ := Lib.hid hgq; clear hgq hvq; obtain ⟨sr, cr, rfl, _, _, _⟩ := hvr))
      | (go_at_call 168; go_loud ((with_reducible refine (toUint_c HVQ.out HN64.out).mono ?_); rintro e w4 ⟨n4, rfl, rfl⟩))
      | (go_at_call 101; go_loud ((with_reducible refine (upW1_c (HVR.out.drewN _) HRL.out).mono ?_); rintro e w5 ⟨v5, rfl, hv5, hg5⟩; have HV5 := Lib.hid hv5; have HG5 := Lib.hid (gr_trans (gr_drewN _ HGQ.out) hg5); clear hv5 hg5))
      | (go_at_call 95; go_loud ((with_reducible refine (cmp_c HV5.out (HDv.out.grown HG5.out)).mono ?_); rw [HC.out]; rintro e w6 ⟨n6, rfl, rfl⟩))
      | fail)
    have HGG : RowKit.Hid (Grown w w5) := Lib.hid (gr_trans HG.out HG5.out)
    go_cut [13] (fun s13 wx => s13 = .bool (nrM N R D) ∧ Grown w wx)
    case first =>
      rcases HC3.out with ⟨rfl, h⟩ | ⟨rfl, h⟩ | ⟨rfl, h⟩
      · have HH := Lib.hid h
        clear h
        go_wp2_with fail
        go_meet
        exact ⟨by rw [HH.out], gr_drewN _ HGG.out⟩
      · have HH := Lib.hid h
        clear h
        have hb := nr_odd N HN64.out
        rcases Nat.mod_two_eq_zero_or_one N with hp | hp
        all_goals
          rw [hp] at hb
          have HP := Lib.hid hp
          clear hp
          go_wp2_with fail
          go_meet
          exact ⟨by rw [HH.out, HP.out]; rfl, gr_drewN _ HGG.out⟩
      · have HH := Lib.hid h
        clear h
        go_wp2_with fail
        go_meet
        exact ⟨by rw [HH.out], gr_drewN _ HGG.out⟩
    case rest =>
      obtain ⟨rfl, hG2⟩ := hcut
      have HG2 := Lib.hid hG2
      clear hG2
      obtain ⟨m, hm⟩ : ∃ m, nrM N R D = m := ⟨_, rfl⟩
      have HMM := Lib.hid hm
      rw [hm]
      clear hm
      go_upto_if 63 with fail
      go_cut [8, 11, 13, 14] (fun s8 s11 s13 s14 wx => ∃ (n1 : Nat) (m1 z1 : Bool), s8 = .int .i64 V ∧ s11 = .int .u64 (n1 : Int) ∧ s13 = .bool m1 ∧ s14 = .bool z1 ∧ n1 + (if m1 then 1 else 0) = F ∧ n1 ≤ 9007199254740992 ∧ Grown w wx)
      case first =>
        have hb := nr_odd N HN64.out
        rcases Nat.lt_or_ge N 9007199254740992 with hlt | hge
        · have g53 : decide ((9007199254740992 : Int) ≤ (N : Int)) = false := decide_eq_false (by omega)
          rw [g53]
          have HLT := Lib.hid hlt
          clear hb hlt g53
          go_wp2_with fail
          go_meet
          exact ⟨N, m, z, by rw [← HV1.out, if_pos HLT.out], rfl, rfl, rfl, by rw [← HF1.out, if_pos HLT.out, HMM.out], Nat.le_of_lt HLT.out, HG2.out⟩
        · have g53 : decide ((9007199254740992 : Int) ≤ (N : Int)) = true := decide_eq_true (by omega)
          rw [g53]
          clear g53
          have hb2 := nr_odd (N / 2) (by have := HN64.out; omega)
          have e2 : (((N / 2 : Nat)) : Int) = (N : Int) / 2 := by omega
          rw [e2] at hb2
          have HGE := Lib.hid (show ¬ N < 9007199254740992 by omega)
          have HE2 := Lib.hid e2
          clear hge e2
          have hf := HF1.out
          have hv := HV1.out
          rw [if_neg HGE.out] at hf hv
          have hle : N / 2 ≤ 9007199254740992 := by have := HN54.out; omega
          rw [show decide (R = 0) = z from HZ.out] at hf
          have HF2 := Lib.hid hf
          have HV2 := Lib.hid hv
          have HLE := Lib.hid hle
          clear hf hv hle
          rcases Nat.mod_two_eq_zero_or_one N with hp | hp
          · rw [hp] at hb
            have HP := Lib.hid hp
            clear hp hb2
            cases z
            all_goals
              go_wp2_with fail
              go_meet
              exact ⟨N / 2, false, _, by rw [HV2.out], congrArg (Value.int .u64) HE2.out.symm, rfl, rfl, by rw [← HF2.out, HP.out]; rfl, HLE.out, HG2.out⟩
          · rw [hp] at hb
            have HP := Lib.hid hp
            clear hp
            cases z
            · clear hb2
              go_wp2_with fail
              go_meet
              exact ⟨N / 2, true, _, by rw [HV2.out], congrArg (Value.int .u64) HE2.out.symm, rfl, rfl, by rw [← HF2.out, HP.out]; rfl, HLE.out, HG2.out⟩
            · rcases Nat.mod_two_eq_zero_or_one (N / 2) with hq | hq
              all_goals
                rw [hq] at hb2
                have HQ := Lib.hid hq
                clear hq
                go_wp2_with fail
                go_meet
                exact ⟨N / 2, _, _, by rw [HV2.out], congrArg (Value.int .u64) HE2.out.symm, rfl, rfl, by rw [← HF2.out, HP.out, HQ.out]; rfl, HLE.out, HG2.out⟩
      case rest =>
        obtain ⟨n1, m1, z1, rfl, rfl, rfl, rfl, hF, hn, hG⟩ := hcut
        have HG3 := Lib.hid hG
        have HFF := Lib.hid hF
        have hn' : (n1 : Int) ≤ 9007199254740992 := by omega
        clear hG hF hn
        go_upto_if 86 with fail
        go_cut [11] (fun s11 wx => s11 = .int .u64 (F : Int) ∧ Grown w wx)
        case first =>
          cases m1
          · go_wp2_with fail
            go_meet
            exact ⟨by rw [← HFF.out]; rfl, HG3.out⟩
          · go_wp2_with fail
            go_meet
            exact ⟨by rw [← HFF.out]; rfl, HG3.out⟩
        case rest =>
          obtain ⟨rfl, hG⟩ := hcut
          have HG4 := Lib.hid hG
          have hV1 : -100000 ≤ V := by have := HV1.out; split at this <;> omega
          have hV2 : V ≤ 100000 := by have := HV1.out; split at this <;> omega
          clear hG hn'
          cases b <;> cases z1
          all_goals
            go_wp2_with (first
              | (go_at_call 47; (with_reducible refine (ldexpW_c (ofInt_rep _) _ _ hV1 hV2).mono ?_); rintro e w7 ⟨r, n7, rfl, hr, rfl⟩)
              | (go_at_call 104; (with_reducible refine (isInf_c (by first | exact hr | exact hr.neg) _ _).mono ?_); rintro e w8 ⟨n8, rfl, rfl⟩)
              | fail)
            go_ret2
            exact ⟨_, _, rfl, by first | exact hr | exact hr.neg, HG4.out⟩
end Go.Proofs.Ytcfkhhnkboealaa
