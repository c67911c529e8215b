/- Fractions: of floats, and how they compare. -/
import Derived.Test.YtcfkhhnkboealaaRat2
namespace Go.Proofs.Ytcfkhhnkboealaa
open Go.RowKit
set_option linter.unusedVariables false
set_option linter.unusedSimpArgs false
set_option maxRecDepth 100000
set_option maxHeartbeats 4000000
theorem U_split {e : Nat} (h : e ≤ 1074) : U = 2 ^ (1074 - e) * 2 ^ e := by
  rw [← Nat.pow_add, show 1074 - e + e = e1 by rw [e1_eq]; omega]; rfl
theorem isW_one (w : World) (t : TypeId) : IsW (w.alloc (.cells #[.int .u32 1] t)) (.slice (some ⟨w.heap.size, 0, none⟩) 1 1) (digs 1) := isW_new1 w 1 t
theorem one_len : (digs 1).length ≤ 50000 := by decide
theorem one_ne : (1 : Nat) ≠ 0 := by decide
theorem rsetf_c {g f : Nat} {w : World} (hz : RatZ w g) (hl : f < 18446744073709551616) (hf : fin f = true) :
    Calls Try.prog 90 #[.pointer (some ⟨g, 0, none⟩), .float .f64 f] w (fun e w' => ∃ w1, Grown w w1 ∧ RetR g (sval f) U w1 e w') := by
  have HZ := Lib.hid hz
  have h1 := exp_bits f hl
  have h2 := mant_bits f hl
  have hs : (((f : Int) / 9223372036854775808) == 1) = sgn f := shr_sign f hl
  have hr : rung f / 4503599627370496 = f / 4503599627370496 % 2048 := (exp_field hl).symm
  have hm : rung f % 4503599627370496 = f % 4503599627370496 := (mant_field f).symm
  have hfr := fin_rung hf
  have hv : mval (rung f) = if rung f < 4503599627370496 then rung f else (4503599627370496 + rung f % 4503599627370496) * 2 ^ (rung f / 4503599627370496 - 1) := rfl
  have hsv : sval f = sg (sgn f) (mval (rung f)) := by unfold sval sg; rfl
  obtain ⟨E, he⟩ : ∃ e, f / 4503599627370496 % 2048 = e := ⟨_, rfl⟩
  obtain ⟨m, hm2⟩ : ∃ m, f % 4503599627370496 = m := ⟨_, rfl⟩
  rw [he] at h1 hr
  rw [hm2] at h2 hm
  have hmb : m < 4503599627370496 := by omega
  have he2 : E < 2047 := by omega
  have HB1 := Lib.hid h1
  have HB2 := Lib.hid h2
  have HS := Lib.hid hs
  -- the figures and their power
  obtain ⟨M, e, hM, hMe, he3, hval⟩ : ∃ M e : Nat, M < 18014398509481984 ∧ (E = 0 ∧ M = m ∧ e = 0 ∨ E ≠ 0 ∧ M = 4503599627370496 + m ∧ e + 1 = E) ∧ e ≤ 2045 ∧ mval (rung f) = M * 2 ^ e := by
    by_cases h0 : E = 0
    · exact ⟨m, 0, by omega, .inl ⟨h0, rfl, rfl⟩, by omega, by rw [hv, if_pos (by omega), Nat.pow_zero, Nat.mul_one]; omega⟩
    · exact ⟨4503599627370496 + m, E - 1, by omega, .inr ⟨h0, rfl, by omega⟩, by omega, by rw [hv, if_neg (by omega), hm, hr]⟩
  have HB3 : RowKit.Hid (bits .or .u64 (m : Int) 4503599627370496 = ((4503599627370496 + m : Nat) : Int)) := Lib.hid (lead_bits m hmb)
  have HX : RowKit.Hid (∀ (e' : Ending) (w1 w' : World), (1074 ≤ e → RetR g (sg (sgn f) (M * 2 ^ (e - 1074))) 1 w1 e' w' → RetR g (sval f) U w1 e' w') ∧ (∀ K, K + e = 1074 → RetR g (sg (sgn f) M) (1 * 2 ^ K) w1 e' w' → RetR g (sval f) U w1 e' w')) := Lib.hid (by
    intro e' w1 w'
    constructor
    · intro h k
      refine (k.scale (c := U) (Nat.ne_of_gt U_pos)).eq ?_ (Nat.one_mul _)
      rw [hsv, hval]
      have : M * 2 ^ (e - 1074) * U = M * 2 ^ e := by rw [U_pow, Nat.mul_assoc, ← Nat.pow_add, e1_eq, show e - 1074 + 1074 = e by omega]
      rw [← this]
      unfold sg
      cases sgn f <;> simp [Int.natCast_mul, Int.neg_mul]
    · intro K h k
      refine (k.scale (c := 2 ^ e) (Nat.ne_of_gt (Nat.two_pow_pos e))).eq ?_ ?_
      · rw [hsv, hval]
        unfold sg
        cases sgn f <;> simp [Int.natCast_mul, Int.neg_mul]
      · rw [Nat.one_mul, U_split (e := e) (by omega), show 1074 - e = K by omega])
  have lM : (digs M).length ≤ 2 := digs_len_le (by rw [show (4294967296 : Nat) ^ 2 = 18446744073709551616 by decide]; omega)
  have HMU := Lib.hid (fun W => fromUint_c M (by omega) W)
  clear h1 h2 hs hr hm hfr hv hsv hm2 hval hz hl hf he
  have hM64 : M < 18446744073709551616 := by omega
  rcases (show (E = 0 ∧ M = m ∧ e = 0) ∨ (E ≠ 0 ∧ M = 4503599627370496 + m ∧ e + 1 = E ∧ e < 1074) ∨ (E ≠ 0 ∧ M = 4503599627370496 + m ∧ e + 1 = E ∧ 1074 ≤ e) by omega) with ⟨rfl, rfl, rfl⟩ | ⟨hE, hMm, hE1, he4⟩ | ⟨hE, hMm, hE1, he4⟩
  · obtain ⟨K, hK⟩ : ∃ K : Nat, K = 1074 := ⟨1074, rfl⟩
    have hKi : (1074 : Int) = (K : Int) := by omega
    have HKI := Lib.hid hKi
    have HXK := Lib.hid (fun e' w1 w' => (HX.out e' w1 w').2 K (by omega))
    have HD1 := Lib.hid (show (1 : Nat) * 2 ^ K ≠ 0 from Nat.mul_ne_zero (by decide) (Nat.ne_of_gt (Nat.two_pow_pos _)))
    have HLD := Lib.hid (show (digs (1 * 2 ^ K)).length ≤ 50000 from Nat.le_trans (digs_len_pow (A := 1) (k := K) (m := 40) (by have : bl 1 = 1 := rfl; omega)) (by decide))
    have hK2 : K ≤ 100000 := by omega
    clear hKi hK HX
    go_enter Try.func90, Try.ntmps90
    go_wp2_with (first
      | (simp only [HB1.out, HB2.out])
      | (go_at_call 142; (with_reducible refine (HMU.out _).mono ?_); rintro e1 w1 ⟨v1, rfl, hv1, hg1⟩; have HV1 := Lib.hid hv1; have HG1 := Lib.hid hg1; clear hv1 hg1)
      | (go_at_call 101; go_loud (rw [HKI.out]; (with_reducible refine (upW_c (A := 1) K (isW_one w1 _) hK2 (by decide)).mono ?_)); rintro e2 w2 ⟨v2, rfl, hv2, hg2⟩; have HV2 := Lib.hid hv2; have HG2 := Lib.hid (gr_trans ((Grown.refl w1).alloc _ _) hg2); clear hv2 hg2)
      | (go_at_call 103; go_loud ((with_reducible refine (rset_c (HZ.out.grown (gr_trans HG1.out HG2.out)) (HV1.out.grown HG2.out) HV2.out HD1.out (Nat.le_trans lM (by decide)) HLD.out).mono ?_); rintro e4 w4 ⟨rfl, hr, hg⟩))
      | fail)
    go_ret
    rw [HS.out] at hr
    exact ⟨w2, gr_trans HG1.out HG2.out, HXK.out _ _ _ ⟨rfl, hr, hg⟩⟩
  · obtain ⟨K, hK⟩ : ∃ K : Nat, K + e = 1074 := ⟨1074 - e, by omega⟩
    have HKI := Lib.hid (show (1075 : Int) - (E : Int) = (K : Int) from by omega)
    have HXK := Lib.hid (fun e' w1 w' => (HX.out e' w1 w').2 K hK)
    have HD1 := Lib.hid (show (1 : Nat) * 2 ^ K ≠ 0 from Nat.mul_ne_zero (by decide) (Nat.ne_of_gt (Nat.two_pow_pos _)))
    have HLD := Lib.hid (show (digs (1 * 2 ^ K)).length ≤ 50000 from Nat.le_trans (digs_len_pow (A := 1) (k := K) (m := 40) (by have : bl 1 = 1 := rfl; omega)) (by decide))
    have hK2 : K ≤ 100000 := by omega
    rw [← hMm] at HB3
    have hE2 : (0 : Int) < (E : Int) := by omega
    have hE3 : ¬ (1075 : Int) ≤ (E : Int) := by omega
    clear hK HX hMm
    go_enter Try.func90, Try.ntmps90
    go_wp2_with (first
      | (simp only [HB1.out, HB2.out, HB3.out])
      | (go_at_call 142; (with_reducible refine (HMU.out _).mono ?_); rintro e1 w1 ⟨v1, rfl, hv1, hg1⟩; have HV1 := Lib.hid hv1; have HG1 := Lib.hid hg1; clear hv1 hg1)
      | (go_at_call 101; go_loud (rw [HKI.out]; (with_reducible refine (upW_c (A := 1) K (isW_one w1 _) hK2 (by decide)).mono ?_)); rintro e2 w2 ⟨v2, rfl, hv2, hg2⟩; have HV2 := Lib.hid hv2; have HG2 := Lib.hid (gr_trans ((Grown.refl w1).alloc _ _) hg2); clear hv2 hg2)
      | (go_at_call 103; go_loud ((with_reducible refine (rset_c (HZ.out.grown (gr_trans HG1.out HG2.out)) (HV1.out.grown HG2.out) HV2.out HD1.out (Nat.le_trans lM (by decide)) HLD.out).mono ?_); rintro e4 w4 ⟨rfl, hr, hg⟩))
      | fail)
    go_ret
    rw [HS.out] at hr
    exact ⟨w2, gr_trans HG1.out HG2.out, HXK.out _ _ _ ⟨rfl, hr, hg⟩⟩
  · obtain ⟨K, hK⟩ : ∃ K : Nat, K = e - 1074 := ⟨e - 1074, rfl⟩
    have HKI := Lib.hid (show (E : Int) - 1075 = (K : Int) from by omega)
    have HXK := Lib.hid (fun e' w1 w' => (HX.out e' w1 w').1 he4)
    rw [← hK] at HXK
    have HLD := Lib.hid (show (digs (M * 2 ^ K)).length ≤ 50000 from Nat.le_trans (digs_len_shift _ _) (by omega))
    have hK2 : K ≤ 100000 := by omega
    rw [← hMm] at HB3
    have hE2 : (0 : Int) < (E : Int) := by omega
    have hE3 : (1075 : Int) ≤ (E : Int) := by omega
    clear hK HX hMm
    go_enter Try.func90, Try.ntmps90
    go_wp2_with (first
      | (simp only [HB1.out, HB2.out, HB3.out])
      | (go_at_call 142; (with_reducible refine (HMU.out _).mono ?_); rintro e1 w1 ⟨v1, rfl, hv1, hg1⟩; have HV1 := Lib.hid hv1; have HG1 := Lib.hid hg1; clear hv1 hg1)
      | (go_at_call 101; rw [HKI.out]; (with_reducible refine (upW_c K (HV1.out.grown ((Grown.refl w1).alloc _ _)) hK2 (Nat.le_trans lM (by decide))).mono ?_); rintro e2 w2 ⟨v2, rfl, hv2, hg2⟩; have HV2 := Lib.hid hv2; have HG2 := Lib.hid (gr_trans ((Grown.refl w1).alloc _ _) hg2); have HD1 := Lib.hid ((isW_one w1 153).grown hg2); clear hv2 hg2)
      | (go_at_call 103; go_loud ((with_reducible refine (rset_c (HZ.out.grown (gr_trans HG1.out HG2.out)) HV2.out HD1.out one_ne HLD.out one_len).mono ?_); rintro e4 w4 ⟨rfl, hr, hg⟩))
      | fail)
    go_ret
    rw [HS.out] at hr
    exact ⟨w2, gr_trans HG1.out HG2.out, HXK.out _ _ _ ⟨rfl, hr, hg⟩⟩
def RetIG (i : Int) (w : World) (e : Ending) (w' : World) : Prop := e = .returned (.int .i64 i) ∧ Grown w w'
/-- how two fractions compare. -/
def cmpQ (n1 : Int) (d1 : Nat) (n2 : Int) (d2 : Nat) : Int := if n1 * d2 < n2 * d1 then -1 else if n2 * d1 < n1 * d2 then 1 else 0
def sgI (n : Int) : Int := if n < 0 then -1 else if 0 < n then 1 else 0
theorem cmpQ_sign {n1 n2 : Int} {d1 d2 : Nat} (h1 : d1 ≠ 0) (h2 : d2 ≠ 0) (h : sgI n1 ≠ sgI n2 ∨ sgI n1 = 0) : cmpQ n1 d1 n2 d2 = (if sgI n1 < sgI n2 then -1 else if sgI n2 < sgI n1 then 1 else 0) := by
  have k1 : (0 : Int) < d1 := by omega
  have k2 : (0 : Int) < d2 := by omega
  unfold cmpQ
  unfold sgI at *
  rcases Int.lt_trichotomy n1 0 with a | a | a <;> rcases Int.lt_trichotomy n2 0 with b | b | b
  · simp [a, b] at h
  · subst b; have := Int.mul_neg_of_neg_of_pos a k2; simp [a, this]
  · have p := Int.mul_neg_of_neg_of_pos a k2; have q := Int.mul_pos b k1
    have e2 : ¬ n2 < 0 := by omega
    have e3 : n1 * d2 < n2 * d1 := by omega
    simp [a, b, e2, e3]
  · subst a; have := Int.mul_neg_of_neg_of_pos b k1; simp [b]; omega
  · subst a b; simp
  · subst a; have := Int.mul_pos b k1; simp [b, this]; omega
  · have p := Int.mul_neg_of_neg_of_pos b k1; have q := Int.mul_pos a k2
    have e1 : ¬ n1 < 0 := by omega
    have e3 : n2 * d1 < n1 * d2 := by omega
    have e4 : ¬ n1 * d2 < n2 * d1 := by omega
    simp [a, b, e1, e3, e4]
  · subst b; have := Int.mul_pos a k2; simp [a, this]; omega
  · have e1 : ¬ n1 < 0 := by omega
    have e2 : ¬ n2 < 0 := by omega
    simp [a, b, e1, e2] at h
theorem cmpQ_abs {n1 n2 : Int} {d1 d2 N1 N2 D1 D2 : Nat} {b1 b2 : Bool} (h1 : RatV n1 d1 b1 N1 D1) (h2 : RatV n2 d2 b2 N2 D2) (h : sgI n1 = sgI n2) (h0 : sgI n1 ≠ 0) : cmpQ n1 d1 n2 d2 = (if b1 then -cmpI (N1 * dd D2) (N2 * dd D1) else cmpI (N1 * dd D2) (N2 * dd D1)) ∧ b1 = decide (n1 < 0) := by
  obtain ⟨k, k0, e1, e2⟩ := h1.ex
  obtain ⟨m, m0, f1, f2⟩ := h2.ex
  have kp : (0 : Int) < k := by omega
  have mp : (0 : Int) < m := by omega
  have km : (0 : Int) < (k : Int) * m := Int.mul_pos kp mp
  have hs1 : b1 = decide (n1 < 0) := by
    rw [e2]
    unfold sg
    cases b1
    · have := Int.mul_nonneg (Int.le_of_lt kp) (show (0 : Int) ≤ N1 by omega)
      simp; omega
    · have : N1 ≠ 0 := fun e => by have := h1.nz e; cases this
      have := Int.mul_pos kp (show (0 : Int) < N1 by omega)
      simp [Int.mul_neg]; omega
  have hs2 : b2 = decide (n2 < 0) := by
    rw [f2]
    unfold sg
    cases b2
    · have := Int.mul_nonneg (Int.le_of_lt mp) (show (0 : Int) ≤ N2 by omega)
      simp; omega
    · have : N2 ≠ 0 := fun e => by have := h2.nz e; cases this
      have := Int.mul_pos mp (show (0 : Int) < N2 by omega)
      simp [Int.mul_neg]; omega
  have hb : b1 = b2 := by
    rw [hs1, hs2]
    unfold sgI at h h0
    by_cases a : n1 < 0 <;> by_cases b : n2 < 0 <;> simp [a, b] at h ⊢
    · split at h <;> omega
    · split at h <;> omega
  refine ⟨?_, hs1⟩
  have g1 : n1 * d2 = (k * m) * (sg b1 N1 * dd D2) := by rw [e2, f1, Int.natCast_mul]; ac_rfl
  have g2 : n2 * d1 = (k * m) * (sg b1 N2 * dd D1) := by rw [f2, e1, hb, Int.natCast_mul]; ac_rfl
  have c1 : ∀ x y : Int, ((k : Int) * m * x < k * m * y) ↔ x < y := fun x y => ⟨fun h => Int.lt_of_mul_lt_mul_left h (Int.le_of_lt km), fun h => Int.mul_lt_mul_of_pos_left h km⟩
  unfold cmpQ
  rw [g1, g2]
  simp only [c1]
  unfold cmpI sg
  have x1 : ((N1 : Int) * (dd D2 : Nat)) = ((N1 * dd D2 : Nat) : Int) := (Int.natCast_mul _ _).symm
  have x2 : ((N2 : Int) * (dd D1 : Nat)) = ((N2 * dd D1 : Nat) : Int) := (Int.natCast_mul _ _).symm
  cases b1
  · simp only [Bool.false_eq_true, if_false, x1, x2, Int.ofNat_lt]
  · simp only [if_true, Int.neg_mul, x1, x2]
    generalize N1 * dd D2 = P
    generalize N2 * dd D1 = R
    split <;> split <;> (try split) <;> (try split) <;> omega
theorem rcmp_c {gx gy d1 d2 : Nat} {n1 n2 : Int} {w : World} (hx : RatAt w gx n1 d1) (hy : RatAt w gy n2 d2)
    (ln1 : (digs n1.natAbs).length ≤ 10000) (ld1 : (digs d1).length ≤ 10000) (ln2 : (digs n2.natAbs).length ≤ 10000) (ld2 : (digs d2).length ≤ 10000) :
    Calls Try.prog 25 #[.pointer (some ⟨gx, 0, none⟩), .pointer (some ⟨gy, 0, none⟩)] w (RetIG (cmpQ n1 d1 n2 d2) w) := by
  have HS1 := Lib.hid (fun (W : World) (hg : Grown w W) => rsign_c (hx.grown hg))
  have HS2 := Lib.hid (fun (W : World) (hg : Grown w W) => rsign_c (hy.grown hg))
  obtain ⟨bx, vx1, vx2, Nx, Dx, hx1, hx2, hx3, hx4⟩ := hx
  obtain ⟨by', vy1, vy2, Ny, Dy, hy1, hy2, hy3, hy4⟩ := hy
  have lNx : (digs Nx).length ≤ 10000 := Nat.le_trans (digs_mono hx4.le.1) ln1
  have lDx : (digs (dd Dx)).length ≤ 10000 := Nat.le_trans (digs_mono hx4.le.2) ld1
  have lNy : (digs Ny).length ≤ 10000 := Nat.le_trans (digs_mono hy4.le.1) ln2
  have lDy : (digs (dd Dy)).length ≤ 10000 := Nat.le_trans (digs_mono hy4.le.2) ld2
  have HX1 := Lib.hid hx1
  have HX2 := Lib.hid hx2
  have HX3 := Lib.hid hx3
  have HY1 := Lib.hid hy1
  have HY2 := Lib.hid hy2
  have HY3 := Lib.hid hy3
  have HD1 := hx4.dne
  have HD2 := hy4.dne
  obtain ⟨s1, hs1⟩ : ∃ s, sgI n1 = s := ⟨_, rfl⟩
  obtain ⟨s2, hs2⟩ : ∃ s, sgI n2 = s := ⟨_, rfl⟩
  have HE1 := Lib.hid hs1
  have HE2 := Lib.hid hs2
  obtain ⟨R, hR⟩ : ∃ R, cmpQ n1 d1 n2 d2 = R := ⟨_, rfl⟩
  rw [hR]
  have b1 : s1 = -1 ∨ s1 = 0 ∨ s1 = 1 := by rw [← hs1]; unfold sgI; split <;> (try split) <;> omega
  have b2 : s2 = -1 ∨ s2 = 0 ∨ s2 = 1 := by rw [← hs2]; unfold sgI; split <;> (try split) <;> omega
  by_cases h : s1 ≠ s2 ∨ s1 = 0
  · have HRR : RowKit.Hid ((if s1 < s2 then -1 else if s2 < s1 then 1 else 0) = R) := Lib.hid (by
      rw [← hR, cmpQ_sign HD1 HD2 (by rw [hs1, hs2]; exact h), hs1, hs2])
    clear hx1 hx2 hx3 hx4 hy1 hy2 hy3 hy4 hs1 hs2 hR HD1 HD2
    rcases b1 with rfl | rfl | rfl <;> rcases b2 with rfl | rfl | rfl <;> simp at h
    all_goals
      go_enter Try.func25, Try.ntmps25
      go_wp2_with (first
        | (go_at_call_of 43 (Value.pointer (some (Addr.mk gx 0 none))); (with_reducible refine (HS1.out _ (by first | exact Grown.refl _ | exact gr_drewN _ (Grown.refl _))).mono ?_); rw [show (if n1 < 0 then (-1 : Int) else if 0 < n1 then 1 else 0) = _ from HE1.out]; rintro e w' ⟨m1, rfl, rfl⟩)
        | (go_at_call 43; (with_reducible refine (HS2.out _ (by first | exact Grown.refl _ | exact gr_drewN _ (Grown.refl _))).mono ?_); rw [show (if n2 < 0 then (-1 : Int) else if 0 < n2 then 1 else 0) = _ from HE2.out]; rintro e w' ⟨m1, rfl, rfl⟩)
        | fail)
      go_ret
      exact ⟨by rw [← HRR.out]; rfl, gr_drewN _ (Grown.refl w)⟩
  · have hss : s1 = s2 := by omega
    have hs0 : s1 ≠ 0 := by omega
    have hq := cmpQ_abs hx4 hy4 (by rw [hs1, hs2]; exact hss) (by rw [hs1]; exact hs0)
    rw [hR] at hq
    have HQ := Lib.hid hq.1
    have hbx : bx = decide (s1 < 0) := by rw [hq.2, ← hs1]; unfold sgI; by_cases a : n1 < 0 <;> simp [a]; split <;> omega
    subst hss
    have hb1 : s1 = -1 ∧ bx = true ∨ s1 = 1 ∧ bx = false := by
      rcases b1 with rfl | rfl | rfl
      · exact .inl ⟨rfl, hbx⟩
      · exact absurd rfl hs0
      · exact .inr ⟨rfl, hbx⟩
    obtain ⟨c, hc⟩ : ∃ c, cmpI (Nx * dd Dy) (Ny * dd Dx) = c := ⟨_, rfl⟩
    have HCC := Lib.hid hc
    have hcb : -1 ≤ c ∧ c ≤ 1 := by rw [← hc]; unfold cmpI; split <;> (try split) <;> omega
    rw [hc] at HQ
    clear hx1 hx2 hx3 hx4 hy1 hy2 hy3 hy4 hs1 hs2 hR HD1 HD2 hq hbx hc h b1 b2
    rcases hb1 with ⟨rfl, rfl⟩ | ⟨rfl, rfl⟩
    all_goals
      go_enter Try.func25, Try.ntmps25
      go_upto_region 7 with (first
        | (go_at_call_of 43 (Value.pointer (some (Addr.mk gx 0 none))); (with_reducible refine (HS1.out _ (by first | exact Grown.refl _ | exact gr_drewN _ (Grown.refl _))).mono ?_); rw [show (if n1 < 0 then (-1 : Int) else if 0 < n1 then 1 else 0) = _ from HE1.out]; rintro e w' ⟨m1, rfl, rfl⟩)
        | (go_at_call 43; (with_reducible refine (HS2.out _ (by first | exact Grown.refl _ | exact gr_drewN _ (Grown.refl _))).mono ?_); rw [show (if n2 < 0 then (-1 : Int) else if 0 < n2 then 1 else 0) = _ from HE2.out]; rintro e w' ⟨m1, rfl, rfl⟩)
        | fail)
      generalize eW : w.drewN _ = W
      have HG : RowKit.Hid (Grown w W.drew) := Lib.hid (by rw [← eW]; exact gr_drew1 (gr_drewN _ (Grown.refl w)))
      clear eW
      have x1 := (HX1.out.grown HG.out).i.c1
      have y1 := (HY1.out.grown HG.out).i.c1
      go_region_held3 (fun w' => w'.cell? ⟨gx, 1, none⟩ = some vx1 ∧ w'.cell? ⟨gy, 1, none⟩ = some vy1) (first | exact ⟨by assumption, by assumption⟩ | go_keep) (first
        | (go_at_call_of 97 (Value.pointer (some (Addr.mk gy 0 none))); (with_reducible refine (below_c (HY1.out.grown HG.out) (HY3.out.grown HG.out)).mono ?_); rintro e W1 ⟨u1, rfl, hv, hg⟩; have HG := Lib.hid (gr_trans HG.out hg); (try have HU1 := Lib.hid (HU1.out.grown hg)); (try have HU2 := Lib.hid (HU2.out.grown hg)); (try have HM1 := Lib.hid (HM1.out.grown hg)); (try have HM2 := Lib.hid (HM2.out.grown hg)); have x1 := (HX1.out.grown HG.out).i.c1; have y1 := (HY1.out.grown HG.out).i.c1; have HU1 := Lib.hid hv; clear hv hg)
        | (go_at_call 97; (with_reducible refine (below_c (HX1.out.grown HG.out) (HX3.out.grown HG.out)).mono ?_); rintro e W1 ⟨u2, rfl, hv, hg⟩; have HG := Lib.hid (gr_trans HG.out hg); (try have HU1 := Lib.hid (HU1.out.grown hg)); (try have HU2 := Lib.hid (HU2.out.grown hg)); (try have HM1 := Lib.hid (HM1.out.grown hg)); (try have HM2 := Lib.hid (HM2.out.grown hg)); have x1 := (HX1.out.grown HG.out).i.c1; have y1 := (HY1.out.grown HG.out).i.c1; have HU2 := Lib.hid hv; clear hv hg)
        | (go_at_call_of 96 vx1; (with_reducible refine (mulW_c (HX2.out.grown HG.out) HU1.out (Nat.le_trans lNx (by decide)) (Nat.le_trans lDy (by decide))).mono ?_); rintro e W1 ⟨p1, rfl, hv, hg⟩; have HG := Lib.hid (gr_trans HG.out hg); (try have HU1 := Lib.hid (HU1.out.grown hg)); (try have HU2 := Lib.hid (HU2.out.grown hg)); (try have HM1 := Lib.hid (HM1.out.grown hg)); (try have HM2 := Lib.hid (HM2.out.grown hg)); have x1 := (HX1.out.grown HG.out).i.c1; have y1 := (HY1.out.grown HG.out).i.c1; have HM1 := Lib.hid hv; clear hv hg)
        | (go_at_call_of 96 vy1; (with_reducible refine (mulW_c (HY2.out.grown HG.out) HU2.out (Nat.le_trans lNy (by decide)) (Nat.le_trans lDx (by decide))).mono ?_); rintro e W1 ⟨p2, rfl, hv, hg⟩; have HG := Lib.hid (gr_trans HG.out hg); (try have HU1 := Lib.hid (HU1.out.grown hg)); (try have HU2 := Lib.hid (HU2.out.grown hg)); (try have HM1 := Lib.hid (HM1.out.grown hg)); (try have HM2 := Lib.hid (HM2.out.grown hg)); have x1 := (HX1.out.grown HG.out).i.c1; have y1 := (HY1.out.grown HG.out).i.c1; have HM2 := Lib.hid hv; clear hv hg)
        | (go_at_call 95; (with_reducible refine (cmp_c HM1.out HM2.out).mono ?_); rw [HCC.out]; rintro e W2 ⟨m9, rfl, rfl⟩; have HG := Lib.hid (gr_drewN m9 HG.out); have x1 := (HX1.out.grown HG.out).i.c1; have y1 := (HY1.out.grown HG.out).i.c1; have x0 := (HX1.out.grown HG.out).i.c0)
        | fail)
      all_goals
        go_wp2_with fail
        go_ret
        exact ⟨by rw [HQ.out]; rfl, HG.out⟩
end Go.Proofs.Ytcfkhhnkboealaa
