/- What the law of scaled roots asks for, put together; contracts of its own functions. -/
import Derived.Test.YtcfkhhnkboealaaSg
import Derived.Test.YtcfkhhnkboealaaAwp
namespace Go.Proofs.Ytcfkhhnkboealaa
open Go.RowKit
set_option linter.unusedVariables false
set_option linter.unusedSimpArgs false
set_option maxRecDepth 100000
set_option maxHeartbeats 4000000
def mildF (f : Nat) : Bool := feq (fabs f) 0 || (fle 2805742567851819008 (fabs f) && fle (fabs f) 6408622269748215808)
theorem one_shut : (feq 4607182418800017408 0 || (isInf 4607182418800017408 0 || isN 4607182418800017408)) = false ∧ normE 4607182418800017408 = 0 ∧ normF 4607182418800017408 = 4607182418800017408 ∧ flt 4607182418800017408 0 = false := by decide +kernel
theorem expOf_1 (k : Int) : expOf 4607182418800017408 k = k := by
  unfold expOf; rw [one_shut.2.1, one_shut.2.2.1]; omega
theorem scale_1 {k : Int} (h1 : -1022 ≤ k) (h2 : k ≤ 1023) : scaleF 4607182418800017408 k = (k + 1023).toNat * 4503599627370496 := by
  unfold scaleF
  rw [one_shut.1, if_neg (by simp), expOf_1, if_neg (by omega), if_neg (by omega), if_neg (by omega), one_shut.2.2.1]
  rw [show 4607182418800017408 / 9223372036854775808 * 9223372036854775808 + (k + 1023).toNat * 4503599627370496 + 4607182418800017408 % 4503599627370496 = (k + 1023).toNat * 4503599627370496 by omega]
  have hb : (k + 1023).toNat * 4503599627370496 < 9218868437227405312 := by omega
  rw [p_mul (by decide) hb, mval_one, Nat.mul_comm, ← e1_eq, rndQ_U, rnd_mval hb]
theorem fabs_nan {f : Nat} (h : isN f = true) : feq (fabs f) 0 = false ∧ fle (fabs f) 6408622269748215808 = false := by
  have e : isN (fabs f) = true := by
    unfold fabs
    rw [h]
    first | exact h | rfl | decide +kernel
  constructor
  · rw [feq_eq, e]; rfl
  · rw [fle_eq, e]; rfl
theorem mild_val {f : Nat} (hl : f < 18446744073709551616) (h : mildF f = true) : V f (qv f) ∧ Mild (qv f) := by
  have hn : isN f = false := by
    cases e : isN f
    · rfl
    · obtain ⟨a, b⟩ := fabs_nan e
      unfold mildF at h
      rw [a, b, Bool.and_false] at h
      cases h
  unfold mildF at h
  rw [fabs_of hn] at h
  have lr := (notN_iff f).1 hn
  by_cases hi : rung f = 9218868437227405312
  · rw [hi] at h
    exact absurd h (by decide +kernel)
  · have hf : Proofs.Ytcfkhhnkboealaa.fin f = true := by unfold Proofs.Ytcfkhhnkboealaa.fin; simp; omega
    have hv := V.of hl hf
    refine ⟨hv, ?_⟩
    have ha := hv.absv
    have c1 : V 2805742567851819008 (pw (-400)) := by
      have h := V.pos (r := 2805742567851819008) (by decide)
      rwa [show (mval 2805742567851819008 : Rat) / (U : Rat) = pw (-400) by decide +kernel] at h
    have c2 : V 6408622269748215808 (pw 400) := by
      have h := V.pos (r := 6408622269748215808) (by decide)
      rwa [show (mval 6408622269748215808 : Rat) / (U : Rat) = pw 400 by decide +kernel] at h
    rw [fle_val c1 ha, fle_val ha c2] at h
    cases h0 : feq (rung f) 0
    · rw [h0] at h
      simp only [Bool.false_or, Bool.and_eq_true, decide_eq_true_eq] at h
      exact .inr h
    · left
      have wl := fin_rung hf
      obtain ⟨_, _, b3, b4, _⟩ := word_facts wl
      rw [feq_zero b4, b3] at h0
      exact hv.of0 (of_decide_eq_true h0)
theorem V.Q315 : V 4614275588213125939 ((mval 4614275588213125939 : Rat) / (U : Rat)) := V.pos (by decide)
theorem V.Q315n : V 13837647625067901747 (-((mval 4614275588213125939 : Rat) / (U : Rat))) := by
  have h := V.word (r := 4614275588213125939) (s := true) (by decide)
  rw [show wd true 4614275588213125939 = 13837647625067901747 by decide +kernel] at h
  exact h
theorem V.One48 : V 4607182418800017376 (1 - 32 * uu) ∧ V 4607182418800017424 (1 + 32 * uu) := by
  constructor
  · have h := V.pos (r := 4607182418800017376) (by decide)
    rwa [show (mval 4607182418800017376 : Rat) / (U : Rat) = 1 - 32 * uu by decide +kernel] at h
  · have h := V.pos (r := 4607182418800017424) (by decide)
    rwa [show (mval 4607182418800017424 : Rat) / (U : Rat) = 1 + 32 * uu by decide +kernel] at h
/-- what the law asks. -/
structure ScOk (f g s : Nat) : Prop where
  len : feq (lenF (fmul f s) (fmul g s)) (fmul (lenF f g) s) = true
  rx : rootX (fmul (fmul f s) s) (fmul (fmul g s) s) = fmul (rootX f g) s
  ry : rootY (fmul (fmul f s) s) (fmul (fmul g s) s) = fmul (rootY f g) s
  no : unitB f g = false → feq (lenF f g) 0 = true
  yes : unitB f g = true → feq (lenF f g) 0 = false ∧ fle 4607182418800017376 (sqF (unitX f g) (unitY f g)) = true ∧ fle (sqF (unitX f g) (unitY f g)) 4607182418800017424 = true ∧
    fle (lenF (fsub (fmul (lenF f g) (turnC (ofF g f))) f) (fsub (fmul (lenF f g) (turnS (ofF g f))) g)) (fmul 4409024035195715584 (lenF f g)) = true ∧ feq (lenF f g) (lenF f g) = true ∧ fle 13837647625067901747 (ofF g f) = true ∧ fle (ofF g f) 4614275588213125939 = true
theorem zero_up {f : Nat} (h0 : rung f = 0) (hl : f < 18446744073709551616) {k : Int} (h1 : -1022 ≤ k) (h2 : k ≤ 1023) : fmul f ((k + 1023).toNat * 4503599627370496) = f := by
  have hf : Proofs.Ytcfkhhnkboealaa.fin f = true := by unfold Proofs.Ytcfkhhnkboealaa.fin; rw [h0]; rfl
  rw [fmul_pow hl hf h1 h2, scale_nought (fin_notN hf) h0]
theorem root_nought {f g : Nat} (hf : V f 0) (hg : V g 0) : rootX f g = 0 ∧ rootY f g = g := by
  have e1 := feq_zero (fin_notN hf.fin)
  have e2 := feq_zero (fin_notN hg.fin)
  rw [hf.rung0 rfl] at e1
  rw [hg.rung0 rfl] at e2
  have nf := fin_notN hf.fin
  have ng := fin_notN hg.fin
  have rf := fin_rung hf.fin
  have d1 : decide (f = 9218868437227405312) = false := by
    apply decide_eq_false; rintro rfl; exact absurd rf (by decide +kernel)
  have d2 : decide (f = 18442240474082181120) = false := by
    apply decide_eq_false; rintro rfl; exact absurd rf (by decide +kernel)
  unfold rootX rootY edgeIs edgeX edgeY
  rw [isInf_fin hg.fin, infP_iff hf.lt nf, infN_iff hf.lt nf, nf, ng, d1, d2, e1, e2]
  exact ⟨rfl, rfl⟩
theorem mild_scaled {f g : Nat} (lf : f < 18446744073709551616) (lg : g < 18446744073709551616) (hf : mildF f = true) (hg : mildF g = true) {k : Int} (k1 : -100 ≤ k) (k2 : k ≤ 100) : ScOk f g ((k + 1023).toNat * 4503599627370496) := by
  obtain ⟨vf, mf⟩ := mild_val lf hf
  obtain ⟨vg, mg⟩ := mild_val lg hg
  generalize qv f = x at *
  generalize qv g = y at *
  have hu : 0 < uu ∧ uu ≤ 1 / 10000000 := by decide +kernel
  by_cases h0 : x ≠ 0 ∨ y ≠ 0
  · -- the scaled words
    obtain ⟨a1, a2⟩ := vf.mild mf (n := k) (by omega) (by omega)
    obtain ⟨b1, b2⟩ := vg.mild mg (n := k) (by omega) (by omega)
    have ea : fmul f ((k + 1023).toNat * 4503599627370496) = scaleF f k := fmul_pow lf vf.fin (by omega) (by omega)
    have eb : fmul g ((k + 1023).toNat * 4503599627370496) = scaleF g k := fmul_pow lg vg.fin (by omega) (by omega)
    have ea2 : fmul (scaleF f k) ((k + 1023).toNat * 4503599627370496) = scaleF (scaleF f k) k := fmul_pow a1.lt a1.fin (by omega) (by omega)
    have eb2 : fmul (scaleF g k) ((k + 1023).toNat * 4503599627370496) = scaleF (scaleF g k) k := fmul_pow b1.lt b1.fin (by omega) (by omega)
    have two : ∀ z : Rat, z * pw k * pw k = z * pw (2 * k) := fun z => by rw [Rat.mul_assoc, ← pw_add, show k + k = 2 * k by omega]
    have up2 : ∀ {F : Nat} {z : Rat}, Mild z → V (scaleF F k) (z * pw k) → V (scaleF (scaleF F k) k) (z * pw (2 * k)) ∧ sgn (scaleF (scaleF F k) k) = sgn (scaleF F k) := by
      intro F z mz hz
      have := hz.up (n := k) (by omega) (by omega)
        (by
          rw [two]
          rcases mz.low (n := 2 * k) (m := -1000) (by omega) with q | q
          · left; rw [q]; grind
          · exact .inr q)
        (by rw [two]; exact mz.high (by omega))
      rwa [two] at this
    obtain ⟨c1, c2⟩ := up2 mf a1
    obtain ⟨d1, d2⟩ := up2 mg b1
    have L := len_scaled vf vg mf mg a1 b1 a2 b2 k1 k2 h0
    obtain ⟨rX, rY⟩ := root_scaled vf vg mf mg c1 d1 (by rw [c2, a2]) (by rw [d2, b2]) k1 k2 h0
    obtain ⟨T, hT, lT, T0, _, _, T1, T2⟩ := len_mild vf vg mf mg h0
    -- finite roots
    obtain ⟨ru, rv, hru, hrv, _⟩ := root_fine vf vg
    have eL : fmul (lenF f g) ((k + 1023).toNat * 4503599627370496) = scaleF (lenF f g) k := fmul_pow hT.lt hT.fin (by omega) (by omega)
    have eX : fmul (rootX f g) ((k + 1023).toNat * 4503599627370496) = scaleF (rootX f g) k := fmul_pow hru.lt hru.fin (by omega) (by omega)
    have eY : fmul (rootY f g) ((k + 1023).toNat * 4503599627370496) = scaleF (rootY f g) k := fmul_pow hrv.lt hrv.fin (by omega) (by omega)
    have hz : feq (lenF f g) 0 = false := by
      rw [feq_zero (fin_notN hT.fin)]
      exact decide_eq_false (hT.nz (by grind))
    have sn : isN (scaleF (lenF f g) k) = false := by
      have h2 : V (scaleF (lenF f g) k) (T * pw k) ∧ _ := hT.up (n := k) (by omega) (by omega)
        (.inr (by
          rw [ab_pw, ab_pos (Rat.le_of_lt T0)]
          have := Rat.mul_le_mul_of_nonneg_right T1 (Rat.le_of_lt (pw_pos k))
          rw [← pw_add] at this
          exact Rat.le_trans (pw_mono (by omega)) this))
        (by
          rw [ab_pw, ab_pos (Rat.le_of_lt T0)]
          have := Rat.mul_le_mul_of_nonneg_right T2 (Rat.le_of_lt (pw_pos k))
          rw [← pw_add] at this
          exact Rat.le_trans this (pw_mono (by omega)))
      exact fin_notN h2.1.fin
    have ub : unitB f g = true := by
      unfold unitB
      obtain ⟨G, hG, g1, g2, g3⟩ := vf.great vg
      have hp := great_pos h0 g1 g2
      rw [vf.fin, vg.fin, feq_zero (fin_notN hG.fin)]
      have : decide (rung (greatF f g) = 0) = false := decide_eq_false (hG.nz (by grind))
      rw [this]
      rfl
    refine ⟨?_, ?_, ?_, ?_, ?_⟩
    · rw [ea, eb, L, eL, feq_self, sn]; rfl
    · rw [ea, eb, ea2, eb2, rX, eX]
    · rw [ea, eb, ea2, eb2, rY, eY]
    · intro h; rw [ub] at h; cases h
    · intro _
      obtain ⟨n, hn, nb⟩ := unit_near vf vg mf mg h0
      obtain ⟨t1, t2, t3⟩ := there_back vf vg mf mg h0
      obtain ⟨o1, o2⟩ := V.One48
      have nb' := ab_le.1 nb
      have ht := V.of (f := ofF g f) t3.1 t3.2
      have tb : ab (qv (ofF g f)) ≤ (mval 4614275588213125939 : Rat) / (U : Rat) := by
        have UP := UQ_pos
        rw [ht.size, div_le UP, div_self_mul _ UQ_ne]
        exact cast_le.2 (mval_le_iff.2 (Nat.le_trans t2 (by decide)))
      have tb' := ab_le.1 tb
      refine ⟨hz, ?_, ?_, t1, ?_, ?_, ?_⟩
      · rw [fle_val o1 hn]; exact decide_eq_true (by grind)
      · rw [fle_val hn o2]; exact decide_eq_true (by grind)
      · rw [feq_self, fin_notN hT.fin]; rfl
      · rw [fle_val V.Q315n ht]; exact decide_eq_true tb'.1
      · rw [fle_val ht V.Q315]; exact decide_eq_true tb'.2
  · have z1 : x = 0 := by grind
    have z2 : y = 0 := by grind
    subst z1 z2
    have r1 := vf.rung0 rfl
    have r2 := vg.rung0 rfl
    have ea : fmul f ((k + 1023).toNat * 4503599627370496) = f := zero_up r1 lf (by omega) (by omega)
    have eb : fmul g ((k + 1023).toNat * 4503599627370496) = g := zero_up r2 lg (by omega) (by omega)
    have e0 : fmul 0 ((k + 1023).toNat * 4503599627370496) = 0 := zero_up (by decide) (by decide) (by omega) (by omega)
    obtain ⟨q1, q2⟩ := root_nought vf vg
    refine ⟨?_, ?_, ?_, ?_, ?_⟩
    · rw [ea, eb, len_zero vf vg, e0]; decide +kernel
    · rw [ea, eb, ea, eb, q1, e0]
    · rw [ea, eb, ea, eb, q2, eb]
    · intro _; rw [len_zero vf vg]; decide +kernel
    · intro h
      exfalso
      unfold unitB at h
      obtain ⟨G, hG, g1, g2, g3⟩ := vf.great vg
      have : G = 0 := by
        have e0 : ab (0 : Rat) = 0 := by decide +kernel
        rcases g3 with q | q <;> rw [q, e0]
      subst this
      rw [feq_zero (fin_notN hG.fin), hG.rung0 rfl] at h
      simp at h
section
variable {x y z t f g h k : Nat} (hx : Rep x f) (hy : Rep y g) (hz : Rep z h) (ht : Rep t k) (w : World)
include hx
theorem mild_c : Calls Try.prog 46 #[.float .f64 x] w (RetB (mildF f) w) := by
  have E := Lib.hid (mildF.eq_1 f)
  cases h1 : feq (fabs f) 0 <;> cases h2 : fle 2805742567851819008 (fabs f) <;> cases h3 : fle (fabs f) 6408622269748215808
  all_goals
    have H1 := Lib.hid h1
    have H2 := Lib.hid h2
    have H3 := Lib.hid h3
    clear h1 h2 h3
    go_enter Try.func46, Try.ntmps46
    go_wp2_with (first | (go_at_call 23; (with_reducible refine (abs_c hx _).mono ?_); rintro e w' ⟨r, n, rfl, hr, rfl⟩; have q1 := hr.eq' Rep.c0; have q2 := hr.ge' (Rep.lit6 (f := 2805742567851819008) (by decide) (by decide +kernel)); have q3 := hr.le' (Rep.lit6 (f := 6408622269748215808) (by decide) (by decide +kernel)); rw [H1.out] at q1; rw [H2.out] at q2; rw [H3.out] at q3))
    go_ret
    exact RetB.mk _ (by rw [E.out, H1.out, H2.out, H3.out]; rfl)
include hy
theorem polarP_c : Calls Try.prog 52 #[.complex .f64 x y] w (RetFF (lenF f g) (ofF g f) w) := by
  go_enter Try.func52, Try.ntmps52
  go_wp2_with (first | (go_at_call 39; (with_reducible refine (length_c hx hy _).mono ?_); rintro e w' ⟨r, n, rfl, hr, rfl⟩) | (go_at_call 114; (with_reducible refine (of_c hx hy _).mono ?_); rintro e w' ⟨r1, n1, rfl, hr1, rfl⟩))
  go_ret2
  exact RetFF.mk _ hr hr1
theorem placeP_c : Calls Try.prog 53 #[.float .f64 x, .float .f64 y] w (RetCG (fmul f (turnC g)) (fmul f (turnS g)) w) := by
  go_enter Try.func53, Try.ntmps53
  go_wp2_with (first | (go_at_call 115; (with_reducible refine (turn_c hy _).mono ?_); rintro e w' ⟨r, s, rfl, hr, hs, hg⟩))
  go_ret
  exact ⟨_, _, rfl, hx.mul hs, hx.mul hr, gr_drewN _ hg⟩
end
end Go.Proofs.Ytcfkhhnkboealaa
