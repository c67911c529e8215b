/- The unit of a sum's last place, and the loss beside it; a float as a fraction in memory. -/
import Derived.Test.YtcfkhhnkboealaaLos
import Derived.Test.YtcfkhhnkboealaaRtz
import Derived.Test.YtcfkhhnkboealaaWhb
namespace Go.Proofs.Ytcfkhhnkboealaa
open Go.RowKit
set_option linter.unusedVariables false
set_option linter.unusedSimpArgs false
set_option maxRecDepth 100000
set_option maxHeartbeats 4000000
theorem pow2_inj {a b : Nat} (h : 2 ^ a = 2 ^ b) : a = b := by
  have := congrArg Nat.log2 h
  rwa [Nat.log2_two_pow, Nat.log2_two_pow] at this
theorem rnd_pow2 {t : Nat} (h : t ≤ 2045) : rndN (2 ^ t) < 9218868437227405312 ∧ mval (rndN (2 ^ t)) = 2 ^ t := by
  have := rnd_exact (m := 1) (k := t) (by decide) h
  rwa [Nat.one_mul] at this
/-- half of a power of two. -/
theorem half_pow {t : Nat} (ht : t + 1 ≤ 2045) : fdiv (rndN (2 ^ (t + 1))) 4611686018427387904 = rndN (2 ^ t) := by
  have hp := rnd_pow2 ht
  have hr : rung (rndN (2 ^ (t + 1))) = rndN (2 ^ (t + 1)) := rung_pos (rndN_le _)
  have hf : fin (rndN (2 ^ (t + 1))) = true := by unfold fin; rw [hr]; simpa using hp.1
  have hs : sgn (rndN (2 ^ (t + 1))) = false := sgn_rung (by have := rndN_le (2 ^ (t + 1)); omega)
  have hs2 : sgn 4611686018427387904 = false := by decide +kernel
  have e2 : mval (rung 4611686018427387904) = 2 * U := by decide +kernel
  obtain ⟨m1, k1, m2, k2, s, n, e3, e4, h0, hn, hb, he⟩ := fdiv_fin (f := rndN (2 ^ (t + 1))) (g := 4611686018427387904) hf (by decide +kernel) (by decide +kernel)
  rw [hr, hp.2] at e3
  rw [e2, U_pow, ← Nat.pow_succ'] at e4
  rw [Nat.mul_comm] at e3 e4
  obtain ⟨b, b1, b2, b3⟩ := pow2_split _ _ _ e3.symm
  obtain ⟨a, a1, a2, a3⟩ := pow2_split _ _ _ e4.symm
  have hk1 : k1 = t + 1 - b := pow2_inj b3
  have hk2 : k2 = e1 + 1 - a := pow2_inj a3
  have hm1 : m1 ≠ 0 := by rw [b2]; exact Nat.ne_of_gt (Nat.two_pow_pos b)
  have hbb := hb hm1
  rw [a2, b2, ← Nat.pow_add] at hbb
  have hab : a ≤ b + s := by
    rcases Nat.lt_or_ge (b + s) a with c | c
    · exfalso
      have : 2 ^ (b + s) < 2 ^ a := Nat.pow_lt_pow_right (by decide) c
      omega
    · exact c
  have hq : m1 * 2 ^ s = 2 ^ (b + s - a) * m2 := by rw [b2, a2, ← Nat.pow_add, ← Nat.pow_add]; congr 1; omega
  rw [hq, Nat.mul_div_cancel _ h0, Nat.mul_mod_left] at hn
  have hn2 : n = 2 ^ (b + s - a + 1) := by rw [hn, Nat.pow_succ, Nat.mul_comm]; rfl
  rw [he, hs, hs2, hn2]
  have hx : 2 ^ (b + s - a + 1) * 2 ^ (e1 + k1) = 2 ^ t * 2 ^ (k2 + s + 1) := by
    rw [← Nat.pow_add, ← Nat.pow_add]; congr 1; omega
  rw [hx, rndQ_cancel, Bool.false_xor, wd_false']
theorem twice_max : rndN (2 * mval 9218868437227405311) = 9218868437227405312 := by decide +kernel
theorem twice_gt {r : Nat} (h0 : 0 < r) (h : r < 9218868437227405312) : r < rndN (2 * mval r) := by
  by_cases hm : r = 9218868437227405311
  · subst hm; rw [twice_max]; decide
  · have h1 : mval (r + 1) ≤ 2 * mval r := by rw [← mval_dbl]; exact mval_le_iff.2 (dbl_gt h0)
    exact le_rndN_of (r := r + 1) (by omega) h1
def unitF (s : Nat) : Nat := fabs (fsub (nextF s (fmul 4611686018427387904 s)) s)
theorem two_fmul {s : Nat} (hf : fin s = true) : fmul 4611686018427387904 s = wd (sgn s) (rndN (2 * mval (rung s))) := by
  rw [fmul_fin (by decide +kernel) hf]
  have e : sgn 4611686018427387904 = false := by decide +kernel
  have e2 : mval (rung 4611686018427387904) = 2 * U := by decide +kernel
  rw [e, e2, Bool.false_xor, show 2 * U * mval (rung s) = 2 * mval (rung s) * 2 ^ e1 by rw [U_pow]; ac_rfl]
  have := rndQ_cancel (2 * mval (rung s)) e1
  rw [e1_eq] at this ⊢
  rw [this]
theorem next_away {s : Nat} (hl : s < 18446744073709551616) (hf : fin s = true) (h0 : 0 < rung s) : nextF s (fmul 4611686018427387904 s) = wd (sgn s) (rung s + 1) := by
  have hr := fin_rung hf
  have hn := fin_notN hf
  have hg := twice_gt h0 hr
  have hle := rndN_le (2 * mval (rung s))
  rw [two_fmul hf]
  have hn2 : isN (wd (sgn s) (rndN (2 * mval (rung s)))) = false := wd_notN hle
  have hm := mval_lt hg
  have hv : sval s = if sgn s then -(mval (rung s) : Int) else (mval (rung s) : Int) := rfl
  have hv2 := wd_sval (s := sgn s) hle
  have hz : sval 0 = 0 := by decide +kernel
  have hz0 : isN 0 = false := by decide +kernel
  have hp := mval_pos h0
  unfold nextF
  rw [hn, hn2, Bool.false_or, if_neg (by decide), feq_eq, feq_eq, flt_eq, flt_eq, hn, hn2, hz0, hv2, hz, hv]
  simp only [Bool.not_false, Bool.true_and]
  have e : s = wd (sgn s) (rung s) := (wd_self hl).symm
  have hnx : nrm (s + 1) = wd (sgn s) (rung s + 1) := by
    have e1 : s + 1 = wd (sgn s) (rung s + 1) := by
      have h2 : wd (sgn s) (rung s + 1) = wd (sgn s) (rung s) + 1 := by unfold wd; split <;> omega
      rw [h2, ← e]
    rw [e1]
    exact nrm_of_not (wd_notN (by omega))
  cases hs : sgn s
  · simp only [Bool.false_eq_true, if_false]
    rw [if_neg (by simp; omega), if_neg (by simp; omega), decide_eq_true (by omega : (mval (rung s) : Int) < (mval (rndN (2 * mval (rung s))) : Int)), decide_eq_true (by omega : (0 : Int) < (mval (rung s) : Int)), hnx, hs]
    rfl
  · simp only [if_true]
    rw [if_neg (by simp; omega), if_neg (by simp; omega), decide_eq_false (by omega : ¬ -(mval (rung s) : Int) < -(mval (rndN (2 * mval (rung s))) : Int)), decide_eq_false (by omega : ¬ (0 : Int) < -(mval (rung s) : Int)), hnx, hs]
    rfl
/-- the unit, and half of it. -/
theorem unit_val {s es q : Nat} (hl : s < 18446744073709551616) (hf : fin s = true) (he : 0 < es) (hr : rung s = es * 4503599627370496 + q) (h1 : 4503599627370496 ≤ q) (h2 : q ≤ 9007199254740992) :
    fin (unitF s) = false ∨ ∃ t, es ≤ t ∧ 1 ≤ t ∧ t ≤ 2045 ∧ fin (unitF s) = true ∧ unitF s = rndN (2 ^ t) := by
  have hrl := fin_rung hf
  have hn := fin_notN hf
  unfold unitF
  rw [next_away hl hf (by omega)]
  by_cases hi : rung s + 1 = 9218868437227405312
  · left
    have e : rung s = 9218868437227405311 := by omega
    rw [hi]
    have e2 : s = wd (sgn s) 9218868437227405311 := by rw [← e]; exact (wd_self hl).symm
    rw [e2]
    have : ∀ b : Bool, fin (fabs (fsub (wd b 9218868437227405312) (wd b 9218868437227405311))) = false := by decide +kernel
    rw [wd_sgn (by decide)]
    exact this _
  · right
    have hf2 : fin (wd (sgn s) (rung s + 1)) = true := by unfold fin; rw [wd_rung (by omega)]; simp; omega
    have hD : ∃ t, es ≤ t ∧ t ≤ 2045 ∧ mval (rung s + 1) = mval (rung s) + 2 ^ t := by
      rw [hr]
      by_cases h53 : q = 9007199254740992
      · refine ⟨es + 1, by omega, by omega, ?_⟩
        subst h53
        rw [show es * 4503599627370496 + 9007199254740992 + 1 = (es + 1) * 4503599627370496 + 4503599627370497 by omega, show es * 4503599627370496 + 9007199254740992 = (es + 1) * 4503599627370496 + 4503599627370496 by omega,
          mval_stp (by decide) (by decide), mval_stp (by decide) (by decide), ← Nat.succ_mul]
      · by_cases h52 : q + 1 = 9007199254740992
        · refine ⟨es, by omega, by omega, ?_⟩
          have e : q = 9007199254740991 := by omega
          subst e
          rw [show es * 4503599627370496 + 9007199254740991 + 1 = (es + 1) * 4503599627370496 + 4503599627370496 by omega, mval_stp (by decide) (by decide), mval_stp (by decide) (by decide), Nat.pow_succ]
          omega
        · refine ⟨es, by omega, by omega, ?_⟩
          rw [Nat.add_assoc, mval_stp (by omega) (by omega), mval_stp h1 (by omega), Nat.add_mul, Nat.one_mul]
    obtain ⟨t, t1, t2, t3⟩ := hD
    have hv : sval (wd (sgn s) (rung s + 1)) - sval s = if sgn s then -((2 ^ t : Nat) : Int) else ((2 ^ t : Nat) : Int) := by
      rw [wd_sval (by omega), t3]
      unfold sval
      cases sgn s <;> simp <;> omega
    have habs : (sval (wd (sgn s) (rung s + 1)) - sval s).natAbs = 2 ^ t := by
      rw [hv]; generalize 2 ^ t = T
      split <;> omega
    have hsub := fsub_fin hf2 hf hl
    rw [habs] at hsub
    have hp := rnd_pow2 t2
    have hu : fabs (fsub (wd (sgn s) (rung s + 1)) s) = rndN (2 ^ t) := by
      rw [hsub, fabs_of (wd_notN (rndN_le _)), wd_rung (rndN_le _)]
    refine ⟨t, t1, by omega, by omega, ?_, hu⟩
    rw [hu]; unfold fin; rw [rung_pos (rndN_le _)]; simpa using hp.1
theorem loss_small {s es q l : Nat} (hl : s < 18446744073709551616) (hf : fin s = true) (he : 0 < es) (hr : rung s = es * 4503599627370496 + q) (h1 : 4503599627370496 ≤ q) (h2 : q ≤ 9007199254740992)
    (hfl : fin l = true) (h3 : 2 * (sval l).natAbs ≤ 2 ^ es) : fin (unitF s) = false ∨ (fin (unitF s) = true ∧ fle (fabs l) (fdiv (unitF s) 4611686018427387904) = true) := by
  rcases unit_val hl hf he hr h1 h2 with h | ⟨t, t1, t2, t3, t4, t5⟩
  · exact .inl h
  · refine .inr ⟨t4, ?_⟩
    obtain ⟨u, rfl⟩ : ∃ u, t = u + 1 := ⟨t - 1, by omega⟩
    have hh := half_pow (t := u) (by omega)
    have hn := fin_notN hfl
    have hp := rnd_pow2 (t := u) (by omega)
    rw [t5, hh, fle_eq, isN_abs, hn, num_pos (rndN_le _), sval_abs hn]
    have e : sval (rndN (2 ^ u)) = ((2 ^ u : Nat) : Int) := by
      unfold sval; rw [sgn_rung (by have := rndN_le (2 ^ u); omega), rung_pos (rndN_le _), hp.2]; rfl
    rw [e]
    have hb : 2 ^ es ≤ 2 ^ (u + 1) := Nat.pow_le_pow_right (by decide) t1
    rw [Nat.pow_succ] at hb
    rw [sval_nat] at h3
    simp only [Bool.not_false, Bool.true_and, decide_eq_true_eq]
    omega
theorem ratNew {w0 w : World} (h : Grown w0 w) (t : TypeId) : RatZ (w.alloc (.cells #[.bool false, .slice none 0 0, .slice none 0 0] t)) w.heap.size := by
  refine ⟨false, .slice none 0 0, .slice none 0 0, ⟨⟨World.cell?_alloc_new .., World.cell?_alloc_new .., fun j x e => ?_, by rw [size_alloc]; exact Nat.lt_succ_self _, fun j => Row.free ((Grown.refl w).alloc _ _) (Nat.le_refl _)⟩, World.cell?_alloc_new ..⟩⟩
  rw [World.cell?_alloc_new] at e
  match j, e with
  | 0, e => simp at e
  | 1, e => simp at e
  | 2, e => simp at e
  | k + 3, e => simp at e
/-- hands back a new fraction. -/
def RetNQ (n : Int) (d : Nat) (w : World) (e : Ending) (w' : World) : Prop := ∃ g, e = .returned (.pointer (some ⟨g, 0, none⟩)) ∧ RatAt w' g n d ∧ Grown w w' ∧ w.heap.size ≤ g
theorem exactQ_c {f : Nat} (w : World) (hl : f < 18446744073709551616) (hf : fin f = true) : Calls Try.prog 22 #[.float .f64 f] w (RetNQ (sval f) U w) := by
  have HZ := Lib.hid (ratNew (Grown.refl w) 40)
  go_enter Try.func22, Try.ntmps22
  go_wp2_with (first
    | (go_at_call 90; (with_reducible refine (rsetf_c HZ.out hl hf).mono ?_); rintro e w' ⟨w1, hg1, rfl, hr, hg⟩)
    | fail)
  go_ret
  exact ⟨_, rfl, hr, hg.grown (gr_trans ((Grown.refl w).alloc _ _) hg1) (Nat.le_refl _), Nat.le_refl _⟩
theorem bl_53 {m : Nat} (h : m < 9007199254740992) : bl m ≤ 53 := bl_le_of (by rw [show (2 : Nat) ^ 53 = 9007199254740992 by decide]; exact h)
theorem digs_sval {f : Nat} (hf : fin f = true) : (digs (sval f).natAbs).length ≤ 100 := by
  rw [sval_nat]
  obtain ⟨m, k, e, hm, hk, _⟩ := mval_form (fin_rung hf)
  rw [e]
  exact digs_len_pow (by have := bl_53 hm; omega)
theorem digs_U : (digs U).length ≤ 100 := by
  have := digs_len_pow (A := 1) (k := e1) (m := 100) (by rw [e1_eq]; decide)
  rwa [Nat.one_mul, ← U_pow] at this
theorem digs_len_imul (a : Int) (b : Nat) : (digs (a * b).natAbs).length ≤ (digs a.natAbs).length + (digs b).length := by
  rw [Int.natAbs_mul, Int.natAbs_natCast]; exact digs_len_mul _ _
theorem digs_len_iadd (a b : Int) {n : Nat} (h1 : (digs a.natAbs).length ≤ n) (h2 : (digs b.natAbs).length ≤ n) : (digs (a + b).natAbs).length ≤ n + 1 :=
  Nat.le_trans (digs_mono (Int.natAbs_add_le _ _)) (digs_len_add _ _ h1 h2)
/-- a sum of two floats as a fraction: how long it is. -/
theorem digs_sum2 {f g : Nat} (hf : fin f = true) (hg : fin g = true) : (digs (sval f * U + sval g * U).natAbs).length ≤ 201 :=
  digs_len_iadd _ _ (Nat.le_trans (digs_len_imul _ _) (by have := digs_sval hf; have := digs_U; omega)) (Nat.le_trans (digs_len_imul _ _) (by have := digs_sval hg; have := digs_U; omega))
theorem digs_UU : (digs (U * U)).length ≤ 200 := Nat.le_trans (digs_len_mul _ _) (by have := digs_U; omega)
end Go.Proofs.Ytcfkhhnkboealaa
