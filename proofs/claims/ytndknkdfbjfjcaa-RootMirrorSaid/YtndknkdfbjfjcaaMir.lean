/- Angles of turned floats: signs turn, bit by bit. No condition. -/
import Derived.Test.YtndknkdfbjfjcaaPlace
import Derived.Test.YtndknkdfbjfjcaaAng4
namespace Go.Proofs.Ytndknkdfbjfjcaa
open Go.RowKit
set_option linter.unusedVariables false
set_option linter.unusedSimpArgs false
set_option maxRecDepth 100000
set_option maxHeartbeats 1000000

theorem mval_step {s q : Nat} (h1 : 4503599627370496 ≤ q) (h2 : q ≤ 9007199254740992) : mval (s * 4503599627370496 + q) = q * 2 ^ s := by
  unfold mval
  rw [if_neg (by omega)]
  by_cases h : q = 9007199254740992
  · subst h
    rw [show (s * 4503599627370496 + 9007199254740992) % 4503599627370496 = 0 by omega, show (s * 4503599627370496 + 9007199254740992) / 4503599627370496 - 1 = s + 1 by omega, Nat.pow_succ, Nat.mul_comm (2 ^ s) 2, ← Nat.mul_assoc]
  · rw [show (s * 4503599627370496 + q) % 4503599627370496 = q - 4503599627370496 by omega, show (s * 4503599627370496 + q) / 4503599627370496 - 1 = s by omega, show 4503599627370496 + (q - 4503599627370496) = q by omega]
theorem mval_grid {r G : Nat} (h : (G + 1) * 4503599627370496 ≤ r) : 2 ^ G ∣ mval r := by
  unfold mval
  rw [if_neg (by omega)]
  exact Nat.dvd_trans (Nat.pow_dvd_pow 2 (by omega)) (Nat.dvd_mul_left _ _)
theorem rnd_grid {N G : Nat} (hG : G ≤ 2045) (hN : 2 ^ G ∣ N) (hf : rndN N < 9218868437227405312) : 2 ^ G ∣ mval (rndN N) := by
  obtain ⟨M, rfl⟩ := hN
  rw [Nat.mul_comm] at hf ⊢
  by_cases h : M < 9007199254740992
  · rw [(rnd_exact h hG).2]; exact Nat.dvd_mul_left _ _
  · have hM : M ≠ 0 := by omega
    have hl : 53 ≤ M.log2 := by
      have := (Nat.le_log2 hM (k := 53)).2 (by omega)
      exact this
    have hlog := log2_mul M G hM
    have h0 : M * 2 ^ G ≠ 0 := Nat.mul_ne_zero hM (Nat.pos_iff_ne_zero.1 (Nat.two_pow_pos G))
    unfold rndN rndQ at hf ⊢
    rw [if_neg h0, hlog] at hf
    rw [if_neg h0, hlog]
    have e1 : M.log2 + G - 52 - 0 = M.log2 + G - 52 := rfl
    rw [e1, Nat.zero_add] at hf ⊢
    have hs : G ≤ M.log2 + G - 52 := by omega
    have a1 := Nat.log2_self_le h0
    have a2 : M * 2 ^ G < 2 ^ ((M * 2 ^ G).log2 + 1) := Nat.lt_log2_self
    rw [hlog] at a1 a2
    have b1 : 2 ^ (M.log2 + G) = 4503599627370496 * 2 ^ (M.log2 + G - 52) := by
      rw [show (4503599627370496 : Nat) = 2 ^ 52 by decide, ← Nat.pow_add]; congr 1; omega
    have b2 : 2 ^ (M.log2 + G + 1) = 9007199254740992 * 2 ^ (M.log2 + G - 52) := by
      rw [show (9007199254740992 : Nat) = 2 ^ 53 by decide, ← Nat.pow_add]; congr 1; omega
    rw [b1] at a1
    rw [b2] at a2
    generalize M.log2 + G - 52 = s at *
    have q1 := le_rne_of (Nat.two_pow_pos s) a1
    have q2 := rne_le_of (Nat.two_pow_pos s) (Nat.le_of_lt a2)
    generalize rne (M * 2 ^ G) (2 ^ s) = q at *
    rw [show min (s * 4503599627370496 + q) 9218868437227405312 = s * 4503599627370496 + q by omega, mval_step q1 q2]
    exact Nat.dvd_trans (Nat.pow_dvd_pow 2 hs) (Nat.dvd_mul_left _ _)
theorem sval_dvd {f G : Nat} : ((2 ^ G : Nat) : Int) ∣ sval f ↔ 2 ^ G ∣ mval (rung f) := by
  rcases sval_cases f with ⟨_, e⟩ | ⟨_, e⟩ <;> rw [e]
  · exact Int.natCast_dvd_natCast
  · rw [Int.dvd_neg]; exact Int.natCast_dvd_natCast
theorem fsub_grid {f g G : Nat} (hG : G ≤ 2045) (hf : Proofs.Ytndknkdfbjfjcaa.fin f = true) (hg : Proofs.Ytndknkdfbjfjcaa.fin g = true) (hl : g < 18446744073709551616) (hr : Proofs.Ytndknkdfbjfjcaa.fin (fsub f g) = true)
    (a : ((2 ^ G : Nat) : Int) ∣ sval f) (b : ((2 ^ G : Nat) : Int) ∣ sval g) : ((2 ^ G : Nat) : Int) ∣ sval (fsub f g) := by
  have h := fin_rung hr
  rw [sval_dvd]
  rw [fsub_fin hf hg hl, wd_rung (rndN_le _)] at h ⊢
  exact rnd_grid hG (Int.ofNat_dvd_left.1 (Int.dvd_sub a b)) h
theorem fsub_sval_turn {f g f' g' : Nat} (hf : Proofs.Ytndknkdfbjfjcaa.fin f = true) (hg : Proofs.Ytndknkdfbjfjcaa.fin g = true) (hl : g < 18446744073709551616) (hf' : Proofs.Ytndknkdfbjfjcaa.fin f' = true) (hg' : Proofs.Ytndknkdfbjfjcaa.fin g' = true) (hl' : g' < 18446744073709551616)
    (a : sval f' = -sval f) (b : sval g' = -sval g) : sval (fsub f' g') = -sval (fsub f g) := by
  rw [fsub_fin hf hg hl, fsub_fin hf' hg' hl', wd_sval (rndN_le _), wd_sval (rndN_le _), a, b, show -sval f - -sval g = -(sval f - sval g) by omega, Int.natAbs_neg]
  generalize sval f - sval g = d
  by_cases h0 : d = 0
  · subst h0
    have e : mval (rndN (0 : Int).natAbs) = 0 := by decide +kernel
    rw [e]; simp
  · rw [if_neg h0, if_neg (show ¬ -d = 0 by omega)]
    by_cases h : d < 0
    · rw [decide_eq_true h, decide_eq_false (show ¬ -d < 0 by omega)]; simp
    · rw [decide_eq_false h, decide_eq_true (show -d < 0 by omega)]; simp
theorem fsub_turn_ne {f g f' g' : Nat} (hf : Proofs.Ytndknkdfbjfjcaa.fin f = true) (hg : Proofs.Ytndknkdfbjfjcaa.fin g = true) (hl : g < 18446744073709551616) (hf' : Proofs.Ytndknkdfbjfjcaa.fin f' = true) (hg' : Proofs.Ytndknkdfbjfjcaa.fin g' = true) (hl' : g' < 18446744073709551616)
    (a : sval f' = -sval f) (b : sval g' = -sval g) (hne : sval f ≠ sval g) : fsub f' g' = fneg (fsub f g) := by
  rw [fsub_fin hf hg hl, fsub_fin hf' hg' hl', wd_neg (rndN_le _), a, b, show -sval f - -sval g = -(sval f - sval g) by omega, Int.natAbs_neg]
  have h0 : sval f - sval g ≠ 0 := by omega
  generalize sval f - sval g = d at h0
  rw [if_neg h0, if_neg (show ¬ -d = 0 by omega)]
  by_cases h : d < 0
  · rw [decide_eq_true h, decide_eq_false (show ¬ -d < 0 by omega)]; rfl
  · rw [decide_eq_false h, decide_eq_true (show -d < 0 by omega)]; rfl
theorem mulW {m M p Q k : Nat} (hm : Proofs.Ytndknkdfbjfjcaa.fin m = true) (hM : mval (rung m) = M * U) (hp : p < 9218868437227405312) (hQ : mval p = Q * 2 ^ k) (hk : k ≤ 2045) (hb : M * Q < 9007199254740992) :
    Proofs.Ytndknkdfbjfjcaa.fin (fmul m p) = true ∧ mval (rung (fmul m p)) = M * Q * 2 ^ k ∧ fmul m p < 18446744073709551616 := by
  rw [fmul_fin hm (p_fin hp), p_rung hp, hM, hQ]
  have e : M * U * (Q * 2 ^ k) = M * Q * 2 ^ k * U := by ac_rfl
  rw [e, ← e1_eq, rndQ_U]
  obtain ⟨h1, h2⟩ := rnd_exact hb hk
  refine ⟨?_, ?_, wd_lt (rndN_le _)⟩
  · unfold Proofs.Ytndknkdfbjfjcaa.fin; rw [wd_rung (rndN_le _)]; simpa using h1
  · rw [wd_rung (rndN_le _)]; exact h2
def kA : Nat := 1044
def kB : Nat := 1009
def kC : Nat := 978
theorem piece0_ok : fmul 4607182418800017408 (piece 0) = 4609753056924401664 ∧ mval 4609753056924401664 = 1686629713 * 2 ^ kA := by decide +kernel
theorem piece1_ok : fmul 4607182418800017408 (piece 1) = 4454258360616747008 ∧ mval 4454258360616747008 = 2242054355 * 2 ^ kB := by decide +kernel
theorem piece2_ok : fmul 4607182418800017408 (piece 2) = 4297306550709518336 ∧ mval 4297306550709518336 = 160220439 * 2 ^ kC := by decide +kernel
theorem less_open (x m : Nat) : lessF x m 4607182418800017408 = fsub (fsub (fsub x (fmul m 4609753056924401664)) (fmul m 4454258360616747008)) (fmul m 4297306550709518336) := by
  show fsub (fsub (fsub x (fmul m (fmul 4607182418800017408 (piece 0)))) (fmul m (fmul 4607182418800017408 (piece 1)))) (fmul m (fmul 4607182418800017408 (piece 2))) = _
  rw [piece0_ok.1, piece1_ok.1, piece2_ok.1]
theorem dvd_no {M : Nat} (h0 : M ≠ 0) (hM2 : M ≤ 1048576) (h3 : 2 ^ 31 ∣ M * 160220439) : False := by
  have h4 : 2 ^ 31 ∣ M := Nat.Coprime.dvd_of_dvd_mul_right (show Nat.Coprime (2 ^ 31) 160220439 by decide +kernel) h3
  have h5 := Nat.le_of_dvd (Nat.pos_of_ne_zero h0) h4
  exact absurd (Nat.le_trans h5 hM2) (by decide)
theorem less_turn {x m M : Nat} (hx : Bd x 20) (hm : Bd m 20) (hM : mval (rung m) = M * U) (h0 : M ≠ 0) (hM2 : M ≤ 1048576) (hbig : 4602678819172646912 ≤ rung x) :
    lessF (fneg x) (fneg m) 4607182418800017408 = fneg (lessF x m 4607182418800017408) := by
  rw [less_open, less_open, fmul_turn hm.lt hm.fin (by decide +kernel), fmul_turn hm.lt hm.fin (by decide +kernel), fmul_turn hm.lt hm.fin (by decide +kernel)]
  obtain ⟨f0, v0, l0⟩ := mulW (p := 4609753056924401664) hm.fin hM (by decide) piece0_ok.2 (by decide) (by omega)
  obtain ⟨f1, v1, l1⟩ := mulW (p := 4454258360616747008) hm.fin hM (by decide) piece1_ok.2 (by decide) (by omega)
  obtain ⟨f2, v2, l2⟩ := mulW (p := 4297306550709518336) hm.fin hM (by decide) piece2_ok.2 (by decide) (by omega)
  have B0 : Bd (fmul m 4609753056924401664) 21 := hm.mul (Bd.mk_c (k := 1) (by decide +kernel)) (by decide)
  have B1 : Bd (fmul m 4454258360616747008) 21 := hm.mul (Bd.mk_c (k := 1) (by decide +kernel)) (by decide)
  have B2 : Bd (fmul m 4297306550709518336) 21 := hm.mul (Bd.mk_c (k := 1) (by decide +kernel)) (by decide)
  generalize fmul m 4609753056924401664 = d0 at *
  generalize fmul m 4454258360616747008 = d1 at *
  generalize fmul m 4297306550709518336 = d2 at *
  have Y1 := (hx.mono (show 20 ≤ 21 by decide)).sub B0 (by decide)
  have Y2 := Y1.sub (B1.mono (show 21 ≤ 22 by decide)) (by decide)
  have n0 : ∀ {d : Nat}, Bd d 21 → Proofs.Ytndknkdfbjfjcaa.fin (fneg d) = true := fun h => by rw [fin_neg]; exact h.fin
  have s0 : ∀ {d k : Nat}, Bd d k → sval (fneg d) = -sval d := fun h => sval_neg h.lt h.notN
  have fx : Proofs.Ytndknkdfbjfjcaa.fin (fneg x) = true := by rw [fin_neg]; exact hx.fin
  have t1 := fsub_sval_turn hx.fin B0.fin B0.lt fx (n0 B0) (fneg_lt B0.lt) (s0 hx) (s0 B0)
  have z1 : Proofs.Ytndknkdfbjfjcaa.fin (fsub (fneg x) (fneg d0)) = true := by
    rw [fsub_fin fx (n0 B0) (fneg_lt B0.lt), s0 hx, s0 B0]
    have := Y1.fin
    rw [fsub_fin hx.fin B0.fin B0.lt] at this
    unfold Proofs.Ytndknkdfbjfjcaa.fin at this ⊢
    rw [wd_rung (rndN_le _)] at this ⊢
    rw [show -sval x - -sval d0 = -(sval x - sval d0) by omega, Int.natAbs_neg]
    exact this
  have t2 := fsub_sval_turn Y1.fin B1.fin B1.lt z1 (n0 B1) (fneg_lt B1.lt) t1 (s0 B1)
  have z2 : Proofs.Ytndknkdfbjfjcaa.fin (fsub (fsub (fneg x) (fneg d0)) (fneg d1)) = true := by
    rw [fsub_fin z1 (n0 B1) (fneg_lt B1.lt), t1, s0 B1]
    have := Y2.fin
    rw [fsub_fin Y1.fin B1.fin B1.lt] at this
    unfold Proofs.Ytndknkdfbjfjcaa.fin at this ⊢
    rw [wd_rung (rndN_le _)] at this ⊢
    generalize sval (fsub x d0) = a at *
    rw [show -a - -sval d1 = -(a - sval d1) by omega, Int.natAbs_neg]
    exact this
  refine fsub_turn_ne Y2.fin B2.fin B2.lt z2 (n0 B2) (fneg_lt B2.lt) t2 (s0 B2) ?_
  have gx : ((2 ^ kB : Nat) : Int) ∣ sval x := sval_dvd.2 (mval_grid (by unfold kB; omega))
  have g0 : ((2 ^ kB : Nat) : Int) ∣ sval d0 := sval_dvd.2 (by rw [v0]; exact Nat.dvd_trans (Nat.pow_dvd_pow 2 (by decide)) (Nat.dvd_mul_left _ _))
  have g1 : ((2 ^ kB : Nat) : Int) ∣ sval d1 := sval_dvd.2 (by rw [v1]; exact Nat.dvd_mul_left _ _)
  have gy1 := fsub_grid (by decide) hx.fin B0.fin B0.lt Y1.fin gx g0
  have gy2 := fsub_grid (by decide) Y1.fin B1.fin B1.lt Y2.fin gy1 g1
  intro heq
  rw [heq, sval_dvd, v2] at gy2
  have h3 : 2 ^ 31 ∣ M * 160220439 := by
    rw [show kB = 31 + kC from rfl, Nat.pow_add] at gy2
    exact Nat.dvd_of_mul_dvd_mul_right (Nat.two_pow_pos kC) gy2
  exact dvd_no h0 hM2 h3
end Go.Proofs.Ytndknkdfbjfjcaa
