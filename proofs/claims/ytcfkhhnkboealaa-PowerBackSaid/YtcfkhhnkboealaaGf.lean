/- The program's angle of a place, with its signs. No text of the program. -/
import Derived.Test.YtcfkhhnkboealaaGe
namespace Go.Proofs.Ytcfkhhnkboealaa
open Go.RowKit
set_option linter.unusedVariables false
set_option linter.unusedSimpArgs false
set_option maxRecDepth 100000
set_option maxHeartbeats 4000000
open Turns Sizes
theorem back_ok {p q : Nat} {P Q b : Rat} (h : PlaceOk p q P Q b) : ∃ c, V (backP true (placeP p q)) c ∧ Ln (-Q) P c (103 / 10 * uu) ∧ 1 ≤ c ∧ c ≤ 315 / 100 ∧ rung (backP true (placeP p q)) ≤ 4614256656552045848 := by
  have hu : 0 < uu ∧ uu ≤ 1 / 1000000 := by decide +kernel
  have het := et_uu
  have he0 := et_pos
  have hB := BG_big
  obtain ⟨g1, g2, g3, g4, g5, g6⟩ := pi_parts
  obtain ⟨hb, l, b0, b1, _⟩ := h
  have lb : ab (b - piLo) ≤ 158 / 100 := by rw [ab_le]; constructor <;> grind
  obtain ⟨m, hm, r1⟩ := hb.sub V.PLo (by grind)
  have ml := low_sub (L := piLo) (by grind) b0 r1
  have k1 := Rat.mul_le_mul_of_nonneg_left lb (Rat.le_of_lt hu.1)
  have r1' := ab_le.1 r1
  have mb : ab (piHi - m) ≤ 315 / 100 := by rw [ab_le]; constructor <;> grind
  obtain ⟨c, hc, r2⟩ := V.PH.sub hm (by grind)
  have sw := l.left (by rw [ab_le]; constructor <;> grind) (by decide +kernel) (by decide +kernel)
  have bn : ab (b - piLo) ≤ b + 3 * uu := by rw [ab_le]; constructor <;> grind
  have hn : ab (piHi - m) ≤ 2 * hp - b + 4 * uu := by
    have : piHi = 2 * hp - piLo := by grind
    rw [this, ab_le]
    generalize hp = H at *
    constructor <;> grind
  have t1 := Rat.mul_le_mul_of_nonneg_left bn (Rat.le_of_lt hu.1)
  have t2 := Rat.mul_le_mul_of_nonneg_left hn (Rat.le_of_lt hu.1)
  have uh := Rat.mul_le_mul_of_nonneg_left (show hp ≤ 15708 / 10000 by decide +kernel) (Rat.le_of_lt hu.1)
  have uu2 := Rat.mul_le_mul_of_nonneg_left hu.2 (Rat.le_of_lt hu.1)
  have tot : ab (c - (2 * hp - b)) ≤ 3142 / 1000 * uu := by
    have x := ab_sub (c - (piHi - m)) (m - (b - piLo))
    have e : c - (piHi - m) - (m - (b - piLo)) = c - (2 * hp - b) := by
      rw [← g1]; grind
    rw [e] at x
    have f1 : uu * (b + 3 * uu) = uu * b + 3 * (uu * uu) := by grind
    have f2 : uu * (2 * hp - b + 4 * uu) = 2 * (uu * hp) - uu * b + 4 * (uu * uu) := by grind
    rw [f1] at t1
    rw [f2] at t2
    clear e f1 f2 k1 r1' mb lb g1 g2 sw l
    generalize uu * b = y1 at *
    generalize uu * hp = y2 at *
    generalize uu * uu = y3 at *
    grind
  have sh := sw.shift (d := c - (2 * hp - b)) (f := 3142 / 1000 * uu) (by
    have hs := hp_size
    generalize hp = H at *
    rw [ab_le]; constructor <;> grind) (by decide +kernel) (by decide +kernel) tot (by decide +kernel)
  rw [show 2 * hp - b + (c - (2 * hp - b)) = c by grind] at sh
  have cl := ab_le.1 tot
  have hs : 157 / 100 ≤ hp ∧ hp ≤ 15708 / 10000 := by decide +kernel
  have hc' : V (backP true (placeP p q)) c := by unfold backP; rw [if_pos rfl]; exact hc
  refine ⟨c, hc', sh.mono (by decide +kernel), ?_, ?_, ?_⟩
  · clear g1
    generalize hp = H at *
    grind
  · clear g1
    generalize hp = H at *
    grind
  · unfold backP
    rw [if_pos rfl]
    exact top_sub V.PH (by decide) hm (V.pos (r := 4371207596335717383) (by decide)) (by decide) (by
      have := K_low.2.2.1
      grind) (by grind) K_low.2.2.2
/-- THE ANGLE OF A PLACE. -/
theorem of_ok {y x : Nat} {Y X : Rat} (hy : V y Y) (hx : V x X) (h0 : 0 < ab Y + ab X) : ∃ T, V (ofF y x) T ∧ Ln X Y T (104 / 10 * uu) ∧ (sgn x = false → Ln X Y T (71 / 10 * uu) ∧ rung (ofF y x) ≤ 4609753056924675352) ∧ rung (ofF y x) ≤ 4614256656552045848 ∧ sgn (ofF y x) = sgn y ∧ ab T ≤ 4 := by
  have he0 := et_pos
  have het := et_uu
  have hu : 0 < uu ∧ uu ≤ 1 / 1000000 := by decide +kernel
  have ly := fin_rung hy.fin
  have lx := fin_rung hx.fin
  obtain ⟨b, hp⟩ := place_ok hy.absv hx.absv ly lx h0
  -- without the sign of y
  have key : ∃ c, V (ofAbs y x) c ∧ Ln X (ab Y) c (103 / 10 * uu) ∧ (sgn x = false → Ln X (ab Y) c (7 * uu) ∧ rung (ofAbs y x) ≤ 4609753056924675352) ∧ rung (ofAbs y x) ≤ 4614256656552045848 ∧ -(2 * et) ≤ c ∧ c ≤ 315 / 100 := by
    unfold ofAbs
    rw [fabs_of (fin_notN hy.fin), fabs_of (fin_notN hx.fin)]
    have fX := hx.form
    rw [← hx.size] at fX
    cases hs : sgn x
    · rw [hs] at fX
      have eX : X = ab X := fX
      obtain ⟨h1, h2, h3, h4, h5⟩ := hp
      have e : backP false (placeP (rung y) (rung x)) = placeP (rung y) (rung x) := by unfold backP; exact if_neg (by decide)
      rw [e, eX]
      have ea : ab (ab X) = ab X := ab_pos (ab_nn X)
      exact ⟨b, h1, h2.mono (by grind), fun _ => ⟨h2, h5⟩, Nat.le_trans h5 (by decide), h3, by grind⟩
    · rw [hs] at fX
      have eX : X = -ab X := fX
      obtain ⟨c, k1, k2, k3, k4, k5⟩ := back_ok hp
      rw [eX]
      have ea : ab (-ab X) = ab X := by rw [ab_neg, ab_pos (ab_nn X)]
      exact ⟨c, k1, k2, (fun h => by cases h), k5, by grind, k4⟩
  obtain ⟨c, k1, k2, k3, k4, k5, k6⟩ := key
  have lr := fin_rung k1.fin
  have e : ofF y x = wd (sgn y) (rung (ofAbs y x)) := by
    unfold ofF
    rw [fin_notN hy.fin, fin_notN hx.fin]
    show (if (false || false) = true then nanB else signed (ofAbs y x) y) = _
    rw [if_neg (by decide)]
    unfold signed minus
    rw [fin_notN k1.fin, fin_notN hy.fin, if_neg (by decide)]
    unfold wd
    cases sgn y
    · rfl
    · show (if (!false && true) = true then rung (ofAbs y x) + 9223372036854775808 else rung (ofAbs y x)) = if true = true then 9223372036854775808 + rung (ofAbs y x) else rung (ofAbs y x)
      rw [if_pos (by decide), if_pos rfl, Nat.add_comm]
  have hv := V.word (s := sgn y) lr
  rw [← k1.size] at hv
  rw [← e] at hv
  have rr : rung (ofF y x) = rung (ofAbs y x) := by rw [e]; exact wd_rung (Nat.le_of_lt lr)
  have rs : sgn (ofF y x) = sgn y := by rw [e]; exact wd_sgn (Nat.le_of_lt lr)
  have fY := hy.form
  rw [← hy.size] at fY
  have hd : ab (ab c - c) ≤ 4 * et := by
    rcases (show 0 ≤ c ∨ c < 0 by grind) with q | q
    · rw [ab_pos q, show c - c = 0 by grind, show ab (0 : Rat) = 0 by decide +kernel]; grind
    · have : ab c = -c := by unfold ab; grind
      rw [this, ab_pos (by grind)]; grind
  have up : ∀ {E : Rat}, Ln X (ab Y) c E → 0 ≤ E → E ≤ 1 / 1000000 → Ln X (ab Y) (ab c) (E + 1001 / 1000 * (4 * et) + tw 400) := by
    intro E l e0 e1
    have := l.shift (d := ab c - c) (f := 4 * et) (by rw [ab_le]; constructor <;> grind) e0 e1 hd (by grind)
    rw [show c + (ab c - c) = ab c by grind] at this
    exact this
  have sg' : ∀ {E : Rat}, Ln X (ab Y) (ab c) E → Ln X Y (sq (sgn y) (ab c)) E := by
    intro E l
    cases hs : sgn y
    · rw [hs] at fY
      have eY : Y = ab Y := fY
      show Ln X Y (ab c) E
      rw [eY]; exact l
    · rw [hs] at fY
      have eY : Y = -ab Y := fY
      show Ln X Y (-ab c) E
      rw [eY]; exact l.turned
  refine ⟨sq (sgn y) (ab c), hv, (sg' (up k2 (by decide +kernel) (by decide +kernel))).mono (by decide +kernel), fun hs => ⟨(sg' (up (k3 hs).1 (by decide +kernel) (by decide +kernel))).mono (by decide +kernel), by rw [rr]; exact (k3 hs).2⟩, by rw [rr]; exact k4, rs, ?_⟩
  rw [sq_ab, ab_pos (ab_nn c), ab_le]
  constructor <;> grind
end Go.Proofs.Ytcfkhhnkboealaa
