/- The law of sines and cosines, its plain part: what the program answers lies near to what the law works out. No text of the program. The law of sines and cosines, its plain part: whole quarters and circles that the law takes. No text of the program. -/
import Derived.Test.YtcfkhhnkboealaaDoorDl
namespace Go.Proofs.YtcfkhhnkboealaaDoor
open Go.RowKit
set_option linter.unusedVariables false
set_option linter.unusedSimpArgs false
set_option maxRecDepth 100000
set_option maxHeartbeats 4000000
open Turns Sizes
open Cs (cnr)
theorem rot_succ (n : Int) (c s : Rat) : rot ((n + 1) % 4) c s = rot (n % 4) (-s) c := by
  unfold rot
  have nn : -(-s) = s := by grind
  rcases (show n % 4 = 0 ∨ n % 4 = 1 ∨ n % 4 = 2 ∨ n % 4 = 3 by omega) with h | h | h | h
  · rw [h, show (n + 1) % 4 = 1 by omega, if_neg (by decide), if_pos rfl, if_pos rfl]
  · rw [h, show (n + 1) % 4 = 2 by omega, if_neg (by decide), if_neg (by decide), if_pos rfl, if_neg (by decide), if_pos rfl]
  · rw [h, show (n + 1) % 4 = 3 by omega, if_neg (by decide), if_neg (by decide), if_neg (by decide), if_neg (by decide), if_neg (by decide), if_pos rfl, nn]
  · rw [h, show (n + 1) % 4 = 0 by omega, if_pos rfl, if_neg (by decide), if_neg (by decide), if_neg (by decide), nn]
theorem rot_near {k : Int} {c s c' s' e : Rat} (h1 : ab (c - c') ≤ e) (h2 : ab (s - s') ≤ e) : ab ((rot k c s).1 - (rot k c' s').1) ≤ e ∧ ab ((rot k c s).2 - (rot k c' s').2) ≤ e := by
  have t : ∀ x y : Rat, ab (x - y) ≤ e → ab (-x - -y) ≤ e := by
    intro x y h
    rw [show -x - -y = -(x - y) by grind, ab_neg]; exact h
  unfold rot
  by_cases k0 : k = 0
  · rw [if_pos k0, if_pos k0]; exact ⟨h1, h2⟩
  · rw [if_neg k0, if_neg k0]
    by_cases k1 : k = 1
    · rw [if_pos k1, if_pos k1]; exact ⟨t _ _ h2, h1⟩
    · rw [if_neg k1, if_neg k1]
      by_cases k2 : k = 2
      · rw [if_pos k2, if_pos k2]; exact ⟨t _ _ h1, t _ _ h2⟩
      · rw [if_neg k2, if_neg k2]; exact ⟨h2, t _ _ h1⟩
/-- the turn by a quarter more, by parts. -/
theorem CS_more' {y : Rat} (h : ab y ≤ 6) : ab ((CS (y + hp)).re - -(CS y).im) ≤ tw 102 ∧ ab ((CS (y + hp)).im - (CS y).re) ≤ tw 102 := by
  have a := CS_more h
  have b : ab ((CS (y + hp)).re - ((CS y).re * 0 - (CS y).im * 1)) + ab ((CS (y + hp)).im - ((CS y).re * 1 + (CS y).im * 0)) ≤ tw 102 := a
  rw [show (CS y).re * 0 - (CS y).im * 1 = -(CS y).im by grind, show (CS y).re * 1 + (CS y).im * 0 = (CS y).re by grind] at b
  have n1 := ab_nn ((CS (y + hp)).re - -(CS y).im)
  have n2 := ab_nn ((CS (y + hp)).im - (CS y).re)
  constructor <;> grind
theorem CS_beside {x y : Rat} (hx : ab x ≤ 6) (h : ab (y - x) ≤ tw 80) : ab ((CS y).re - (CS x).re) ≤ tw 79 ∧ ab ((CS y).im - (CS x).im) ≤ tw 79 := by
  have w : tw 80 ≤ 1 / 1000000 ∧ 1001 / 1000 * tw 80 + tw 439 ≤ tw 79 := by decide +kernel
  have n := CS_near (x := x) (d := y - x) hx (Rat.le_trans h w.1)
  rw [show x + (y - x) = y by grind] at n
  have k := Rat.mul_le_mul_of_nonneg_left h (show (0 : Rat) ≤ 1001 / 1000 by decide +kernel)
  constructor
  · exact Rat.le_trans n.1 (by grind)
  · exact Rat.le_trans n.2 (by grind)
theorem int_cases {n m : Int} {X Y : Rat} (h : (((n - m : Int)) : Rat) * hp = Y - X) (hX : ab X ≤ 7857 / 10000) (hY : ab Y ≤ 7859 / 10000) : n = m ∨ n = m + 1 ∨ m = n + 1 := by
  obtain ⟨h0, h1, h2⟩ := hp_size
  have a := ab_sub Y X
  rw [← h, ab_mul, ab_pos h0] at a
  rcases (show (n - m).natAbs ≤ 1 ∨ 2 ≤ (n - m).natAbs by omega) with q | q
  · omega
  · exfalso
    have c := cast_le.2 q
    rw [natAbsQ] at c
    have e : ((2 : Nat) : Rat) = 2 := rfl
    rw [e] at c
    have k := Rat.mul_le_mul_of_nonneg_right c h0
    clear h e
    generalize ab ((n - m : Int) : Rat) * hp = z at *
    generalize hp = H at *
    grind
/-- what the program and the law turn to lie near. -/
theorem turn_beside {a y c s c' s' : Rat} {n m : Int} (hX : ab (a - (n : Rat) * hp) ≤ 7856 / 10000) (hc : ab (c - (CS (a - (n : Rat) * hp)).re) ≤ 6 * uu) (hs : ab (s - (CS (a - (n : Rat) * hp)).im) ≤ 6 * uu)
    (hy : ab (y - (a - (m : Rat) * hp)) ≤ tw 82) (hyb : ab y ≤ 7858 / 10000) (hc' : ab (c' - (CS y).re) ≤ tw 300) (hs' : ab (s' - (CS y).im) ≤ tw 300) :
    ab ((rot (n % 4) c s).1 - (rot (m % 4) c' s').1) ≤ 7 * uu ∧ ab ((rot (n % 4) c s).2 - (rot (m % 4) c' s').2) ≤ 7 * uu := by
  have w : tw 82 ≤ 1 / 100000 ∧ tw 82 ≤ tw 80 ∧ 6 * uu + tw 300 + tw 79 + tw 102 ≤ 7 * uu := by decide +kernel
  have w0 := tw_pos 102
  have w1 := tw_pos 79
  obtain ⟨h0, h1, h2⟩ := hp_size
  obtain ⟨X, eX⟩ : ∃ X, X = a - (n : Rat) * hp := ⟨_, rfl⟩
  obtain ⟨Y, eY⟩ : ∃ Y, Y = a - (m : Rat) * hp := ⟨_, rfl⟩
  rw [← eX] at hX hc hs
  rw [← eY] at hy
  have hYb : ab Y ≤ 7859 / 10000 := by
    have x := ab_sub y (y - Y)
    rw [show y - (y - Y) = Y by grind] at x
    clear eX eY
    grind
  have hd : (((n - m : Int)) : Rat) * hp = Y - X := by rw [Rat.intCast_sub, eX, eY]; grind
  have tri3 : ∀ {p q r t : Rat} {e1 e2 e3 : Rat}, ab (p - q) ≤ e1 → ab (q - r) ≤ e2 → ab (r - t) ≤ e3 → ab (p - t) ≤ e1 + e2 + e3 := by
    intro p q r t e1 e2 e3 a1 a2 a3
    have x := ab_tri p q r
    have z := ab_tri p r t
    grind
  have sub := ab_comm
  rcases int_cases hd (Rat.le_trans hX (by decide +kernel)) hYb with e | e | e
  · subst e
    have eXY : X = Y := by rw [eX, eY]
    subst eXY
    obtain ⟨b1, b2⟩ := CS_beside (x := X) (y := y) (Rat.le_trans hX (by decide +kernel)) (Rat.le_trans hy w.2.1)
    rw [ab_comm] at hc' hs' b1 b2
    have r1 := tri3 hc b1 hc'
    have r2 := tri3 hs b2 hs'
    exact rot_near (Rat.le_trans r1 (by grind)) (Rat.le_trans r2 (by grind))
  · have eXY : X + hp = Y := by
      rw [e] at hd
      have e1 : (((m + 1 - m : Int)) : Rat) = 1 := by rw [show m + 1 - m = 1 by omega]; rfl
      rw [e1, Rat.one_mul] at hd
      grind
    obtain ⟨m1, m2⟩ := CS_more' (y := X) (Rat.le_trans hX (by decide +kernel))
    rw [eXY] at m1 m2
    obtain ⟨b1, b2⟩ := CS_beside (x := Y) (y := y) (Rat.le_trans hYb (by decide +kernel)) (Rat.le_trans hy w.2.1)
    rw [e, rot_succ]
    refine rot_near ?_ ?_
    · have r1 := tri3 hc' b1 m1
      have x := ab_tri c' (-(CS X).im) (-s)
      have k : ab (-(CS X).im - -s) = ab (s - (CS X).im) := by rw [show -(CS X).im - -s = s - (CS X).im by grind]
      rw [k] at x
      rw [ab_comm]
      clear hd eXY eX eY
      grind
    · have r1 := tri3 hc' b1 m1
      have r2 := tri3 hs' b2 m2
      have x := ab_tri s' (CS X).re c
      rw [ab_comm (CS X).re c] at x
      rw [ab_comm]
      clear hd eXY eX eY
      grind
  · have eXY : Y + hp = X := by
      rw [e] at hd
      have e1 : (((n - (n + 1) : Int)) : Rat) = -1 := by rw [show n - (n + 1) = -1 by omega]; rfl
      rw [e1] at hd
      grind
    obtain ⟨m1, m2⟩ := CS_more' (y := Y) (Rat.le_trans hYb (by decide +kernel))
    rw [eXY] at m1 m2
    obtain ⟨b1, b2⟩ := CS_beside (x := Y) (y := y) (Rat.le_trans hYb (by decide +kernel)) (Rat.le_trans hy w.2.1)
    rw [e, rot_succ]
    refine rot_near ?_ ?_
    · have x1 := ab_tri c (CS X).re (-(CS Y).im)
      have x2 := ab_tri c (-(CS Y).im) (-s')
      have x3 := ab_tri s' (CS y).im (CS Y).im
      have k : ab (-(CS Y).im - -s') = ab (s' - (CS Y).im) := by rw [show -(CS Y).im - -s' = s' - (CS Y).im by grind]
      rw [k] at x2
      clear hd eXY eX eY
      grind
    · have x1 := ab_tri s (CS X).im (CS Y).re
      have x2 := ab_tri s (CS Y).re c'
      have x3 := ab_tri c' (CS y).re (CS Y).re
      rw [ab_comm (CS Y).re c'] at x2
      clear hd eXY eX eY
      grind
/-- nearness as the law asks for it. -/
theorem law_room {e p : Rat} {k : Nat} (h : e ≤ p) (h2 : p * (1 + tw 200) ≤ pw (-(k : Int))) : e * (1 + tw 200) ≤ pw (-(k : Int)) * ab 1 + pw (-1074) := by
  have w := tw_pos 200
  have t := pw_pos (-1074)
  have a := Rat.mul_le_mul_of_nonneg_right h (show 0 ≤ 1 + tw 200 by grind)
  rw [show ab (1 : Rat) = 1 by decide +kernel, Rat.mul_one]
  generalize e * (1 + tw 200) = z at *
  generalize p * (1 + tw 200) = z2 at *
  grind
theorem room_50 : 8 * uu = pw (-50) ∧ 15 / 2 * uu * (1 + tw 200) ≤ pw (-50) ∧ 3 * uu * (1 + tw 200) ≤ pw (-51) ∧ 31 / 2 * uu * (1 + tw 200) ≤ pw (-49) := by decide +kernel
/-- a sine's inner sum changes by little. -/
theorem sp_lip {s t : Rat} (hs : 0 ≤ s) (hs1 : s ≤ 64 / 100) (ht : 0 ≤ t) (ht1 : t ≤ 64 / 100) : ∀ i, i ≤ 9 → ab (sp s i - sp t i) ≤ ab (s - t)
  | 0, _ => by
    show ab (1 - 1) ≤ _
    rw [show (1 : Rat) - 1 = 0 by decide +kernel, show ab (0 : Rat) = 0 by decide +kernel]
    exact ab_nn _
  | i + 1, hi => by
    have ih := sp_lip hs hs1 ht ht1 i (by omega)
    obtain ⟨_, g0, g1⟩ := cp_size hs hs1 i (by omega)
    have c6 : (6 : Rat) ≤ (((18 - 2 * i) * (19 - 2 * i) : Nat) : Rat) := cast_le.2 (Nat.le_trans (show 6 ≤ 2 * 3 by omega) (Nat.mul_le_mul (by omega) (by omega)))
    show ab ((1 - s / (((18 - 2 * i) * (19 - 2 * i) : Nat) : Rat) * sp s i) - (1 - t / (((18 - 2 * i) * (19 - 2 * i) : Nat) : Rat) * sp t i)) ≤ _
    generalize (((18 - 2 * i) * (19 - 2 * i) : Nat) : Rat) = C at *
    generalize sp s i = S at *
    generalize sp t i = T at *
    obtain ⟨v, hv⟩ : ∃ v, v = 1 / C := ⟨_, rfl⟩
    have v0 : 0 ≤ v := by rw [hv, le_div (by grind)]; grind
    have v1 : v ≤ 1 / 6 := by rw [hv, div_le (by grind)]; grind
    have e : (1 - s / C * S) - (1 - t / C * T) = -(v * ((s - t) * S + t * (S - T))) := by
      have e1 : s / C = s * v := by rw [hv]; grind
      have e2 : t / C = t * v := by rw [hv]; grind
      rw [e1, e2]; grind
    rw [e, ab_neg, ab_mul, ab_pos v0]
    have n := ab_nn (s - t)
    have a1 : ab ((s - t) * S) ≤ ab (s - t) := by
      rw [ab_mul, ab_pos g0]
      have := Rat.mul_le_mul_of_nonneg_left g1 n
      rw [Rat.mul_one] at this; exact this
    have a2 : ab (t * (S - T)) ≤ ab (s - t) := by
      rw [ab_mul, ab_pos ht]
      have := mul_mono ht (show t ≤ 1 by grind) (ab_nn _) ih
      rw [Rat.one_mul] at this; exact this
    have a3 := ab_add ((s - t) * S) (t * (S - T))
    have a4 := mul_mono v0 v1 (ab_nn ((s - t) * S + t * (S - T))) (show ab ((s - t) * S + t * (S - T)) ≤ 2 * ab (s - t) by grind)
    exact Rat.le_trans a4 (by grind)
theorem sp_low {s : Rat} (h0 : 0 ≤ s) (h1 : s ≤ 64 / 100) : 89 / 100 ≤ sp s 9 := by
  obtain ⟨_, g0, g1⟩ := cp_size h0 h1 8 (by omega)
  have e : sp s 9 = 1 - s / (((18 - 2 * 8) * (19 - 2 * 8) : Nat) : Rat) * sp s 8 := rfl
  have c : (((18 - 2 * 8) * (19 - 2 * 8) : Nat) : Rat) = 6 := rfl
  rw [e, c]
  have a := mul_mono (show 0 ≤ s / 6 by grind) (show s / 6 ≤ 107 / 1000 by grind) g0 g1
  grind
/-- the sine of a small float by its own sum, and by the law's. -/
theorem steps_sine {f : Nat} {a : Rat} (hf : V f a) (ha : ab a ≤ 8 / 10) : ∃ s, V (sineF f) s ∧ ab (s - a * sp (a * a) 9) ≤ 41 / 10 * (uu * ab a) + et := by
  have hB := BG_big
  have hu : 0 < uu ∧ uu ≤ 1 / 1000000 := by decide +kernel
  have het := et_uu
  have he0 := et_pos
  have an := ab_nn a
  obtain ⟨s0, _, s1⟩ := yy_small ha
  obtain ⟨z, hz, r1⟩ := hf.mul hf (by rw [ab_pos s0]; grind)
  rw [ab_pos s0] at r1
  obtain ⟨t, ht, r3⟩ := sin_val hz s0 s1 r1 9 (by omega)
  obtain ⟨_, g0, g1⟩ := cp_size s0 s1 9 (by omega)
  generalize sp (a * a) 9 = g at *
  have t' := ab_le.1 r3
  have tb : ab t ≤ 101 / 100 := by rw [ab_le]; constructor <;> grind
  have atb : ab (a * t) ≤ 101 / 100 * ab a := by
    rw [ab_mul]
    have := Rat.mul_le_mul_of_nonneg_left tb an
    grind
  obtain ⟨s, hs, r4⟩ := hf.mul ht (by grind)
  have p := Rat.mul_nonneg (Rat.le_of_lt hu.1) an
  refine ⟨s, hs, ?_⟩
  have x := ab_tri s (a * t) (a * g)
  have e : ab (a * t - a * g) ≤ ab a * (3 * uu) := by
    rw [show a * t - a * g = a * (t - g) by grind, ab_mul]
    exact Rat.mul_le_mul_of_nonneg_left r3 an
  have m := Rat.mul_le_mul_of_nonneg_left atb (Rat.le_of_lt hu.1)
  grind
theorem ee_19 : 2 * ee (8 / 10 : Rat) 19 ≤ tw 61 := by decide +kernel
theorem CS_sine {y : Rat} (hy : ab y ≤ 8 / 10) : ab ((CS y).im - y * sp (y * y) 9) ≤ tw 61 * ab y := by
  have t := cnr_TT_sub (ig y) 19 181
  rw [nr_ig] at t
  have h1 := tail_le' (ab_nn y) (n := 19) (by have : ((19 + 2 : Nat) : Rat) = 21 := rfl
                                              rw [this]; grind) 181
  have e : ee (ab y) 20 = ee (ab y) 19 * ab y / ((19 + 1 : Nat) : Rat) := ee_rat (ab y) 19
  have e0 := ee_mono (ab_nn y) hy 19
  have en := ee_nn (ab_nn y) 19
  have e19 := ee_19
  have yn := ab_nn y
  have n20 : ((19 + 1 : Nat) : Rat) = 20 := rfl
  rw [n20] at e
  have d : 2 * ee (ab y) 20 ≤ tw 61 * ab y := by
    have a := Rat.mul_le_mul_of_nonneg_right (show 2 * ee (ab y) 19 ≤ tw 61 by grind) yn
    have b := mul_nn en yn
    have c : ee (ab y) 19 * ab y / 20 ≤ ee (ab y) 19 * ab y := by rw [div_le (by decide +kernel)]; grind
    rw [e]; grind
  have tot : cnr (CS y - cTT (ig y) 19) ≤ tw 61 * ab y := Rat.le_trans t (Rat.le_trans h1 d)
  have tot' : ab ((CS y).re - (cTT (ig y) 19).re) + ab ((CS y).im - (cTT (ig y) 19).im) ≤ tw 61 * ab y := tot
  rw [(TT19 y).2] at tot'
  have n := ab_nn ((CS y).re - (cTT (ig y) 19).re)
  grind
/-- for a small float: the law asks for a part of the sine alone. -/
theorem sine_room {a y s S sa : Rat} (ha : ab a ≤ 3 / 4) (hy : ab (y - a) ≤ u4 * ab a) (hS : ab (S - a * sp (a * a) 9) ≤ 41 / 10 * (uu * ab a) + et) (hs : ab (sa - (CS y).im) ≤ tw 300 * ab y) : ab (S - sa) * (1 + tw 200) ≤ pw (-((50 : Nat) : Int)) * ab sa + pw (-1074) := by
  obtain ⟨u0, _, u2⟩ := u4_fine
  have u1 : u4 ≤ tw 70 := Rat.le_trans u2 (by decide +kernel)
  have w : tw 70 ≤ 1 / 1000000 ∧ tw 300 + tw 61 ≤ 1 / 100 * uu ∧ tw 70 ≤ 1 / 1000 * uu ∧ tw 200 ≤ 1 / 1000 * uu ∧ uu ≤ 1 / 1000000 ∧ 0 < uu := by decide +kernel
  have an := ab_nn a
  have he0 := et_pos
  have e2 : pw (-1074) = 2 * et := by decide +kernel
  have e8 : pw (-((50 : Nat) : Int)) = 8 * uu := room_50.1.symm
  have ua := Rat.mul_le_mul_of_nonneg_right u1 an
  have ta := Rat.mul_le_mul_of_nonneg_right w.1 an
  have yb : ab y ≤ 11 / 10 * ab a := by
    have x := ab_add (y - a) a
    rw [show y - a + a = y by grind] at x
    grind
  have y8 : ab y ≤ 8 / 10 := by
    have x := ab_add (y - a) a
    rw [show y - a + a = y by grind] at x
    grind
  obtain ⟨s0, _, s1⟩ := yy_small (show ab a ≤ 8 / 10 by grind)
  obtain ⟨t0, _, t1⟩ := yy_small y8
  have lip := sp_lip s0 s1 t0 t1 9 (by omega)
  have low := sp_low s0 s1
  obtain ⟨_, g0, g1⟩ := cp_size s0 s1 9 (by omega)
  obtain ⟨_, h0, h1⟩ := cp_size t0 t1 9 (by omega)
  have cs := CS_sine y8
  -- the two sums
  have d2 : ab (a * a - y * y) ≤ 2 * ab (y - a) := by
    have e : a * a - y * y = -(y - a) * (a + y) := by grind
    rw [e, ab_mul, ab_neg]
    have x := ab_add a y
    have := Rat.mul_le_mul_of_nonneg_left (show ab (a + y) ≤ 2 by grind) (ab_nn (y - a))
    grind
  have d3 : ab (a * sp (a * a) 9 - y * sp (y * y) 9) ≤ 3 * ab (y - a) := by
    have e : a * sp (a * a) 9 - y * sp (y * y) 9 = a * (sp (a * a) 9 - sp (y * y) 9) + -(y - a) * sp (y * y) 9 := by grind
    have x := ab_add (a * (sp (a * a) 9 - sp (y * y) 9)) (-(y - a) * sp (y * y) 9)
    rw [← e, ab_mul, ab_mul, ab_neg, ab_pos h0] at x
    have x1 := mul_mono an (show ab a ≤ 1 by grind) (ab_nn _) (Rat.le_trans lip d2)
    have x2 := Rat.mul_le_mul_of_nonneg_left h1 (ab_nn (y - a))
    grind
  have gl : 89 / 100 * ab a ≤ ab (a * sp (a * a) 9) := by
    rw [ab_mul, ab_pos g0]
    have := Rat.mul_le_mul_of_nonneg_left low an
    grind
  have tya := Rat.mul_le_mul_of_nonneg_left yb (show 0 ≤ tw 300 + tw 61 by have := tw_pos 300; have := tw_pos 61; grind)
  have tya2 := Rat.mul_le_mul_of_nonneg_right w.2.1 an
  have tya3 := Rat.mul_le_mul_of_nonneg_right w.2.2.1 an
  generalize a * sp (a * a) 9 = G at *
  generalize y * sp (y * y) 9 = H at *
  have uan := mul_nn (Rat.le_of_lt w.2.2.2.2.2) an
  -- the law's sine beside the sum
  have near : ab (sa - G) ≤ 2 / 100 * (uu * ab a) := by
    have x1 := ab_tri sa (CS y).im H
    have x2 := ab_tri sa H G
    rw [ab_comm H G] at x2
    have k1 : tw 300 * ab y + tw 61 * ab y ≤ 11 / 10 * (1 / 100 * (uu * ab a)) := by
      have e : (tw 300 + tw 61) * ab y = tw 300 * ab y + tw 61 * ab y := by grind
      rw [e] at tya
      have e3 : (tw 300 + tw 61) * (11 / 10 * ab a) = 11 / 10 * ((tw 300 + tw 61) * ab a) := by grind
      rw [e3] at tya
      have e4 : 1 / 100 * uu * ab a = 1 / 100 * (uu * ab a) := by grind
      rw [e4] at tya2
      generalize (tw 300 + tw 61) * ab a = z at *
      generalize tw 300 * ab y = z1 at *
      generalize tw 61 * ab y = z2 at *
      generalize uu * ab a = z3 at *
      clear x1 x2 hs cs
      grind
    have k2 : ab (y - a) ≤ 1 / 1000 * (uu * ab a) := by
      have e4 : 1 / 1000 * uu * ab a = 1 / 1000 * (uu * ab a) := by grind
      rw [e4] at tya3
      exact Rat.le_trans hy (Rat.le_trans ua tya3)
    generalize uu * ab a = z3 at *
    generalize tw 300 * ab y = z1 at *
    generalize tw 61 * ab y = z2 at *
    clear tya tya2 tya3 ua ta
    grind
  have uan2 := Rat.mul_le_mul_of_nonneg_right w.2.2.2.2.1 an
  have sal : 88 / 100 * ab a ≤ ab sa := by
    have x := ab_sub sa (sa - G)
    rw [show sa - (sa - G) = G by grind] at x
    grind
  have D : ab (S - sa) ≤ 415 / 100 * (uu * ab a) + et := by
    have x := ab_tri S G sa
    rw [ab_comm G sa] at x
    clear hy hs cs lip d2 d3 gl tya tya2 tya3 ua ta
    grind
  have t0' := tw_pos 200
  have L := Rat.mul_le_mul_of_nonneg_right D (show 0 ≤ 1 + tw 200 by grind)
  have R := Rat.mul_le_mul_of_nonneg_left sal (show 0 ≤ 8 * uu by grind)
  have et1 := Rat.mul_le_mul_of_nonneg_left (show tw 200 ≤ 1 / 100 by grind) (Rat.le_of_lt he0)
  have ut1 := Rat.mul_le_mul_of_nonneg_left (show tw 200 ≤ 1 / 100 by grind) uan
  rw [e2, e8]
  have f1 : (415 / 100 * (uu * ab a) + et) * (1 + tw 200) = 415 / 100 * (uu * ab a) + et + 415 / 100 * (uu * ab a * tw 200) + et * tw 200 := by grind
  rw [f1] at L
  have f2 : 8 * uu * (88 / 100 * ab a) = 704 / 100 * (uu * ab a) := by grind
  rw [f2] at R
  clear hy hs cs lip d2 d3 gl tya tya2 tya3 ua ta near D f1 f2 hS sal
  generalize uu * ab a * tw 200 = z1 at *
  generalize et * tw 200 = z2 at *
  generalize uu * ab a = z3 at *
  generalize 8 * uu * ab sa = z4 at *
  generalize ab (S - sa) * (1 + tw 200) = z5 at *
  grind
end Go.Proofs.YtcfkhhnkboealaaDoor
namespace Go.Proofs.YtcfkhhnkboealaaDoor
open Go.RowKit
set_option linter.unusedVariables false
set_option linter.unusedSimpArgs false
set_option maxRecDepth 100000
set_option maxHeartbeats 4000000
open Turns Sizes
/-- a float less its rest, by whole parts. -/
theorem law_part {a y D k H h : Rat} (ha : ab a ≤ 1048576) (hy : ab y ≤ 4) (hk : ab k ≤ 668003) (h1 : 15 / 10 ≤ h) (hh : ab (h - H) ≤ tw 101) (hr : ab (y - (a - k * H)) ≤ 16 * uu) (hD : ab (D - (a - y)) ≤ u4 * ab (a - y)) : ab (D / h - k) ≤ 20 * uu ∧ ab (D / h) ≤ 668004 := by
  obtain ⟨u0, _, u2⟩ := u4_fine
  have u1 : u4 ≤ 1 / 1000000000 * (1 / 1000000000) * (1 / 1000000000) := Rat.le_trans u2 (by decide +kernel)
  have w : 668003 * tw 101 ≤ 1 / 10 * uu ∧ 2000000 * (1 / 1000000000 * (1 / 1000000000) * (1 / 1000000000)) ≤ 1 / 10 * uu ∧ uu ≤ 1 / 1000000 ∧ 0 < uu := by decide +kernel
  have x1 := ab_sub a y
  have k1 := Rat.mul_le_mul_of_nonneg_left (show ab (a - y) ≤ 2000000 by grind) u0
  have k2 := Rat.mul_le_mul_of_nonneg_right u1 (show (0 : Rat) ≤ 2000000 by decide +kernel)
  have kh : ab (k * (H - h)) ≤ 1 / 10 * uu := by
    rw [ab_mul, ab_comm H h]
    exact Rat.le_trans (mul_mono (ab_nn _) hk (ab_nn _) hh) w.1
  have d1 : ab (D - k * h) ≤ 17 * uu := by
    have a1 := ab_sub (D - (a - y)) (y - (a - k * H))
    have a2 := ab_add (D - (a - y) - (y - (a - k * H))) (k * (H - h))
    rw [show D - (a - y) - (y - (a - k * H)) + k * (H - h) = D - k * h by grind] at a2
    generalize u4 * ab (a - y) = z1 at *
    generalize ab (D - (a - y)) = z2 at *
    generalize ab (y - (a - k * H)) = z3 at *
    generalize ab (k * (H - h)) = z4 at *
    clear hh hk hy ha x1
    grind
  have e : D / h - k = (D - k * h) / h := by
    have : h ≠ 0 := by grind
    grind
  have q : ab (D / h - k) ≤ 20 * uu := by
    rw [e, ab_div, ab_pos (show 0 ≤ h by grind), div_le (by grind)]
    have := Rat.mul_le_mul_of_nonneg_left h1 (show 0 ≤ 20 * uu by grind)
    grind
  refine ⟨q, ?_⟩
  have x := ab_add (D / h - k) k
  rw [show D / h - k + k = D / h by grind] at x
  generalize D / h = z at *
  clear e d1
  grind
theorem law_quot {X Q : Rat} (hX : ab X ≤ 668004) (hq : ab (Q - X) ≤ 3 * u4 * ab X) : ab Q ≤ 668005 := by
  obtain ⟨u0, u1, u2⟩ := u4_fine
  have k := Rat.mul_le_mul_of_nonneg_left hX (show 0 ≤ 3 * u4 by grind)
  have x := ab_add (Q - X) X
  rw [show Q - X + X = Q by grind] at x
  grind
theorem law_float {Q c : Rat} (hQ : ab Q ≤ 668005) (hc : ab (c - Q) ≤ uu * ab Q + et) : ab c ≤ 668006 := by
  have hu : 0 < uu ∧ uu ≤ 112 / 1000000000000000000 := by decide +kernel
  have het := et_uu
  have k := Rat.mul_le_mul_of_nonneg_left hQ (Rat.le_of_lt hu.1)
  have x := ab_add (c - Q) Q
  rw [show c - Q + Q = c by grind] at x
  grind
/-- the law's whole number is the one that was taken. -/
theorem law_whole {X Q c : Rat} {k m : Int} (hX : ab (X - (k : Rat)) ≤ 20 * uu) (hXb : ab X ≤ 668004) (hq : ab (Q - X) ≤ 3 * u4 * ab X) (hc : ab (c - Q) ≤ uu * ab Q + et) (hm : ab (c - (m : Rat)) ≤ 1 / 2) : m = k := by
  obtain ⟨u0, u1, u2⟩ := u4_fine
  have hQ := law_quot hXb hq
  have hu : 0 < uu ∧ uu ≤ 112 / 1000000000000000000 := by decide +kernel
  have het := et_uu
  have k1 := Rat.mul_le_mul_of_nonneg_left hXb (show 0 ≤ 3 * u4 by grind)
  have k2 := Rat.mul_le_mul_of_nonneg_left hQ (Rat.le_of_lt hu.1)
  have x1 := ab_add (X - (k : Rat)) (Q - X)
  have x2 := ab_add (X - (k : Rat) + (Q - X)) (c - Q)
  have x3 := ab_sub (X - (k : Rat) + (Q - X) + (c - Q)) (c - (m : Rat))
  rw [show X - (k : Rat) + (Q - X) + (c - Q) - (c - (m : Rat)) = (m : Rat) - (k : Rat) by grind, ← Rat.intCast_sub] at x3
  rcases (show m = k ∨ 1 ≤ (m - k).natAbs by omega) with h | h
  · exact h
  · exfalso
    have c1 := cast_le.2 h
    rw [natAbsQ] at c1
    have e : ((1 : Nat) : Rat) = 1 := rfl
    rw [e] at c1
    generalize ab ((m - k : Int) : Rat) = z at *
    generalize ab (X - (k : Rat) + (Q - X) + (c - Q)) = z1 at *
    generalize ab (X - (k : Rat) + (Q - X)) = z2 at *
    generalize ab (X - (k : Rat)) = z3 at *
    generalize ab (c - (m : Rat)) = z4 at *
    clear e hQ
    grind
/-- what the law takes as the rest. -/
theorem law_rest {a k H h P T : Rat} (hk : ab k ≤ 668003) (hh : ab (h - H) ≤ tw 101) (h0 : 0 ≤ h) (h1 : h ≤ 63 / 10) (ha : ab (a - k * H) ≤ 4) (hP : ab (P - k * h) ≤ u4 * ab (k * h)) (hT : ab (T - (a - P)) ≤ u4 * ab (a - P)) : ab (T - (a - k * H)) ≤ tw 80 := by
  obtain ⟨u0, u1, u2⟩ := u4_fine
  have w : 668003 * tw 101 + 5000000 * tw 390 ≤ tw 80 ∧ 668003 * tw 101 ≤ 1 / 1000 := by decide +kernel
  have w0 := tw_pos 390
  have m1 : ab (k * h) ≤ 4300000 := by
    rw [ab_mul, ab_pos h0]
    exact Rat.le_trans (mul_mono (ab_nn _) hk h0 h1) (by decide +kernel)
  have k1 := Rat.le_trans hP (Rat.mul_le_mul_of_nonneg_left m1 u0)
  have d : ab (k * (h - H)) ≤ 668003 * tw 101 := by
    rw [ab_mul]
    exact mul_mono (ab_nn _) hk (ab_nn _) hh
  have aP : ab (a - P) ≤ 5 := by
    have x1 := ab_sub (a - k * H) (P - k * h)
    have x2 := ab_sub (a - k * H - (P - k * h)) (k * (h - H))
    rw [show a - k * H - (P - k * h) - k * (h - H) = a - P by grind] at x2
    clear hh hk m1 hP hT h0 h1
    grind
  have k2 := Rat.le_trans hT (Rat.mul_le_mul_of_nonneg_left aP u0)
  have x1 := ab_sub (T - (a - P)) (P - k * h)
  have x2 := ab_sub (T - (a - P) - (P - k * h)) (k * (h - H))
  rw [show T - (a - P) - (P - k * h) - k * (h - H) = T - (a - k * H) by grind] at x2
  clear hh hk m1 hP hT h0 h1 ha aP
  generalize ab (T - (a - P) - (P - k * h)) = z1 at *
  generalize ab (T - (a - P)) = z2 at *
  generalize ab (P - k * h) = z3 at *
  generalize ab (k * (h - H)) = z4 at *
  generalize ab (T - (a - k * H)) = z5 at *
  generalize tw 101 = y1 at *
  generalize tw 390 = y2 at *
  generalize tw 80 = y3 at *
  grind
theorem law_near {x v T e f : Rat} (h1 : ab (x - v) ≤ e) (h2 : ab (T - v) ≤ tw 80) (h : e + tw 80 ≤ f) : ab (x - T) ≤ f := by
  have a := ab_tri x v T
  rw [ab_comm v T] at a
  grind
theorem room_sums : 5 / 2 * uu + tw 80 ≤ 3 * uu ∧ 15 * uu + tw 80 ≤ 31 / 2 * uu ∧ 7 * uu + tw 80 ≤ 15 / 2 * uu := by decide +kernel
/-- the law's circle. -/
theorem circle_near {p C : Rat} (hp1 : ab (p - 2 * hp) ≤ tw 103) (hC : ab (C - 2 * p) ≤ u4 * ab (2 * p)) : ab (C - 4 * hp) ≤ tw 101 ∧ 6 ≤ C ∧ C ≤ 63 / 10 := by
  obtain ⟨u0, u1, u2⟩ := u4_fine
  have hb : 15707 / 10000 ≤ hp ∧ hp ≤ 15708 / 10000 := by decide +kernel
  have w : 2 * tw 103 + 10 * tw 390 ≤ tw 101 ∧ tw 103 ≤ 1 / 1000000 ∧ 10 * tw 390 ≤ 1 / 1000000 := by decide +kernel
  have w0 := tw_pos 390
  have pp := ab_le.1 hp1
  generalize hp = H at *
  generalize tw 103 = z at *
  generalize tw 101 = z1 at *
  generalize tw 390 = z9 at *
  have p2 : ab (2 * p) ≤ 10 := by
    rw [ab_le]
    constructor <;> grind
  have k := Rat.mul_le_mul_of_nonneg_left p2 u0
  have cc := ab_le.1 (Rat.le_trans hC k)
  refine ⟨?_, ?_, ?_⟩
  · rw [ab_le]
    constructor <;> grind
  all_goals grind
theorem tw_103 {x : Rat} (h : x ≤ tw 103) : x ≤ tw 101 := Rat.le_trans h (tw_le (by decide))
/-- where no quarter is taken. -/
theorem quarter_id {f : Nat} {a : Rat} (hf : V f a) (ha : ab a ≤ 3 / 4) (hfit : fit f = true) : quarterX f = f ∧ quarterN f = 0 := by
  have hB := BG_big
  have hu : 0 < uu ∧ uu ≤ 1 / 1000000000000000 := by decide +kernel
  have het := et_uu
  obtain ⟨c1, c2, c3⟩ := cQ_hp
  have ac : ab (a * cQ) ≤ 48 / 100 := by
    rw [ab_mul, ab_pos c2]
    have := mul_mono (ab_nn a) ha c2 c3
    grind
  obtain ⟨p, hp1, r1⟩ := hf.mul V.cQ (Rat.le_trans ac (Rat.le_trans (by decide +kernel) hB))
  have k := Rat.mul_le_mul_of_nonneg_left ac (Rat.le_of_lt hu.1)
  have pb : ab p ≤ 49 / 100 := by
    have x := ab_add (p - a * cQ) (a * cQ)
    rw [show p - a * cQ + a * cQ = p by grind] at x
    grind
  obtain ⟨n, hn, w1, w2⟩ := hp1.whole (Rat.le_trans pb (by decide +kernel))
  have hM : V (quarterM f) (n : Rat) := hn
  have hn0 : n = 0 := by
    have x := ab_sub p (p - (n : Rat))
    rw [show p - (p - (n : Rat)) = (n : Rat) by grind] at x
    rcases (show n = 0 ∨ 1 ≤ n.natAbs by omega) with h | h
    · exact h
    · exfalso
      have c := cast_le.2 h
      rw [natAbsQ] at c
      have e : ((1 : Nat) : Rat) = 1 := rfl
      rw [e] at c
      generalize ab (n : Rat) = z at *
      generalize ab (p - (n : Rat)) = z2 at *
      grind
  subst hn0
  have hz : rung (quarterM f) = 0 := by
    have hs := hM.size
    have e0 : ((0 : Int) : Rat) = 0 := rfl
    rw [e0, show ab (0 : Rat) = 0 by decide +kernel] at hs
    have hx := div_self_mul (mval (rung (quarterM f)) : Rat) UQ_ne
    rw [← hs, Rat.zero_mul] at hx
    have h1 : mval (rung (quarterM f)) = 0 := by
      have : ((0 : Nat) : Rat) = (mval (rung (quarterM f)) : Rat) := hx
      exact (by exact_mod_cast this.symm)
    rcases Nat.eq_zero_or_pos (rung (quarterM f)) with h | h
    · exact h
    · have := mval_pos h; omega
  have hfe : feq (quarterM f) 0 = true := by rw [feq_zero (fin_notN hM.fin)]; exact decide_eq_true hz
  unfold quarterX quarterN
  rw [hfit, hfe]
  exact ⟨(if_pos rfl).trans (if_pos rfl), (if_pos rfl).trans (if_pos rfl)⟩
theorem turnS_id {f : Nat} {a : Rat} (hf : V f a) (ha : ab a ≤ 3 / 4) (hfit : fit f = true) : turnS f = sineF f := by
  obtain ⟨h1, h2⟩ := quarter_id hf ha hfit
  unfold turnS
  rw [h1, h2]
  exact if_pos rfl
/-- no quarter of the law's either. -/
theorem law_none {a y : Rat} {m : Int} (ha : ab a ≤ 3 / 4) (hy : ab y ≤ 7858 / 10000) (h : ab (y - (a - (m : Rat) * hp)) ≤ tw 82) : m = 0 := by
  obtain ⟨h0, h1, h2⟩ := hp_size
  have w : tw 82 ≤ 1 / 1000 := by decide +kernel
  rcases (show m = 0 ∨ 1 ≤ m.natAbs by omega) with q | q
  · exact q
  · exfalso
    have c := cast_le.2 q
    rw [natAbsQ] at c
    have e : ((1 : Nat) : Rat) = 1 := rfl
    rw [e] at c
    have k := Rat.mul_le_mul_of_nonneg_right c h0
    have x1 := ab_sub a y
    have x2 := ab_add (a - y) (y - (a - (m : Rat) * hp))
    rw [show a - y + (y - (a - (m : Rat) * hp)) = (m : Rat) * hp by grind, ab_mul, ab_pos h0] at x2
    generalize ab (m : Rat) * hp = z at *
    generalize ab (y - (a - (m : Rat) * hp)) = z2 at *
    clear c
    grind
end Go.Proofs.YtcfkhhnkboealaaDoor
