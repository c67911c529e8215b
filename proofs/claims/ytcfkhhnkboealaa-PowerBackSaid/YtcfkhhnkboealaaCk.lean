/- The turn by a quarter more, part by part. No text of the program. -/
import Derived.Test.YtcfkhhnkboealaaCij
namespace Go.Proofs.Ytcfkhhnkboealaa
set_option linter.unusedVariables false
set_option linter.unusedSimpArgs false
set_option maxRecDepth 100000
set_option maxHeartbeats 4000000
open Turns Sizes
theorem CS_more' {y : Rat} (h : ab y ≤ 6) : ab ((CS (y + hp)).re - -(CS y).im) ≤ tw 102 ∧ ab ((CS (y + hp)).im - (CS y).re) ≤ tw 102 := by
  have a := CS_more h
  have b : ab ((CS (y + hp)).re - ((CS y).re * 0 - (CS y).im * 1)) + ab ((CS (y + hp)).im - ((CS y).re * 1 + (CS y).im * 0)) ≤ tw 102 := a
  rw [show (CS y).re * 0 - (CS y).im * 1 = -(CS y).im by grind, show (CS y).re * 1 + (CS y).im * 0 = (CS y).re by grind] at b
  have n1 := ab_nn ((CS (y + hp)).re - -(CS y).im)
  have n2 := ab_nn ((CS (y + hp)).im - (CS y).re)
  constructor <;> grind
theorem rot_succ (n : Int) (c s : Rat) : rot ((n + 1) % 4) c s = rot (n % 4) (-s) c := by
  unfold rot
  have nn : -(-s) = s := by grind
  rcases (show n % 4 = 0 ∨ n % 4 = 1 ∨ n % 4 = 2 ∨ n % 4 = 3 by omega) with h | h | h | h
  · rw [h, show (n + 1) % 4 = 1 by omega, if_neg (by decide), if_pos rfl, if_pos rfl]
  · rw [h, show (n + 1) % 4 = 2 by omega, if_neg (by decide), if_neg (by decide), if_pos rfl, if_neg (by decide), if_pos rfl]
  · rw [h, show (n + 1) % 4 = 3 by omega, if_neg (by decide), if_neg (by decide), if_neg (by decide), if_neg (by decide), if_neg (by decide), if_pos rfl, nn]
  · rw [h, show (n + 1) % 4 = 0 by omega, if_pos rfl, if_neg (by decide), if_neg (by decide), if_neg (by decide), nn]
theorem rot_near {k : Int} {c s c' s' e : Rat} (h1 : ab (c - c') ≤ e) (h2 : ab (s - s') ≤ e) : ab ((rot k c s).1 - (rot k c' s').1) ≤ e ∧ ab ((rot k c s).2 - (rot k c' s').2) ≤ e := by
  have t : ∀ x y : Rat, ab (x - y) ≤ e → ab (-x - -y) ≤ e := by
    intro x y h
    rw [show -x - -y = -(x - y) by grind, ab_neg]; exact h
  unfold rot
  by_cases k0 : k = 0
  · rw [if_pos k0, if_pos k0]; exact ⟨h1, h2⟩
  · rw [if_neg k0, if_neg k0]
    by_cases k1 : k = 1
    · rw [if_pos k1, if_pos k1]; exact ⟨t _ _ h2, h1⟩
    · rw [if_neg k1, if_neg k1]
      by_cases k2 : k = 2
      · rw [if_pos k2, if_pos k2]; exact ⟨t _ _ h1, t _ _ h2⟩
      · rw [if_neg k2, if_neg k2]; exact ⟨h2, t _ _ h1⟩
/-- turned back by whole quarters, and on again. -/
def BackAt (b : Rat) (m : Int) (e : Rat) : Prop := ab ((rot (m % 4) (CS (b - (m : Rat) * hp)).re (CS (b - (m : Rat) * hp)).im).1 - (CS b).re) ≤ e ∧ ab ((rot (m % 4) (CS (b - (m : Rat) * hp)).re (CS (b - (m : Rat) * hp)).im).2 - (CS b).im) ≤ e
theorem back_step {b e : Rat} {m m' : Int} (hm' : m' = m + 1) (h : ab (b - ((m' : Int) : Rat) * hp) ≤ 6) : (BackAt b m e → BackAt b m' (e + tw 102)) ∧ (BackAt b m' e → BackAt b m (e + tw 102)) := by
  subst hm'
  obtain ⟨X, hX⟩ : ∃ X, X = b - ((m + 1 : Int) : Rat) * hp := ⟨_, rfl⟩
  have hY : b - (m : Rat) * hp = X + hp := by
    have e1 : ((m + 1 : Int) : Rat) = (m : Rat) + 1 := by rw [Rat.intCast_add]; rfl
    rw [hX, e1]; grind
  unfold BackAt
  rw [hY, ← hX]
  rw [← hX] at h
  obtain ⟨m1, m2⟩ := CS_more' h
  rw [rot_succ]
  have n1 : ab (-(CS X).im - (CS (X + hp)).re) ≤ tw 102 := by rw [ab_comm]; exact m1
  have n2 : ab ((CS X).re - (CS (X + hp)).im) ≤ tw 102 := by rw [ab_comm]; exact m2
  obtain ⟨r1, r2⟩ := rot_near (k := m % 4) n1 n2
  have fin : ∀ {p q r e1 e2 : Rat}, ab (p - q) ≤ e2 → ab (q - r) ≤ e1 → ab (p - r) ≤ e1 + e2 := by
    intro p q r e1 e2 a1 a2
    have := ab_tri p q r
    grind
  constructor
  · rintro ⟨a, c⟩
    exact ⟨fin r1 a, fin r2 c⟩
  · rintro ⟨a, c⟩
    rw [ab_comm] at r1 r2
    exact ⟨fin r1 a, fin r2 c⟩
theorem back_zero (b : Rat) : BackAt b 0 0 := by
  unfold BackAt
  have e0 : ((0 : Int) : Rat) = 0 := rfl
  rw [e0, show b - 0 * hp = b by grind]
  have r : rot (0 % 4) (CS b).re (CS b).im = ((CS b).re, (CS b).im) := if_pos rfl
  rw [r]
  have z : ∀ x : Rat, ab (x - x) ≤ 0 := fun x => by rw [show x - x = 0 by grind]; decide +kernel
  exact ⟨z _, z _⟩
theorem back_mono {b e f : Rat} {m : Int} (h : BackAt b m e) (k : e ≤ f) : BackAt b m f := ⟨Rat.le_trans h.1 k, Rat.le_trans h.2 k⟩
theorem six_in {b H k l : Rat} (h0 : 0 ≤ H) (h1 : -4 ≤ b ∧ b ≤ 4) (h2 : -(8 / 10) ≤ b - k * H ∧ b - k * H ≤ 8 / 10) (h3 : 0 ≤ l ∧ l ≤ k ∨ k ≤ l ∧ l ≤ 0) : ab (b - l * H) ≤ 6 := by
  rw [ab_le]
  rcases h3 with ⟨a, c⟩ | ⟨a, c⟩
  · have := Rat.mul_le_mul_of_nonneg_right c h0
    have := mul_nn a h0
    constructor <;> grind
  · have := Rat.mul_le_mul_of_nonneg_right a h0
    have := mul_nn (show 0 ≤ -l by grind) h0
    constructor <;> grind
theorem back_three {b : Rat} (hb : ab b ≤ 4) {m : Int} (hm : m.natAbs ≤ 3) (hs : ab (b - (m : Rat) * hp) ≤ 8 / 10) : BackAt b m (tw 100) := by
  obtain ⟨h0, h1, h2⟩ := hp_size
  have w1 : 0 + tw 102 ≤ tw 100 := by decide +kernel
  have w2 : 0 + tw 102 + tw 102 ≤ tw 100 := by decide +kernel
  have w3 : 0 + tw 102 + tw 102 + tw 102 ≤ tw 100 := by decide +kernel
  have e1 : ((1 : Int) : Rat) = 1 := rfl
  have e2 : ((2 : Int) : Rat) = 2 := rfl
  have e3 : ((3 : Int) : Rat) = 3 := rfl
  have en0 : ((0 : Int) : Rat) = 0 := rfl
  have en1 : ((-1 : Int) : Rat) = -1 := rfl
  have en2 : ((-2 : Int) : Rat) = -2 := rfl
  have en3 : ((-3 : Int) : Rat) = -3 := rfl
  have z := back_zero b
  have bb := ab_le.1 hb
  have bs := ab_le.1 hs
  rcases (show m = 0 ∨ m = 1 ∨ m = 2 ∨ m = 3 ∨ m = -1 ∨ m = -2 ∨ m = -3 by omega) with h | h | h | h | h | h | h
  · subst h; exact back_mono z (Rat.le_of_lt (tw_pos _))
  · subst h
    rw [e1] at bs
    have s1 := (back_step (e := 0) (m := 0) (m' := 1) (b := b) (by decide) (by rw [e1]; exact six_in h0 bb bs (by decide +kernel))).1 z
    exact back_mono s1 w1
  · subst h
    rw [e2] at bs
    have s1 := (back_step (e := 0) (m := 0) (m' := 1) (b := b) (by decide) (by rw [e1]; exact six_in h0 bb bs (by decide +kernel))).1 z
    have s2 := (back_step (m := 1) (m' := 2) (b := b) (by decide) (by rw [e2]; exact six_in h0 bb bs (by decide +kernel))).1 s1
    exact back_mono s2 w2
  · subst h
    rw [e3] at bs
    have s1 := (back_step (e := 0) (m := 0) (m' := 1) (b := b) (by decide) (by rw [e1]; exact six_in h0 bb bs (by decide +kernel))).1 z
    have s2 := (back_step (m := 1) (m' := 2) (b := b) (by decide) (by rw [e2]; exact six_in h0 bb bs (by decide +kernel))).1 s1
    have s3 := (back_step (m := 2) (m' := 3) (b := b) (by decide) (by rw [e3]; exact six_in h0 bb bs (by decide +kernel))).1 s2
    exact back_mono s3 w3
  · subst h
    rw [en1] at bs
    have s1 := (back_step (e := 0) (m := -1) (m' := 0) (b := b) (by decide) (by rw [en0]; exact six_in h0 bb bs (by decide +kernel))).2 z
    exact back_mono s1 w1
  · subst h
    rw [en2] at bs
    have s1 := (back_step (e := 0) (m := -1) (m' := 0) (b := b) (by decide) (by rw [en0]; exact six_in h0 bb bs (by decide +kernel))).2 z
    have s2 := (back_step (m := -2) (m' := -1) (b := b) (by decide) (by rw [en1]; exact six_in h0 bb bs (by decide +kernel))).2 s1
    exact back_mono s2 w2
  · subst h
    rw [en3] at bs
    have s1 := (back_step (e := 0) (m := -1) (m' := 0) (b := b) (by decide) (by rw [en0]; exact six_in h0 bb bs (by decide +kernel))).2 z
    have s2 := (back_step (m := -2) (m' := -1) (b := b) (by decide) (by rw [en1]; exact six_in h0 bb bs (by decide +kernel))).2 s1
    have s3 := (back_step (m := -3) (m' := -2) (b := b) (by decide) (by rw [en2]; exact six_in h0 bb bs (by decide +kernel))).2 s2
    exact back_mono s3 w3
def piHi : Rat := ((884279719003555 : Nat) : Rat) / ((281474976710656 : Nat) : Rat)
def piLo : Rat := 4 * L4
theorem pi_parts : piHi + piLo = 2 * hp ∧ piHi = 4 * H4 ∧ 3141592 / 1000000 ≤ piHi ∧ piHi ≤ 3141593 / 1000000 ∧ 11 / 10 * uu ≤ piLo ∧ piLo ≤ 111 / 100 * uu := by decide +kernel
theorem fle_val {f g : Nat} {a b : Rat} (hf : V f a) (hg : V g b) : fle f g = decide (a ≤ b) := by
  by_cases h : a ≤ b
  · rw [decide_eq_true h]; exact fle_vals hf hg h
  · rw [decide_eq_false h]
    rw [fle_eq, fin_notN hf.fin, fin_notN hg.fin]
    have := (sval_vals hg hf).2 (by grind)
    simp; omega
theorem V.PH : V 4614256656552045848 piHi := vfrac (by decide) (by decide) (by decide +kernel)
end Go.Proofs.Ytcfkhhnkboealaa
