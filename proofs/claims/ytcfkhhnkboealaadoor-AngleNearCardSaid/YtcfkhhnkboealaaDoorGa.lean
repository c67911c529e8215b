/- The law's angle of a place: what it asks for, by the turn's parts. -/
import Derived.Test.YtcfkhhnkboealaaDoorDmn
namespace Go.Proofs.YtcfkhhnkboealaaDoor
open Go.RowKit
set_option linter.unusedVariables false
set_option linter.unusedSimpArgs false
set_option maxRecDepth 100000
set_option maxHeartbeats 4000000
open Turns Sizes
theorem diff_sz {w1 w2 : World} {g1 g2 : Nat} {p t : Rat} (h1 : FV w1 g1 p) (h2 : FV w2 g2 t) (s1 : Sz 4097 p) (s2 : Sz 4097 t) : Sz 5000 (p - t) ∧ Sz 5000 (p + t) := by
  obtain ⟨a, ha⟩ := h1.grid s1
  obtain ⟨b, hb⟩ := h2.grid s2
  have up : ∀ {x : Rat}, Sz 4097 x → ab x ≤ pw ((4097 : Nat) : Int) := by
    intro x h
    rcases h with h | h
    · rw [h, show ab (0 : Rat) = 0 by decide +kernel]; exact Rat.le_of_lt (pw_pos _)
    · exact h.2
  have u1 := up s1
  have u2 := up s2
  have e : pw ((4098 : Nat) : Int) = 2 * pw ((4097 : Nat) : Int) := by
    rw [show ((4098 : Nat) : Int) = 1 + ((4097 : Nat) : Int) by omega, pw_add, pw_one]
  constructor
  · refine Sz.grid (z := a - b) (K := 4499) (M := 4098) ?_ ?_ (by omega) (by omega)
    · rw [Rat.intCast_sub, ha, hb]; grind
    · have := ab_sub p t
      rw [e]
      generalize pw ((4097 : Nat) : Int) = P2 at *
      clear ha hb
      grind
  · refine Sz.grid (z := a + b) (K := 4499) (M := 4098) ?_ ?_ (by omega) (by omega)
    · rw [Rat.intCast_add, ha, hb]; grind
    · have := ab_add p t
      rw [e]
      generalize pw ((4097 : Nat) : Int) = P2 at *
      clear ha hb
      grind
/-- a number above nought has the sign 1. -/
theorem fsign_c {gx : Nat} {r : Rat} {w : World} (hx : FV w gx r) : Calls Tryd.prog 83 #[.pointer (some ⟨gx, 0, none⟩)] w (fun e w' => ∃ c : Int, e = .returned (.int .i64 c) ∧ (0 < r → c = 1) ∧ Grown w w') := by
  obtain ⟨b, v, E, A, h1, h2, h3, rfl, h5⟩ := hx
  obtain ⟨s, cap, rfl, l1, l2, l3⟩ := h2
  have x0 := h1.at'.c0
  have x1 := h1.at'.c1
  have x4 := h1.at'.c4
  have HG := Lib.hid (Grown.refl w)
  obtain ⟨n, hn⟩ : ∃ n, (digs A).length = n := ⟨_, rfl⟩
  have HP : RowKit.Hid (0 < sq b ((A : Rat) * pw E) → b = false ∧ n ≠ 0) := Lib.hid (fun h => by
    have p := pw_pos E
    have q := mul_nn (cast_nn A) (Rat.le_of_lt p)
    constructor
    · cases b
      · rfl
      · exfalso; simp only [sq, if_true] at h; grind
    · intro h0
      have hA : A = 0 := digs_nil.1 (List.length_eq_zero_iff.1 (by omega))
      rw [hA] at h
      have z0 : ((0 : Nat) : Rat) = 0 := rfl
      rw [z0, Rat.zero_mul] at h
      cases b
      · exact absurd h (by decide +kernel)
      · exact absurd h (by decide +kernel))
  rw [hn] at x1
  clear h1 l1 l2 l3 h3 h5
  generalize sq b ((A : Rat) * pw E) = r at *
  by_cases hn0 : n = 0
  · subst hn0
    have hb : RowKit.Hid (¬ 0 < r) := Lib.hid (fun h => (HP.out h).2 rfl)
    go_enter Tryd.func83, Tryd.ntmps83
    go_wp2_with fail
    all_goals go_ret
    all_goals exact ⟨_, rfl, fun h => absurd h hb.out, by first | exact HG.out | exact gr_drewN _ HG.out⟩
  · have hni : ((n : Int) == 0) = false := by rw [beq_eq_false_iff_ne]; omega
    cases b
    · skip
      go_enter Tryd.func83, Tryd.ntmps83
      go_wp2_with fail
      all_goals go_ret
      all_goals exact ⟨_, rfl, fun _ => rfl, by first | exact HG.out | exact gr_drewN _ HG.out⟩
    · have hb : RowKit.Hid (¬ 0 < r) := Lib.hid (fun h => by have := (HP.out h).1; cases this)
      go_enter Tryd.func83, Tryd.ntmps83
      go_wp2_with fail
      all_goals go_ret
      all_goals exact ⟨_, rfl, fun h => absurd h hb.out, by first | exact HG.out | exact gr_drewN _ HG.out⟩
/-- turned back by whole quarters, and on again. -/
def BackAt (b : Rat) (m : Int) (e : Rat) : Prop := ab ((rot (m % 4) (CS (b - (m : Rat) * hp)).re (CS (b - (m : Rat) * hp)).im).1 - (CS b).re) ≤ e ∧ ab ((rot (m % 4) (CS (b - (m : Rat) * hp)).re (CS (b - (m : Rat) * hp)).im).2 - (CS b).im) ≤ e
theorem back_step {b e : Rat} {m m' : Int} (hm' : m' = m + 1) (h : ab (b - ((m' : Int) : Rat) * hp) ≤ 6) : (BackAt b m e → BackAt b m' (e + tw 102)) ∧ (BackAt b m' e → BackAt b m (e + tw 102)) := by
  subst hm'
  obtain ⟨X, hX⟩ : ∃ X, X = b - ((m + 1 : Int) : Rat) * hp := ⟨_, rfl⟩
  have hY : b - (m : Rat) * hp = X + hp := by
    have e1 : ((m + 1 : Int) : Rat) = (m : Rat) + 1 := by rw [Rat.intCast_add]; rfl
    rw [hX, e1]; grind
  unfold BackAt
  rw [hY, ← hX]
  rw [← hX] at h
  obtain ⟨m1, m2⟩ := CS_more' h
  rw [rot_succ]
  have n1 : ab (-(CS X).im - (CS (X + hp)).re) ≤ tw 102 := by rw [ab_comm]; exact m1
  have n2 : ab ((CS X).re - (CS (X + hp)).im) ≤ tw 102 := by rw [ab_comm]; exact m2
  obtain ⟨r1, r2⟩ := rot_near (k := m % 4) n1 n2
  have fin : ∀ {p q r e1 e2 : Rat}, ab (p - q) ≤ e2 → ab (q - r) ≤ e1 → ab (p - r) ≤ e1 + e2 := by
    intro p q r e1 e2 a1 a2
    have := ab_tri p q r
    grind
  constructor
  · rintro ⟨a, c⟩
    exact ⟨fin r1 a, fin r2 c⟩
  · rintro ⟨a, c⟩
    rw [ab_comm] at r1 r2
    exact ⟨fin r1 a, fin r2 c⟩
theorem back_zero (b : Rat) : BackAt b 0 0 := by
  unfold BackAt
  have e0 : ((0 : Int) : Rat) = 0 := rfl
  rw [e0, show b - 0 * hp = b by grind]
  have r : rot (0 % 4) (CS b).re (CS b).im = ((CS b).re, (CS b).im) := if_pos rfl
  rw [r]
  have z : ∀ x : Rat, ab (x - x) ≤ 0 := fun x => by rw [show x - x = 0 by grind]; decide +kernel
  exact ⟨z _, z _⟩
theorem back_mono {b e f : Rat} {m : Int} (h : BackAt b m e) (k : e ≤ f) : BackAt b m f := ⟨Rat.le_trans h.1 k, Rat.le_trans h.2 k⟩
theorem six_in {b H k l : Rat} (h0 : 0 ≤ H) (h1 : -4 ≤ b ∧ b ≤ 4) (h2 : -(8 / 10) ≤ b - k * H ∧ b - k * H ≤ 8 / 10) (h3 : 0 ≤ l ∧ l ≤ k ∨ k ≤ l ∧ l ≤ 0) : ab (b - l * H) ≤ 6 := by
  rw [ab_le]
  rcases h3 with ⟨a, c⟩ | ⟨a, c⟩
  · have := Rat.mul_le_mul_of_nonneg_right c h0
    have := mul_nn a h0
    constructor <;> grind
  · have := Rat.mul_le_mul_of_nonneg_right a h0
    have := mul_nn (show 0 ≤ -l by grind) h0
    constructor <;> grind
theorem back_three {b : Rat} (hb : ab b ≤ 4) {m : Int} (hm : m.natAbs ≤ 3) (hs : ab (b - (m : Rat) * hp) ≤ 8 / 10) : BackAt b m (tw 100) := by
  obtain ⟨h0, h1, h2⟩ := hp_size
  have w1 : 0 + tw 102 ≤ tw 100 := by decide +kernel
  have w2 : 0 + tw 102 + tw 102 ≤ tw 100 := by decide +kernel
  have w3 : 0 + tw 102 + tw 102 + tw 102 ≤ tw 100 := by decide +kernel
  have e1 : ((1 : Int) : Rat) = 1 := rfl
  have e2 : ((2 : Int) : Rat) = 2 := rfl
  have e3 : ((3 : Int) : Rat) = 3 := rfl
  have en0 : ((0 : Int) : Rat) = 0 := rfl
  have en1 : ((-1 : Int) : Rat) = -1 := rfl
  have en2 : ((-2 : Int) : Rat) = -2 := rfl
  have en3 : ((-3 : Int) : Rat) = -3 := rfl
  have z := back_zero b
  have bb := ab_le.1 hb
  have bs := ab_le.1 hs
  rcases (show m = 0 ∨ m = 1 ∨ m = 2 ∨ m = 3 ∨ m = -1 ∨ m = -2 ∨ m = -3 by omega) with h | h | h | h | h | h | h
  · subst h; exact back_mono z (Rat.le_of_lt (tw_pos _))
  · subst h
    rw [e1] at bs
    have s1 := (back_step (e := 0) (m := 0) (m' := 1) (b := b) (by decide) (by rw [e1]; exact six_in h0 bb bs (by decide +kernel))).1 z
    exact back_mono s1 w1
  · subst h
    rw [e2] at bs
    have s1 := (back_step (e := 0) (m := 0) (m' := 1) (b := b) (by decide) (by rw [e1]; exact six_in h0 bb bs (by decide +kernel))).1 z
    have s2 := (back_step (m := 1) (m' := 2) (b := b) (by decide) (by rw [e2]; exact six_in h0 bb bs (by decide +kernel))).1 s1
    exact back_mono s2 w2
  · subst h
    rw [e3] at bs
    have s1 := (back_step (e := 0) (m := 0) (m' := 1) (b := b) (by decide) (by rw [e1]; exact six_in h0 bb bs (by decide +kernel))).1 z
    have s2 := (back_step (m := 1) (m' := 2) (b := b) (by decide) (by rw [e2]; exact six_in h0 bb bs (by decide +kernel))).1 s1
    have s3 := (back_step (m := 2) (m' := 3) (b := b) (by decide) (by rw [e3]; exact six_in h0 bb bs (by decide +kernel))).1 s2
    exact back_mono s3 w3
  · subst h
    rw [en1] at bs
    have s1 := (back_step (e := 0) (m := -1) (m' := 0) (b := b) (by decide) (by rw [en0]; exact six_in h0 bb bs (by decide +kernel))).2 z
    exact back_mono s1 w1
  · subst h
    rw [en2] at bs
    have s1 := (back_step (e := 0) (m := -1) (m' := 0) (b := b) (by decide) (by rw [en0]; exact six_in h0 bb bs (by decide +kernel))).2 z
    have s2 := (back_step (m := -2) (m' := -1) (b := b) (by decide) (by rw [en1]; exact six_in h0 bb bs (by decide +kernel))).2 s1
    exact back_mono s2 w2
  · subst h
    rw [en3] at bs
    have s1 := (back_step (e := 0) (m := -1) (m' := 0) (b := b) (by decide) (by rw [en0]; exact six_in h0 bb bs (by decide +kernel))).2 z
    have s2 := (back_step (m := -2) (m' := -1) (b := b) (by decide) (by rw [en1]; exact six_in h0 bb bs (by decide +kernel))).2 s1
    have s3 := (back_step (m := -3) (m' := -2) (b := b) (by decide) (by rw [en2]; exact six_in h0 bb bs (by decide +kernel))).2 s2
    exact back_mono s3 w3
/-- THE LAW'S TURN of a small angle is the turn by it. -/
theorem turn_true {b y sa ca : Rat} {m : Int} (hb : ab b ≤ 4) (h1 : ab (y - (b - (m : Rat) * hp)) ≤ tw 82) (h2 : ab y ≤ 7858 / 10000) (h3 : RotOk y m sa ca) : ab (ca - (CS b).re) ≤ tw 78 ∧ ab (sa - (CS b).im) ≤ tw 78 := by
  obtain ⟨h0, hp1, hp2⟩ := hp_size
  have w : tw 82 ≤ 1 / 1000 ∧ tw 82 ≤ tw 80 ∧ tw 100 + (tw 79 + tw 300) + tw 300 ≤ tw 78 := by decide +kernel
  have hs : ab (b - (m : Rat) * hp) ≤ 79 / 100 := by
    have x := ab_sub y (y - (b - (m : Rat) * hp))
    rw [show y - (y - (b - (m : Rat) * hp)) = b - (m : Rat) * hp by grind] at x
    generalize ab (b - (m : Rat) * hp) = z at *
    generalize ab (y - (b - (m : Rat) * hp)) = z2 at *
    grind
  have hm : m.natAbs ≤ 3 := by
    rcases (show m.natAbs ≤ 3 ∨ 4 ≤ m.natAbs by omega) with q | q
    · exact q
    · exfalso
      have c := cast_le.2 q
      rw [natAbsQ] at c
      have e : ((4 : Nat) : Rat) = 4 := rfl
      rw [e] at c
      have k := Rat.mul_le_mul_of_nonneg_right c h0
      have x := ab_sub b (b - (m : Rat) * hp)
      rw [show b - (b - (m : Rat) * hp) = (m : Rat) * hp by grind, ab_mul, ab_pos h0] at x
      generalize ab (m : Rat) * hp = z at *
      generalize ab (b - (m : Rat) * hp) = z2 at *
      clear c
      grind
  obtain ⟨a1, a2⟩ := back_three hb hm (Rat.le_trans hs (by decide +kernel))
  obtain ⟨c', s', b1, b2, b3, b4, _⟩ := h3
  have b2' : ab (s' - (CS y).im) ≤ tw 300 := by
    have := Rat.mul_le_mul_of_nonneg_left (show ab y ≤ 1 by grind) (Rat.le_of_lt (tw_pos 300))
    grind
  obtain ⟨d1, d2⟩ := CS_beside (x := b - (m : Rat) * hp) (y := y) (Rat.le_trans hs (by decide +kernel)) (Rat.le_trans h1 w.2.1)
  have fin : ∀ {p q r e1 e2 : Rat}, ab (p - q) ≤ e1 → ab (q - r) ≤ e2 → ab (p - r) ≤ e2 + e1 := by
    intro p q r e1 e2 a1 a2
    have := ab_tri p q r
    grind
  obtain ⟨r1, r2⟩ := rot_near (k := m % 4) (fin b1 d1) (fin b2' d2)
  have w2 : (tw 100 + (tw 79 + tw 300)) + tw 300 ≤ tw 78 := w.2.2
  exact ⟨Rat.le_trans (fin b3 (fin r1 a1)) w2, Rat.le_trans (fin b4 (fin r2 a2)) w2⟩
end Go.Proofs.YtcfkhhnkboealaaDoor
