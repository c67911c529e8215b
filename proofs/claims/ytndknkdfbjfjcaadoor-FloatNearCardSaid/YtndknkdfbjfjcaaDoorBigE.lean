/- How words compare. -/
import Derived.Test.YtndknkdfbjfjcaaDoorBigD
namespace Go.Proofs.YtndknkdfbjfjcaaDoor
open Go.RowKit
set_option linter.unusedVariables false
set_option linter.unusedSimpArgs false
set_option maxRecDepth 100000
set_option maxHeartbeats 4000000
def RetZ (i : Int) (w : World) (e : Ending) (w' : World) : Prop := ∃ n, e = .returned (.int .i64 i) ∧ w' = w.drewN n
theorem RetZ.mk {b c : Int} {w : World} (n : Nat) (h : b = c) : RetZ c w (.returned (.int .i64 b)) (w.drewN n) := ⟨n, by rw [h], rfl⟩
theorem RetZ.mk0 {b c : Int} {w : World} (h : b = c) : RetZ c w (.returned (.int .i64 b)) w := ⟨0, by rw [h], rfl⟩
theorem RetZ.mk2 {b c : Int} {w : World} (n m : Nat) (h : b = c) : RetZ c w (.returned (.int .i64 b)) ((w.drewN n).drewN m) := ⟨n + m, by rw [h], by rw [World.drewN_drewN]⟩
theorem RetZ.mk3 {b c : Int} {w : World} (n m k : Nat) (h : b = c) : RetZ c w (.returned (.int .i64 b)) (((w.drewN n).drewN m).drewN k) := ⟨n + m + k, by rw [h], by rw [World.drewN_drewN, World.drewN_drewN, Nat.add_assoc]⟩
def cmpI (A B : Nat) : Int := if A < B then -1 else if B < A then 1 else 0
theorem len_lt {A B : Nat} (h : (digs A).length < (digs B).length) : A < B := by
  have hB : B ≠ 0 := by intro e; subst e; simp [digs_zero] at h
  have a := digs_lt A
  have b := digs_ge hB
  have c := Nat.pow_le_pow_right (show 0 < 4294967296 by decide) (show (digs A).length ≤ (digs B).length - 1 by omega)
  omega
theorem top_lt {l m : List Nat} {i : Nat} (hl : Sm l) (hm : Sm m) (hi : i < l.length) (hlen : l.length = m.length) (heq : ∀ j, i < j → j < l.length → l.getD j 0 = m.getD j 0) (h : l.getD i 0 < m.getD i 0) : wv l < wv m := by
  have e1 := wv_take_drop l (i + 1) (by omega)
  have e2 := wv_take_drop m (i + 1) (by omega)
  have e3 : l.drop (i + 1) = m.drop (i + 1) := by
    apply List.ext_getElem (by simp; omega)
    intro n h1 h2
    rw [List.length_drop] at h1 h2
    have := heq (i + 1 + n) (by omega) (by omega)
    rw [gd_lt (by omega), gd_lt (by omega)] at this
    rw [List.getElem_drop, List.getElem_drop]; exact this
  rw [e3] at e1
  rw [wv_take_succ l i hi] at e1
  rw [wv_take_succ m i (by omega)] at e2
  rw [gd_lt hi, gd_lt (by omega)] at h
  have s := wv_lt (sm_take hl i)
  rw [List.length_take, Nat.min_eq_left (by omega)] at s
  have t : 4294967296 ^ i * (l[i] + 1) ≤ 4294967296 ^ i * m[i] := Nat.mul_le_mul_left _ h
  rw [Nat.mul_add] at t
  omega
theorem all_eq {l m : List Nat} (hlen : l.length = m.length) (heq : ∀ j, j < l.length → l.getD j 0 = m.getD j 0) : l = m := by
  apply List.ext_getElem hlen
  intro n h1 h2
  have := heq n h1
  rwa [gd_lt h1, gd_lt h2] at this
theorem cmp_of {A B : Nat} {c : Int} (h : (A < B ∧ c = -1) ∨ (B < A ∧ c = 1) ∨ (A = B ∧ c = 0)) : c = cmpI A B := by
  unfold cmpI
  rcases h with ⟨h, rfl⟩ | ⟨h, rfl⟩ | ⟨h, rfl⟩
  · rw [if_pos h]
  · rw [if_neg (by omega), if_pos h]
  · rw [if_neg (by omega), if_neg (by omega)]
theorem cmp_ne {s1 s2 : Option Addr} {L M c1 c2 : Nat} (w : World) (h1 : L ≤ c1) (h2 : c1 ≤ 1000000000) (h3 : M ≤ c2) (h4 : c2 ≤ 1000000000) (h : L ≠ M) :
    Calls Tryd.prog 146 #[.slice s1 L c1, .slice s2 M c2] w (RetZ (if L < M then -1 else 1) w) := by
  have hne : ((L : Int) != (M : Int)) = true := by simp; omega
  by_cases hlt : L < M
  · rw [if_pos hlt]
    have : (L : Int) < M := by omega
    go_enter Tryd.func146, Tryd.ntmps146
    go_wp2
    go_ret
    exact RetZ.mk0 rfl
  · rw [if_neg hlt]
    have : ¬ (L : Int) < M := by omega
    go_enter Tryd.func146, Tryd.ntmps146
    go_wp2
    go_ret
    exact RetZ.mk0 rfl
theorem cmp_zero {s1 s2 : Option Addr} {c1 c2 : Nat} (w : World) : Calls Tryd.prog 146 #[.slice s1 0 c1, .slice s2 0 c2] w (RetZ 0 w) := by
  go_enter Tryd.func146, Tryd.ntmps146
  go_wp2
  go_loopw [5] (fun n wr => ∃ d : Nat, n = .int .i64 (-1) ∧ wr = w.drewN d) (fun _ _ => 0)
  case atStart => exact ⟨0, rfl, rfl⟩
  case round =>
    obtain ⟨d, rfl, rfl⟩ := hrel
    go_wp2
    go_ret
    exact RetZ.mk _ rfl
theorem cmp_eq' {b1 o1 b2 o2 c1 c2 : Nat} {l m : List Nat} {w : World} (hl : Sm l) (hm : Sm m) (hlen : l.length = m.length) (h1 : l.length ≤ c1) (h2 : c1 ≤ 1000000000) (h3 : l.length ≤ c2) (h4 : c2 ≤ 1000000000)
    (hc1 : ∀ j, j < l.length → w.cell? ⟨b1, o1 + j, none⟩ = some (.int .u32 ((l.getD j 0 : Nat) : Int))) (hc2 : ∀ j, j < l.length → w.cell? ⟨b2, o2 + j, none⟩ = some (.int .u32 ((m.getD j 0 : Nat) : Int))) :
    Calls Tryd.prog 146 #[.slice (some ⟨b1, o1, none⟩) l.length c1, .slice (some ⟨b2, o2, none⟩) l.length c2] w (RetZ (cmpI (wv l) (wv m)) w) := by
  have HL := Lib.hid hl
  have HM := Lib.hid hm
  have HN := Lib.hid hlen
  have H1 := Lib.hid hc1
  have H2 := Lib.hid hc2
  clear hl hm hlen hc1 hc2
  go_enter Tryd.func146, Tryd.ntmps146
  go_wp2
  go_loopw [5] (fun n wr => ∃ k d : Nat, k ≤ l.length ∧ n = .int .i64 ((k : Int) - 1) ∧ (∀ j, k ≤ j → j < l.length → l.getD j 0 = m.getD j 0) ∧ wr = w.drewN d) (fun n _ => (intOf n + 1).toNat)
  case atStart => exact ⟨l.length, 0, Nat.le_refl _, rfl, fun j h1 h2 => absurd h2 (by omega), rfl⟩
  case round =>
    obtain ⟨k, d, hk, rfl, hz, rfl⟩ := hrel
    have HZ := Lib.hid hz
    clear hz
    by_cases h0 : k = 0
    · subst h0
      go_wp2
      go_ret
      exact RetZ.mk _ (cmp_of (.inr (.inr ⟨congrArg wv (all_eq HN.out fun j h => HZ.out j (Nat.zero_le _) h), rfl⟩)))
    · have a1 := H1.out (k - 1) (by omega)
      have a2 := H2.out (k - 1) (by omega)
      have x1 := sm_getD HL.out (k - 1)
      have x2 := sm_getD HM.out (k - 1)
      obtain ⟨x, ex⟩ : ∃ x, x = l.getD (k - 1) 0 := ⟨_, rfl⟩
      obtain ⟨y, ey⟩ : ∃ y, y = m.getD (k - 1) 0 := ⟨_, rfl⟩
      have EX := Lib.hid ex
      have EY := Lib.hid ey
      rw [← ex] at a1 x1
      rw [← ey] at a2 x2
      clear ex ey
      have hk1 : ((k : Int) - 1).toNat = k - 1 := by omega
      have hge : (0 : Int) ≤ (k : Int) - 1 := by omega
      rcases Nat.lt_trichotomy x y with g | g | g
      · have g' : (x : Int) < y := by omega
        go_wp2_with fail
        go_quiet (fail)
        go_wp2
        go_ret
        exact RetZ.mk2 _ _ (cmp_of (.inl ⟨top_lt HL.out HM.out (i := k - 1) (by omega) HN.out (fun j h1 h2 => HZ.out j (by omega) h2) (by rw [← EX.out, ← EY.out]; exact g), rfl⟩))
      · have g' : ¬ (x : Int) < y := by omega
        have g2 : ¬ (y : Int) < x := by omega
        go_wp2_with fail
        go_quiet (fail)
        go_wp2_with fail
        go_quiet (fail)
        go_wp2
        go_roundw
        case rel => exact ⟨k - 1, _, by omega, by congr 1; omega, fun j h1 h2 => by
          by_cases e : j = k - 1
          · rw [e, ← EX.out, ← EY.out]; exact g
          · exact HZ.out j (by omega) h2, rfl⟩
        case measure => simp [intOf]; omega
      · have g' : ¬ (x : Int) < y := by omega
        have g2 : (y : Int) < x := by omega
        go_wp2_with fail
        go_quiet (fail)
        go_wp2_with fail
        go_quiet (fail)
        go_wp2
        go_ret
        exact RetZ.mk3 _ _ _ (cmp_of (.inr (.inl ⟨top_lt HM.out HL.out (i := k - 1) (by rw [← HN.out]; omega) HN.out.symm (fun j h1 h2 => (HZ.out j (by omega) (by rw [HN.out]; exact h2)).symm) (by rw [← EX.out, ← EY.out]; exact g), rfl⟩)))
theorem cmp_c {v1 v2 : Value} {A B : Nat} {w : World} (h1 : IsW w v1 (digs A)) (h2 : IsW w v2 (digs B)) : Calls Tryd.prog 146 #[v1, v2] w (RetZ (cmpI A B) w) := by
  obtain ⟨s1, cap1, rfl, a1, a2, a3⟩ := h1
  obtain ⟨s2, cap2, rfl, b1, b2, b3⟩ := h2
  by_cases hl : (digs A).length = (digs B).length
  · by_cases h0 : A = 0
    · subst h0
      have hB : B = 0 := by
        apply digs_nil.1
        exact List.eq_nil_of_length_eq_zero hl.symm
      subst hB
      exact cmp_zero w
    · have hB : B ≠ 0 := by
        intro e; subst e
        have := digs_len_pos h0
        rw [hl, digs_zero] at this; simp at this
      obtain ⟨p1, q1, rfl, _, c1⟩ := a3 (mt digs_nil.1 h0)
      obtain ⟨p2, q2, rfl, _, c2⟩ := b3 (mt digs_nil.1 hB)
      rw [← hl] at c2 b1 ⊢
      have := cmp_eq' (digs_sm A) (digs_sm B) hl a1 a2 b1 b2 c1 c2
      rw [wv_digs, wv_digs] at this
      exact this
  · refine (cmp_ne w a1 a2 b1 b2 hl).mono ?_
    rintro e w' ⟨n, rfl, rfl⟩
    refine RetZ.mk n (cmp_of ?_)
    split
    · rename_i g; exact .inl ⟨len_lt g, rfl⟩
    · exact .inr (.inl ⟨len_lt (by omega), rfl⟩)
end Go.Proofs.YtndknkdfbjfjcaaDoor
