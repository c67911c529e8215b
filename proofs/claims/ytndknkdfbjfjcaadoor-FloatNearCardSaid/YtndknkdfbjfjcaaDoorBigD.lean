/- Words' last noughts, their last 64 bits, and how they compare. -/
import Derived.Test.YtndknkdfbjfjcaaDoorBigC
namespace Go.Proofs.YtndknkdfbjfjcaaDoor
open Go.RowKit
set_option linter.unusedVariables false
set_option linter.unusedSimpArgs false
set_option maxRecDepth 100000
set_option maxHeartbeats 4000000
theorem tab_drew {w : World} (n : Nat) (h : TabAt w) : TabAt (w.drewN n) := fun j hj => h j hj
theorem bits_or_u64n (a b : Nat) (ha : a < 18446744073709551616) (hb : b < 18446744073709551616) : bits .or .u64 (a : Int) (b : Int) = ((a ||| b : Nat) : Int) := by
  have hx : a ||| b < 2 ^ 64 := Nat.or_lt_two_pow (by omega) (by omega)
  have h1 : (BitVec.ofInt 64 (a : Int)).toNat = a := by
    rw [BitVec.ofInt_natCast, BitVec.toNat_ofNat]; exact Nat.mod_eq_of_lt (by omega)
  have h2 : (BitVec.ofInt 64 (b : Int)).toNat = b := by
    rw [BitVec.ofInt_natCast, BitVec.toNat_ofNat]; exact Nat.mod_eq_of_lt (by omega)
  show IntKind.u64.wrap ((BitVec.ofInt 64 (a : Int) ||| BitVec.ofInt 64 (b : Int)).toNat : Int) = _
  rw [BitVec.toNat_or, h1, h2, IntKind.wrap_u64]
  omega
theorem or_two (k a b : Nat) (h : b < 2 ^ k) : (a * 2 ^ k) ||| b = a * 2 ^ k + b := by
  rw [Nat.mul_comm]; exact (Nat.two_pow_add_eq_or_of_lt h a).symm
theorem or_words (x1 x0 : Nat) (h1 : x1 < 4294967296) (h0 : x0 < 4294967296) : bits .or .u64 ((x1 : Int) * 4294967296) (x0 : Int) = ((x1 * 4294967296 + x0 : Nat) : Int) := by
  have e : (x1 : Int) * 4294967296 = ((x1 * 4294967296 : Nat) : Int) := by omega
  rw [e, bits_or_u64n _ _ (by omega) (by omega)]
  have := or_two 32 x1 x0 (by omega)
  rw [show (2 : Nat) ^ 32 = 4294967296 by decide] at this
  rw [this]
theorem toUint1 {b off cap x0 : Nat} {w : World} (hc1 : 1 ≤ cap) (hc2 : cap ≤ 1000000000) (h0 : x0 < 4294967296) (c0 : w.cell? ⟨b, off, none⟩ = some (.int .u32 (x0 : Int))) :
    Calls Tryd.prog 151 #[.slice (some ⟨b, off, none⟩) 1 cap] w (fun e w' => ∃ n, e = .returned (.int .u64 (x0 : Int)) ∧ w' = w.drewN n) := by
  have ho : bits .or .u64 0 (x0 : Int) = (x0 : Int) := by
    have := or_words 0 x0 (by decide) h0
    simpa using this
  go_enter Tryd.func151, Tryd.ntmps151
  go_wp2
  go_ret
  exact ⟨0, rfl, rfl⟩
theorem toUint2 {b off cap x0 x1 : Nat} {w : World} (hc1 : 2 ≤ cap) (hc2 : cap ≤ 1000000000) (h0 : x0 < 4294967296) (h1 : x1 < 4294967296) (c0 : w.cell? ⟨b, off, none⟩ = some (.int .u32 (x0 : Int))) (c1 : w.cell? ⟨b, off + 1, none⟩ = some (.int .u32 (x1 : Int))) :
    Calls Tryd.prog 151 #[.slice (some ⟨b, off, none⟩) 2 cap] w (fun e w' => ∃ n, e = .returned (.int .u64 ((x1 * 4294967296 + x0 : Nat) : Int)) ∧ w' = w.drewN n) := by
  have HO := Lib.hid (or_words x1 x0 h1 h0)
  go_enter Tryd.func151, Tryd.ntmps151
  go_wp2
  go_ret
  exact ⟨0, by rw [HO.out]; rfl, rfl⟩
theorem toUint_c {v : Value} {A : Nat} {w : World} (h : IsW w v (digs A)) (hA : A < 18446744073709551616) : Calls Tryd.prog 151 #[v] w (fun e w' => ∃ n, e = .returned (.int .u64 (A : Int)) ∧ w' = w.drewN n) := by
  obtain ⟨s, cap, rfl, hc1, hc2, hcell⟩ := h
  by_cases h0 : A = 0
  · subst h0
    clear hcell
    go_enter Tryd.func151, Tryd.ntmps151
    go_wp2
    go_ret
    exact ⟨0, rfl, rfl⟩
  · obtain ⟨b, off, e1, hb, hc⟩ := hcell (mt digs_nil.1 h0)
    subst e1
    have ha := wv_digs A
    have hs := digs_sm A
    have hl : (digs A).length ≤ 2 := digs_len_le (by omega)
    have hl0 := digs_len_pos h0
    clear hcell
    generalize digs A = l at *
    cases l with
    | nil => simp at hl0
    | cons x0 l =>
      cases l with
      | nil =>
        have e : A = x0 := by simp [wv] at ha; omega
        rw [e]
        exact toUint1 hc1 hc2 (sm_cons.1 hs).1 (by simpa using hc 0 (by simp))
      | cons x1 l =>
        have hn : l = [] := by cases l with
                               | nil => rfl
                               | cons => simp at hl
        subst hn
        have e : A = x1 * 4294967296 + x0 := by simp [wv] at ha; omega
        rw [e]
        exact toUint2 hc1 hc2 (sm_cons.1 hs).1 (sm_cons.1 (sm_cons.1 hs).2).1 (by simpa using hc 0 (by simp)) (by simpa using hc 1 (by simp))
theorem ctz_dvd {x : Nat} (h : x < 4294967296) (h0 : x ≠ 0) : 2 ^ Lib.ctz 32 x ∣ x ∧ Lib.ctz 32 x < 32 := by
  obtain ⟨m, h1, h2⟩ := Lib.ctzFrom_spec 32 x (by omega) (by omega)
  unfold Lib.ctz
  rw [if_neg h0]
  exact ⟨⟨2 * m + 1, h1⟩, h2⟩
theorem zeros_dvd {l : List Nat} {k c : Nat} (hk : k < l.length) (hz : ∀ j, j < k → l.getD j 0 = 0) (hd : 2 ^ c ∣ l.getD k 0) (hc : c < 32) : 2 ^ (32 * k + c) ∣ wv l := by
  have h1 := wv_take_drop l k (by omega)
  have e1 : l.take k = List.replicate k 0 := by
    apply List.eq_replicate_iff.2
    refine ⟨by rw [List.length_take]; omega, fun x hx => ?_⟩
    obtain ⟨i, hi, rfl⟩ := List.mem_iff_getElem.1 hx
    rw [List.length_take] at hi
    have := hz i (by omega)
    rw [gd_lt (by omega)] at this
    rw [List.getElem_take]; exact this
  rw [e1, wv_replicate, Nat.zero_add, List.drop_eq_getElem_cons hk] at h1
  rw [gd_lt hk] at hd
  rw [h1, pow32, Nat.pow_add]
  apply Nat.mul_dvd_mul_left
  show 2 ^ c ∣ l[k] + 4294967296 * _
  refine Nat.dvd_add hd (Nat.dvd_mul_right_of_dvd ?_ _)
  rw [show (4294967296 : Nat) = 2 ^ 32 by decide]
  exact Nat.pow_dvd_pow 2 (by omega)
theorem zeros_c {v : Value} {A : Nat} {w : World} (h : IsW w v (digs A)) (hT : TabAt w) : Calls Tryd.prog 148 #[v] w (fun e w' => ∃ k n : Nat, e = .returned (.int .i64 (k : Int)) ∧ 2 ^ k ∣ A ∧ (A = 0 → k = 0) ∧ w' = w.drewN n) := by
  obtain ⟨s, cap, rfl, hc1, hc2, hcell⟩ := h
  by_cases h0 : A = 0
  · subst h0
    clear hcell
    go_enter Tryd.func148, Tryd.ntmps148
    go_wp2
    go_loopw [3] (fun n wr => ∃ d : Nat, n = .int .i64 0 ∧ wr = w.drewN d) (fun _ _ => 0)
    case atStart => exact ⟨0, rfl, rfl⟩
    case round =>
      obtain ⟨d, rfl, rfl⟩ := hrel
      go_wp2
      go_ret
      exact ⟨0, _, rfl, by simp, fun _ => rfl, rfl⟩
  · obtain ⟨b, off, e1, hb, hc⟩ := hcell (mt digs_nil.1 h0)
    subst e1
    have ha := Lib.hid (wv_digs A)
    have hs := Lib.hid (digs_sm A)
    have hlast := Lib.hid (digs_last h0)
    have hl0 := digs_len_pos h0
    have HC := Lib.hid hc
    have HT := Lib.hid hT
    clear hcell hc hT
    generalize digs A = l at *
    go_enter Tryd.func148, Tryd.ntmps148
    go_wp2
    go_loopw [3] (fun n wr => ∃ k d : Nat, n = .int .i64 k ∧ k < l.length ∧ (∀ j, j < k → l.getD j 0 = 0) ∧ wr = w.drewN d) (fun n _ => l.length - (intOf n).toNat)
    case atStart => exact ⟨0, 0, rfl, hl0, fun j h => absurd h (Nat.not_lt_zero _), rfl⟩
    case round =>
      obtain ⟨k, d, rfl, hk, hz, rfl⟩ := hrel
      have HZ := Lib.hid hz
      clear hz
      have hcl := HC.out k hk
      have hx := sm_getD hs.out k
      have HX : ∃ x, x = l.getD k 0 := ⟨_, rfl⟩
      obtain ⟨x, ex⟩ := HX
      have EX := Lib.hid ex
      rw [← ex] at hcl hx
      clear ex
      by_cases hx0 : x = 0
      · have hnl : k + 1 < l.length := by
          rcases Nat.lt_or_ge (k + 1) l.length with g | g
          · exact g
          · exfalso
            apply hlast.out
            rw [show l.length - 1 = k by omega, ← EX.out]; exact hx0
        subst hx0
        go_wp2
        go_roundw
        case rel => exact ⟨k + 1, _, by go_num, hnl, fun j h => by
          by_cases e : j = k
          · rw [e, ← EX.out]
          · exact HZ.out j (by omega), rfl⟩
        case measure => simp [intOf]; omega
      · have hx1 : ((x : Int) == 0) = false := by simp; omega
        have hkn : ((k : Int) == (l.length : Int)) = false := by simp; omega
        have HD := Lib.hid (ctz_dvd hx hx0)
        have hc32 := HD.out.2
        go_wp2_with (go_at_call 159; refine (tz32_c x hx _ (tab_drew _ HT.out)).mono ?_; rintro e w' ⟨rfl, rfl⟩)
        go_ret
        exact ⟨32 * k + Lib.ctz 32 x, _, by go_num, by rw [← ha.out]; exact zeros_dvd hk HZ.out (by rw [← EX.out]; exact HD.out.1) HD.out.2, fun e => absurd e h0, rfl⟩
end Go.Proofs.YtndknkdfbjfjcaaDoor
