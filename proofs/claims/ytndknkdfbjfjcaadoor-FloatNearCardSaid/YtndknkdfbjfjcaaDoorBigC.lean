/- Words of a number, a number of words, how many bits words have, and how they compare. -/
import Derived.Test.YtndknkdfbjfjcaaDoorBigB
import Derived.Deep.QuietTactic
import Derived.BigQuiet
namespace Go.Proofs.YtndknkdfbjfjcaaDoor
open Go.RowKit
set_option linter.unusedVariables false
set_option linter.unusedSimpArgs false
set_option maxRecDepth 100000
set_option maxHeartbeats 4000000
theorem isW_new2 (w : World) (x y : Nat) (t : TypeId) : IsW (w.alloc (.cells #[.int .u32 (x : Int), .int .u32 (y : Int)] t)) (.slice (some ⟨w.heap.size, 0, none⟩) 2 2) [x, y] := by
  refine ⟨_, 2, rfl, by simp, by decide, fun _ => ⟨w.heap.size, 0, rfl, by rw [size_alloc]; omega, fun j hj => ?_⟩⟩
  rw [Nat.zero_add, World.cell?_alloc_new]
  have : j = 0 ∨ j = 1 := by simp at hj; omega
  rcases this with rfl | rfl <;> rfl
theorem fromUint_c (x : Nat) (hx : x < 18446744073709551616) (w : World) : Calls Tryd.prog 117 #[.int .u64 (x : Int)] w (RetW x w) := by
  have hd : wv [x % 4294967296, x / 4294967296] = x := by simp [wv]; omega
  have HD := Lib.hid hd
  have hs : Sm [x % 4294967296, x / 4294967296] := sm_cons.2 ⟨by omega, sm_cons.2 ⟨by omega, sm_nil⟩⟩
  have HS := Lib.hid hs
  have e1 : (x : Int) / 4294967296 % 4294967296 = (x : Int) / 4294967296 := by omega
  clear hd hs
  go_enter Tryd.func117, Tryd.ntmps117
  go_wp2_with (go_at_call 142; refine (trim_c (isW_new2 w (x % 4294967296) (x / 4294967296) _) HS.out).mono ?_; rw [HD.out]; rintro e w' ⟨v', n, rfl, hv, rfl⟩)
  go_ret
  exact ⟨_, rfl, hv, gr_drewN _ ((Grown.refl _).alloc _ _)⟩
/-- the number of bits. -/
def bl (A : Nat) : Nat := if A = 0 then 0 else A.log2 + 1
theorem bl_zero : bl 0 = 0 := rfl
theorem bl_lt (A : Nat) : A < 2 ^ bl A := by
  unfold bl
  split
  · rename_i h; subst h; decide
  · exact Nat.lt_log2_self
theorem bl_ge {A : Nat} (h : A ≠ 0) : 2 ^ (bl A - 1) ≤ A := by
  unfold bl; rw [if_neg h]; simpa using Nat.log2_self_le h
theorem bl_uniq {A n : Nat} (h1 : A < 2 ^ n) (h2 : A = 0 ∧ n = 0 ∨ 0 < n ∧ 2 ^ (n - 1) ≤ A) : bl A = n := by
  rcases h2 with ⟨rfl, rfl⟩ | ⟨h0, h2⟩
  · rfl
  · have hA : A ≠ 0 := by have := Nat.two_pow_pos (n - 1); omega
    have a := bl_lt A
    have b := bl_ge hA
    have hb : 0 < bl A := by unfold bl; rw [if_neg hA]; omega
    have c := (Nat.pow_lt_pow_iff_right (show 1 < 2 by decide)).1 (Nat.lt_of_le_of_lt b h1)
    have d := (Nat.pow_lt_pow_iff_right (show 1 < 2 by decide)).1 (Nat.lt_of_le_of_lt h2 a)
    omega
theorem aux_len : ∀ (k x : Nat), x < 2 ^ k → x < 2 ^ Lib.bitLenAux k x ∧ (x ≠ 0 → 0 < Lib.bitLenAux k x ∧ 2 ^ (Lib.bitLenAux k x - 1) ≤ x)
  | 0, x, h => by simp at h; subst h; simp [Lib.bitLenAux]
  | k + 1, x, h => by
    unfold Lib.bitLenAux
    by_cases h0 : x = 0
    · subst h0; simp
    · rw [if_neg h0]
      obtain ⟨a, b⟩ := aux_len k (x / 2) (by rw [Nat.pow_succ] at h; omega)
      refine ⟨?_, fun _ => ⟨by omega, ?_⟩⟩
      · rw [Nat.add_comm, Nat.pow_succ]; omega
      · by_cases h2 : x / 2 = 0
        · rw [h2]
          have : Lib.bitLenAux k 0 = 0 := by cases k <;> simp [Lib.bitLenAux]
          rw [this]; simp; omega
        · obtain ⟨c, d⟩ := b h2
          rw [show 1 + Lib.bitLenAux k (x / 2) - 1 = (Lib.bitLenAux k (x / 2) - 1) + 1 by omega, Nat.pow_succ]
          omega
theorem libLen {x : Nat} (h : x < 4294967296) : Lib.bitLen x = bl x := by
  obtain ⟨a, b⟩ := aux_len 64 x (by have : (2 : Nat) ^ 64 = 18446744073709551616 := by decide
                                    omega)
  refine (bl_uniq a ?_).symm
  by_cases h0 : x = 0
  · subst h0; left; exact ⟨rfl, by decide⟩
  · right; exact b h0
theorem pow32 (k : Nat) : 4294967296 ^ k = 2 ^ (32 * k) := by rw [Nat.pow_mul]
theorem bl_top {A : Nat} (h : A ≠ 0) : bl A = 32 * ((digs A).length - 1) + bl ((digs A).getD ((digs A).length - 1) 0) := by
  have hl := digs_len_pos h
  have h1 := wv_take_succ (digs A) ((digs A).length - 1) (by omega)
  rw [show (digs A).length - 1 + 1 = (digs A).length by omega, List.take_length, wv_digs] at h1
  have h2 := wv_lt (sm_take (digs_sm A) ((digs A).length - 1))
  rw [List.length_take, Nat.min_eq_left (by omega)] at h2
  have h3 := digs_last h
  rw [gd_lt (by omega)] at h3 ⊢
  generalize (digs A)[(digs A).length - 1] = t at *
  generalize wv ((digs A).take ((digs A).length - 1)) = r at *
  generalize (digs A).length - 1 = n at *
  rw [pow32] at h1 h2
  have a := bl_lt t
  have b := bl_ge h3
  have hb : 0 < bl t := by unfold bl; rw [if_neg h3]; omega
  refine bl_uniq ?_ (.inr ⟨by omega, ?_⟩)
  · rw [h1, Nat.pow_add]
    have : 2 ^ (32 * n) * (t + 1) ≤ 2 ^ (32 * n) * 2 ^ bl t := Nat.mul_le_mul_left _ a
    rw [Nat.mul_add] at this
    omega
  · rw [h1, show 32 * n + bl t - 1 = 32 * n + (bl t - 1) by omega, Nat.pow_add]
    have := Nat.mul_le_mul_left (2 ^ (32 * n)) b
    omega
theorem bl_32 {t : Nat} (h : t < 4294967296) : bl t ≤ 32 := by
  rcases Nat.lt_or_ge 32 (bl t) with g | g
  · by_cases h0 : t = 0
    · subst h0; exact absurd g (by decide)
    · have := bl_ge h0
      have h2 := Nat.pow_le_pow_right (show 0 < 2 by decide) (show 32 ≤ bl t - 1 by omega)
      have : (2 : Nat) ^ 32 = 4294967296 := by decide
      omega
  · exact g
theorem bitLen_core {b off L cap t : Nat} {w : World} (hL : 0 < L) (hc1 : L ≤ cap) (hc2 : cap ≤ 1000000000) (ht : t < 4294967296) (hcl : w.cell? ⟨b, off + (L - 1), none⟩ = some (.int .u32 (t : Int))) :
    Calls Tryd.prog 143 #[.slice (some ⟨b, off, none⟩) L cap] w (fun e w' => ∃ n, e = .returned (.int .i64 (32 * ((L : Int) - 1) + (bl t : Int))) ∧ w' = w.drewN n) := by
  have h32 := Lib.hid (libLen ht)
  have hbl := bl_32 ht
  have hL1 : ((L : Int) - 1).toNat = L - 1 := by omega
  have hne : ((L : Int) == 0) = false := by simp; omega
  go_enter Tryd.func143, Tryd.ntmps143
  go_wp2_with (go_at_call 158; refine (len32_c (t : Int) _ (by omega) (by omega)).mono ?_; rw [Int.toNat_natCast, h32.out]; rintro e w' ⟨rfl, rfl⟩)
  go_ret
  exact ⟨0, rfl, rfl⟩
theorem bitLen_c {v : Value} {A : Nat} {w : World} (h : IsW w v (digs A)) : Calls Tryd.prog 143 #[v] w (fun e w' => ∃ n, e = .returned (.int .i64 (bl A : Int)) ∧ w' = w.drewN n) := by
  obtain ⟨s, cap, rfl, hc1, hc2, hcell⟩ := h
  by_cases hA : A = 0
  · subst hA
    clear hcell
    go_enter Tryd.func143, Tryd.ntmps143
    go_wp2
    go_ret
    exact ⟨0, rfl, rfl⟩
  · have hl := digs_len_pos hA
    obtain ⟨b, off, e1, hb, hc⟩ := hcell (mt digs_nil.1 hA)
    subst e1
    refine (bitLen_core hl hc1 hc2 (sm_getD (digs_sm A) _) (hc ((digs A).length - 1) (by omega))).mono ?_
    rintro e w' ⟨n, rfl, rfl⟩
    exact ⟨n, by rw [bl_top hA]; congr 2; omega, rfl⟩
end Go.Proofs.YtndknkdfbjfjcaaDoor
