/- A quotient of words, figure by figure: plain. -/
import Derived.Test.YtndknkdfbjfjcaaDoorBigQ
namespace Go.Proofs.YtndknkdfbjfjcaaDoor
open Go.RowKit
set_option linter.unusedVariables false
set_option linter.unusedSimpArgs false
set_option maxRecDepth 100000
structure DivRel (A V n la k : Nat) (ys qs : List Nat) : Prop where
  ylen : ys.length = la + 1
  ysm : Sm ys
  qlen : qs.length = la - n + 1
  qsm : Sm qs
  val : A = wv ys + 4294967296 ^ k * (V * wv (qs.drop k))
  top : wv (ys.drop k) < V
/-- the words exchanged. -/
def wsub (ys xs : List Nat) (j n : Nat) : List Nat := ys.take j ++ (xs ++ ys.drop (j + n + 1))
theorem wsub_len {ys xs : List Nat} {j n la : Nat} (hy : ys.length = la + 1) (hx : xs.length = n + 1) (hj : j + n ≤ la) : (wsub ys xs j n).length = la + 1 := by
  unfold wsub; rw [List.length_append, List.length_append, List.length_take, List.length_drop]; omega
theorem wsub_getD {ys xs : List Nat} {j n la i : Nat} (hy : ys.length = la + 1) (hx : xs.length = n + 1) (hj : j + n ≤ la) :
    (wsub ys xs j n).getD i 0 = if j ≤ i ∧ i ≤ j + n then xs.getD (i - j) 0 else ys.getD i 0 := by
  have hl := wsub_len hy hx hj
  have ht : (ys.take j).length = j := by rw [List.length_take]; omega
  by_cases hi : i < la + 1
  · rw [gd_lt (by omega)]
    unfold wsub
    rw [List.getElem_append]
    by_cases h1 : i < j
    · rw [dif_pos (by omega), if_neg (by omega), List.getElem_take, gd_lt (by omega)]
    · rw [dif_neg (by omega), List.getElem_append]
      by_cases h2 : i ≤ j + n
      · rw [dif_pos (by omega), if_pos ⟨by omega, h2⟩, gd_lt (by omega)]
        congr 1; omega
      · rw [dif_neg (by omega), if_neg (by omega), List.getElem_drop, gd_lt (by omega)]
        congr 1; omega
  · rw [gd_ge (by omega), if_neg (by omega), gd_ge (by omega)]
theorem wsub_sm {ys xs : List Nat} {j n : Nat} (hy : Sm ys) (hx : Sm xs) : Sm (wsub ys xs j n) := sm_append.2 ⟨sm_take hy j, sm_append.2 ⟨hx, sm_drop hy _⟩⟩
/-- the words above are nought. -/
theorem above_zero {ys : List Nat} {k n la V : Nat} (hy : ys.length = la + 1) (hs : Sm ys) (hk : k + n ≤ la + 1) (hV : V ≤ 4294967296 ^ n) (ht : wv (ys.drop k) < V) : wv (ys.drop (k + n)) = 0 := by
  have h := wv_take_drop (ys.drop k) n (by rw [List.length_drop]; omega)
  rw [List.drop_drop] at h
  rcases Nat.eq_zero_or_pos (wv (ys.drop (k + n))) with e | e
  · exact e
  · have : 4294967296 ^ n * 1 ≤ 4294967296 ^ n * wv (ys.drop (k + n)) := Nat.mul_le_mul_left _ e
    omega
theorem div_win {A V n la j : Nat} {ys qs : List Nat} (h : DivRel A V n la (j + 1) ys qs) (hj : j + n ≤ la) (hV : V ≤ 4294967296 ^ n) :
    ((ys.drop j).take (n + 1)).length = n + 1 ∧ Sm ((ys.drop j).take (n + 1)) ∧ wv ((ys.drop j).take (n + 1)) = wv (ys.drop j) ∧ wv ((ys.drop j).take (n + 1)) < 4294967296 * V ∧ (∀ i, i ≤ n → ((ys.drop j).take (n + 1)).getD i 0 = ys.getD (j + i) 0) := by
  have hy := h.ylen
  have l1 : ((ys.drop j).take (n + 1)).length = n + 1 := by rw [List.length_take, List.length_drop]; omega
  have z := above_zero hy h.ysm (show j + 1 + n ≤ la + 1 by omega) hV h.top
  have e := wv_take_drop (ys.drop j) (n + 1) (by rw [List.length_drop]; omega)
  rw [List.drop_drop, show j + (n + 1) = j + 1 + n by omega, z, Nat.mul_zero, Nat.add_zero] at e
  refine ⟨l1, sm_take (sm_drop h.ysm j) _, e.symm, ?_, ?_⟩
  · rw [← e, List.drop_eq_getElem_cons (by omega)]
    show ys[j] + 4294967296 * wv (ys.drop (j + 1)) < _
    have a := sm_get h.ysm (show j < ys.length by omega)
    have b := h.top
    omega
  · intro i hi
    rw [gd_lt (by omega), gd_lt (by omega), List.getElem_take, List.getElem_drop]
theorem div_step {A V n la j : Nat} {ys qs xs : List Nat} (h : DivRel A V n la (j + 1) ys qs) (hj : j + n ≤ la) (hV : V ≤ 4294967296 ^ n) (hV0 : 0 < V) (hx : xs.length = n + 1) (hxs : Sm xs)
    (hxv : wv xs = wv ((ys.drop j).take (n + 1)) % V) (hq : wv ((ys.drop j).take (n + 1)) / V < 4294967296) :
    DivRel A V n la j (wsub ys xs j n) (qs.set j (wv ((ys.drop j).take (n + 1)) / V)) := by
  obtain ⟨w1, w2, w3, w4, w5⟩ := div_win h hj hV
  have hy := h.ylen
  have z := above_zero hy h.ysm (show j + 1 + n ≤ la + 1 by omega) hV h.top
  have tj : (ys.take j).length = j := by rw [List.length_take]; omega
  have hd := Nat.div_add_mod (wv ((ys.drop j).take (n + 1))) V
  have hm := Nat.mod_lt (wv ((ys.drop j).take (n + 1))) hV0
  rw [← hxv] at hd hm
  generalize wv ((ys.drop j).take (n + 1)) / V = q at *
  have e1 : wv (wsub ys xs j n) = wv (ys.take j) + 4294967296 ^ j * wv xs := by
    unfold wsub
    rw [wv_append, wv_append, tj, show j + n + 1 = j + 1 + n by omega, z, Nat.mul_zero, Nat.add_zero]
  have e2 : wv ((wsub ys xs j n).drop j) = wv xs := by
    unfold wsub
    rw [List.drop_append_of_le_length (by omega), List.drop_of_length_le (by omega), List.nil_append, wv_append, show j + n + 1 = j + 1 + n by omega, z, Nat.mul_zero, Nat.add_zero]
  refine ⟨wsub_len hy hx hj, wsub_sm h.ysm hxs, by rw [List.length_set]; exact h.qlen, sm_set h.qsm _ hq, ?_, by rw [e2]; exact hm⟩
  have hql := h.qlen
  have e3 : wv ((qs.set j q).drop j) = q + 4294967296 * wv (qs.drop (j + 1)) := by
    have i1 : j < (qs.set j q).length := by rw [List.length_set]; omega
    rw [List.drop_eq_getElem_cons i1, List.getElem_set_self, List.drop_set_of_lt (by omega)]
    rfl
  have e4 := wv_take_drop ys j (by omega)
  rw [← w3, ← hd] at e4
  rw [e1, e3, h.val, e4, Nat.pow_succ]
  generalize wv (ys.take j) = a
  generalize wv xs = x
  generalize wv (qs.drop (j + 1)) = y
  generalize 4294967296 ^ j = P
  have f1 : P * (V * q + x) = P * (V * q) + P * x := Nat.mul_add _ _ _
  have f2 : P * (V * (q + 4294967296 * y)) = P * (V * q) + P * 4294967296 * (V * y) := by
    rw [Nat.mul_add, Nat.mul_add]
    have : P * (V * (4294967296 * y)) = P * 4294967296 * (V * y) := by ac_rfl
    rw [this]
  rw [f1, f2]; omega
theorem div_end {A V n la : Nat} {ys qs : List Nat} (h : DivRel A V n la 0 ys qs) (hV0 : 0 < V) (hV : V ≤ 4294967296 ^ n) (hn : n ≤ la) : wv qs = A / V ∧ wv (ys.take n) = A % V := by
  have hv := h.val
  have ht := h.top
  have hy := h.ylen
  have z := above_zero hy h.ysm (show 0 + n ≤ la + 1 by omega) hV ht
  simp only [List.drop_zero, Nat.pow_zero, Nat.one_mul, Nat.zero_add] at hv ht z
  have e := wv_take_drop ys n (by omega)
  rw [z, Nat.mul_zero, Nat.add_zero] at e
  rw [← e, hv, Nat.add_comm]
  constructor
  · rw [Nat.mul_add_div hV0, Nat.div_eq_of_lt ht, Nat.add_zero]
  · rw [Nat.mul_add_mod, Nat.mod_eq_of_lt ht]
/-! the divisor, moved up till its first bit is 1. -/
theorem norm_core {b L c s : Nat} (hL : 0 < L) (h1 : b < 2 ^ (32 * (L - 1) + c)) (h2 : 2 ^ (32 * (L - 1) + c - 1) ≤ b) (hc : 0 < c) (hc2 : c ≤ 32) (hs : s = 32 - c) :
    b * 2 ^ s < 4294967296 ^ L ∧ 2147483648 * 4294967296 ^ (L - 1) ≤ b * 2 ^ s := by
  constructor
  · rw [pow32, show 32 * L = 32 * (L - 1) + c + s by omega, Nat.pow_add]
    exact Nat.mul_lt_mul_of_pos_right h1 (Nat.two_pow_pos _)
  · have e2 : 2147483648 * 4294967296 ^ (L - 1) = 2 ^ (32 * (L - 1) + c - 1) * 2 ^ s := by
      rw [pow32, show (2147483648 : Nat) = 2 ^ 31 by decide, ← Nat.pow_add, ← Nat.pow_add, show 31 + 32 * (L - 1) = 32 * (L - 1) + c - 1 + s by omega]
    rw [e2]
    exact Nat.mul_le_mul_right _ h2
theorem norm_len {v L : Nat} (hL : 0 < L) (up : v < 4294967296 ^ L) (lo : 2147483648 * 4294967296 ^ (L - 1) ≤ v) : (digs v).length = L := by
  have a := digs_len_le up
  have c2 := digs_lt v
  have p := Nat.pow_pos (n := L - 1) (show 0 < 4294967296 by decide)
  rcases Nat.lt_or_ge (digs v).length L with g | g
  · have q := Nat.pow_le_pow_right (show 0 < 4294967296 by decide) (show (digs v).length ≤ L - 1 by omega)
    generalize 4294967296 ^ (L - 1) = P at *
    generalize 4294967296 ^ (digs v).length = Q at *
    omega
  · omega
theorem norm_top {v L : Nat} (hL : 0 < L) (hlen : (digs v).length = L) (lo : 2147483648 * 4294967296 ^ (L - 1) ≤ v) : 2147483648 ≤ (digs v).getD (L - 1) 0 := by
  have h3 := wv_take_succ (digs v) (L - 1) (by omega)
  rw [show L - 1 + 1 = L by omega, List.take_of_length_le (by omega), wv_digs, ← gd_lt (by omega)] at h3
  have h4 := wv_lt (sm_take (digs_sm v) (L - 1))
  rw [List.length_take, Nat.min_eq_left (by omega)] at h4
  generalize (digs v).getD (L - 1) 0 = t at *
  generalize wv ((digs v).take (L - 1)) = r at *
  generalize 4294967296 ^ (L - 1) = P at *
  rcases Nat.lt_or_ge t 2147483648 with g | g
  · have k : P * (t + 1) ≤ P * 2147483648 := Nat.mul_le_mul_left _ g
    rw [Nat.mul_add, Nat.mul_comm P 2147483648, Nat.mul_one] at k
    omega
  · exact g
theorem norm_div {b : Nat} (hb : b ≠ 0) {s : Nat} (hs : s = 32 - bl ((digs b).getD ((digs b).length - 1) 0)) :
    s < 32 ∧ (digs (b * 2 ^ s)).length = (digs b).length ∧ 2147483648 ≤ (digs (b * 2 ^ s)).getD ((digs b).length - 1) 0 ∧ 2147483648 * 4294967296 ^ ((digs b).length - 1) ≤ b * 2 ^ s := by
  have hl := digs_len_pos hb
  have htop := digs_last hb
  have hble := bl_32 (sm_getD (digs_sm b) ((digs b).length - 1))
  have hbl0 : 0 < bl ((digs b).getD ((digs b).length - 1) 0) := by unfold bl; rw [if_neg htop]; exact Nat.succ_pos _
  have hT := bl_top hb
  have h1 := bl_lt b
  have h2 := bl_ge hb
  rw [hT] at h1 h2
  obtain ⟨a1, a2⟩ := norm_core hl h1 h2 hbl0 hble hs
  have a3 := norm_len hl a1 a2
  exact ⟨by omega, a3, norm_top hl a3 a2, a2⟩
theorem div_start {a b s n la : Nat} {ys : List Nat} (hla : la = (digs a).length) (hn : n = (digs b).length) (hnl : n ≤ la) (hs : s < 32) (hlo : 2147483648 * 4294967296 ^ (n - 1) ≤ b * 2 ^ s) (hn0 : 0 < n) (hy : ys.length = la + 1) (hys : Sm ys) (hyv : wv ys = a * 2 ^ s) :
    DivRel (a * 2 ^ s) (b * 2 ^ s) n la (la - n + 1) ys (List.replicate (la - n + 1) 0) := by
  refine ⟨hy, hys, by simp, sm_replicate _, ?_, ?_⟩
  · rw [List.drop_of_length_le (by simp), hyv]
    show a * 2 ^ s = a * 2 ^ s + _ * (_ * 0)
    rw [Nat.mul_zero, Nat.mul_zero, Nat.add_zero]
  · rw [wv_drop ys hys _ (by omega), hyv, Nat.div_lt_iff_lt_mul (Nat.pow_pos (by decide))]
    have h1 := digs_lt a
    rw [← hla] at h1
    have h2 : a * 2 ^ s < 4294967296 ^ la * 2 ^ s := Nat.mul_lt_mul_of_pos_right h1 (Nat.two_pow_pos _)
    have h3 : 4294967296 ^ la * 2 ^ s ≤ 4294967296 ^ la * 2147483648 := by
      apply Nat.mul_le_mul_left
      have e31 : (2147483648 : Nat) = 2 ^ 31 := by decide
      rw [e31]
      exact Nat.pow_le_pow_right (by decide) (show s ≤ 31 by omega)
    have h4 : 4294967296 ^ la * 2147483648 = 2147483648 * 4294967296 ^ (n - 1) * 4294967296 ^ (la - n + 1) := by
      rw [Nat.mul_assoc, ← Nat.pow_add, show n - 1 + (la - n + 1) = la by omega, Nat.mul_comm]
    have h5 := Nat.mul_le_mul_right (4294967296 ^ (la - n + 1)) hlo
    rw [← h4] at h5
    exact Nat.lt_of_lt_of_le h2 (Nat.le_trans h3 h5)
end Go.Proofs.YtndknkdfbjfjcaaDoor
