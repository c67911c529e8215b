/- A quotient of words, figure by figure: plain. A quotient of words: the walk. A quotient of words: the walk at two words and more. The nearest float to a quotient of whole numbers: plain. -/
import Derived.Test.YtcfkhhnkboealaaBigQ
import Derived.Deep.RegionWith
import Derived.Laws.CopyOwn
namespace Go.Proofs.Ytcfkhhnkboealaa
open Go.RowKit
set_option linter.unusedVariables false
set_option linter.unusedSimpArgs false
set_option maxRecDepth 100000
structure DivRel (A V n la k : Nat) (ys qs : List Nat) : Prop where
  ylen : ys.length = la + 1
  ysm : Sm ys
  qlen : qs.length = la - n + 1
  qsm : Sm qs
  val : A = wv ys + 4294967296 ^ k * (V * wv (qs.drop k))
  top : wv (ys.drop k) < V
/-- the words exchanged. -/
def wsub (ys xs : List Nat) (j n : Nat) : List Nat := ys.take j ++ (xs ++ ys.drop (j + n + 1))
theorem wsub_len {ys xs : List Nat} {j n la : Nat} (hy : ys.length = la + 1) (hx : xs.length = n + 1) (hj : j + n ≤ la) : (wsub ys xs j n).length = la + 1 := by
  unfold wsub; rw [List.length_append, List.length_append, List.length_take, List.length_drop]; omega
theorem wsub_getD {ys xs : List Nat} {j n la i : Nat} (hy : ys.length = la + 1) (hx : xs.length = n + 1) (hj : j + n ≤ la) :
    (wsub ys xs j n).getD i 0 = if j ≤ i ∧ i ≤ j + n then xs.getD (i - j) 0 else ys.getD i 0 := by
  have hl := wsub_len hy hx hj
  have ht : (ys.take j).length = j := by rw [List.length_take]; omega
  by_cases hi : i < la + 1
  · rw [gd_lt (by omega)]
    unfold wsub
    rw [List.getElem_append]
    by_cases h1 : i < j
    · rw [dif_pos (by omega), if_neg (by omega), List.getElem_take, gd_lt (by omega)]
    · rw [dif_neg (by omega), List.getElem_append]
      by_cases h2 : i ≤ j + n
      · rw [dif_pos (by omega), if_pos ⟨by omega, h2⟩, gd_lt (by omega)]
        congr 1; omega
      · rw [dif_neg (by omega), if_neg (by omega), List.getElem_drop, gd_lt (by omega)]
        congr 1; omega
  · rw [gd_ge (by omega), if_neg (by omega), gd_ge (by omega)]
theorem wsub_sm {ys xs : List Nat} {j n : Nat} (hy : Sm ys) (hx : Sm xs) : Sm (wsub ys xs j n) := sm_append.2 ⟨sm_take hy j, sm_append.2 ⟨hx, sm_drop hy _⟩⟩
/-- the words above are nought. -/
theorem above_zero {ys : List Nat} {k n la V : Nat} (hy : ys.length = la + 1) (hs : Sm ys) (hk : k + n ≤ la + 1) (hV : V ≤ 4294967296 ^ n) (ht : wv (ys.drop k) < V) : wv (ys.drop (k + n)) = 0 := by
  have h := wv_take_drop (ys.drop k) n (by rw [List.length_drop]; omega)
  rw [List.drop_drop] at h
  rcases Nat.eq_zero_or_pos (wv (ys.drop (k + n))) with e | e
  · exact e
  · have : 4294967296 ^ n * 1 ≤ 4294967296 ^ n * wv (ys.drop (k + n)) := Nat.mul_le_mul_left _ e
    omega
theorem div_win {A V n la j : Nat} {ys qs : List Nat} (h : DivRel A V n la (j + 1) ys qs) (hj : j + n ≤ la) (hV : V ≤ 4294967296 ^ n) :
    ((ys.drop j).take (n + 1)).length = n + 1 ∧ Sm ((ys.drop j).take (n + 1)) ∧ wv ((ys.drop j).take (n + 1)) = wv (ys.drop j) ∧ wv ((ys.drop j).take (n + 1)) < 4294967296 * V ∧ (∀ i, i ≤ n → ((ys.drop j).take (n + 1)).getD i 0 = ys.getD (j + i) 0) := by
  have hy := h.ylen
  have l1 : ((ys.drop j).take (n + 1)).length = n + 1 := by rw [List.length_take, List.length_drop]; omega
  have z := above_zero hy h.ysm (show j + 1 + n ≤ la + 1 by omega) hV h.top
  have e := wv_take_drop (ys.drop j) (n + 1) (by rw [List.length_drop]; omega)
  rw [List.drop_drop, show j + (n + 1) = j + 1 + n by omega, z, Nat.mul_zero, Nat.add_zero] at e
  refine ⟨l1, sm_take (sm_drop h.ysm j) _, e.symm, ?_, ?_⟩
  · rw [← e, List.drop_eq_getElem_cons (by omega)]
    show ys[j] + 4294967296 * wv (ys.drop (j + 1)) < _
    have a := sm_get h.ysm (show j < ys.length by omega)
    have b := h.top
    omega
  · intro i hi
    rw [gd_lt (by omega), gd_lt (by omega), List.getElem_take, List.getElem_drop]
theorem div_step {A V n la j : Nat} {ys qs xs : List Nat} (h : DivRel A V n la (j + 1) ys qs) (hj : j + n ≤ la) (hV : V ≤ 4294967296 ^ n) (hV0 : 0 < V) (hx : xs.length = n + 1) (hxs : Sm xs)
    (hxv : wv xs = wv ((ys.drop j).take (n + 1)) % V) (hq : wv ((ys.drop j).take (n + 1)) / V < 4294967296) :
    DivRel A V n la j (wsub ys xs j n) (qs.set j (wv ((ys.drop j).take (n + 1)) / V)) := by
  obtain ⟨w1, w2, w3, w4, w5⟩ := div_win h hj hV
  have hy := h.ylen
  have z := above_zero hy h.ysm (show j + 1 + n ≤ la + 1 by omega) hV h.top
  have tj : (ys.take j).length = j := by rw [List.length_take]; omega
  have hd := Nat.div_add_mod (wv ((ys.drop j).take (n + 1))) V
  have hm := Nat.mod_lt (wv ((ys.drop j).take (n + 1))) hV0
  rw [← hxv] at hd hm
  generalize wv ((ys.drop j).take (n + 1)) / V = q at *
  have e1 : wv (wsub ys xs j n) = wv (ys.take j) + 4294967296 ^ j * wv xs := by
    unfold wsub
    rw [wv_append, wv_append, tj, show j + n + 1 = j + 1 + n by omega, z, Nat.mul_zero, Nat.add_zero]
  have e2 : wv ((wsub ys xs j n).drop j) = wv xs := by
    unfold wsub
    rw [List.drop_append_of_le_length (by omega), List.drop_of_length_le (by omega), List.nil_append, wv_append, show j + n + 1 = j + 1 + n by omega, z, Nat.mul_zero, Nat.add_zero]
  refine ⟨wsub_len hy hx hj, wsub_sm h.ysm hxs, by rw [List.length_set]; exact h.qlen, sm_set h.qsm _ hq, ?_, by rw [e2]; exact hm⟩
  have hql := h.qlen
  have e3 : wv ((qs.set j q).drop j) = q + 4294967296 * wv (qs.drop (j + 1)) := by
    have i1 : j < (qs.set j q).length := by rw [List.length_set]; omega
    rw [List.drop_eq_getElem_cons i1, List.getElem_set_self, List.drop_set_of_lt (by omega)]
    rfl
  have e4 := wv_take_drop ys j (by omega)
  rw [← w3, ← hd] at e4
  rw [e1, e3, h.val, e4, Nat.pow_succ]
  generalize wv (ys.take j) = a
  generalize wv xs = x
  generalize wv (qs.drop (j + 1)) = y
  generalize 4294967296 ^ j = P
  have f1 : P * (V * q + x) = P * (V * q) + P * x := Nat.mul_add _ _ _
  have f2 : P * (V * (q + 4294967296 * y)) = P * (V * q) + P * 4294967296 * (V * y) := by
    rw [Nat.mul_add, Nat.mul_add]
    have : P * (V * (4294967296 * y)) = P * 4294967296 * (V * y) := by ac_rfl
    rw [this]
  rw [f1, f2]; omega
theorem div_end {A V n la : Nat} {ys qs : List Nat} (h : DivRel A V n la 0 ys qs) (hV0 : 0 < V) (hV : V ≤ 4294967296 ^ n) (hn : n ≤ la) : wv qs = A / V ∧ wv (ys.take n) = A % V := by
  have hv := h.val
  have ht := h.top
  have hy := h.ylen
  have z := above_zero hy h.ysm (show 0 + n ≤ la + 1 by omega) hV ht
  simp only [List.drop_zero, Nat.pow_zero, Nat.one_mul, Nat.zero_add] at hv ht z
  have e := wv_take_drop ys n (by omega)
  rw [z, Nat.mul_zero, Nat.add_zero] at e
  rw [← e, hv, Nat.add_comm]
  constructor
  · rw [Nat.mul_add_div hV0, Nat.div_eq_of_lt ht, Nat.add_zero]
  · rw [Nat.mul_add_mod, Nat.mod_eq_of_lt ht]
/-! the divisor, moved up till its first bit is 1. -/
theorem norm_core {b L c s : Nat} (hL : 0 < L) (h1 : b < 2 ^ (32 * (L - 1) + c)) (h2 : 2 ^ (32 * (L - 1) + c - 1) ≤ b) (hc : 0 < c) (hc2 : c ≤ 32) (hs : s = 32 - c) :
    b * 2 ^ s < 4294967296 ^ L ∧ 2147483648 * 4294967296 ^ (L - 1) ≤ b * 2 ^ s := by
  constructor
  · rw [pow32, show 32 * L = 32 * (L - 1) + c + s by omega, Nat.pow_add]
    exact Nat.mul_lt_mul_of_pos_right h1 (Nat.two_pow_pos _)
  · have e2 : 2147483648 * 4294967296 ^ (L - 1) = 2 ^ (32 * (L - 1) + c - 1) * 2 ^ s := by
      rw [pow32, show (2147483648 : Nat) = 2 ^ 31 by decide, ← Nat.pow_add, ← Nat.pow_add, show 31 + 32 * (L - 1) = 32 * (L - 1) + c - 1 + s by omega]
    rw [e2]
    exact Nat.mul_le_mul_right _ h2
theorem norm_len {v L : Nat} (hL : 0 < L) (up : v < 4294967296 ^ L) (lo : 2147483648 * 4294967296 ^ (L - 1) ≤ v) : (digs v).length = L := by
  have a := digs_len_le up
  have c2 := digs_lt v
  have p := Nat.pow_pos (n := L - 1) (show 0 < 4294967296 by decide)
  rcases Nat.lt_or_ge (digs v).length L with g | g
  · have q := Nat.pow_le_pow_right (show 0 < 4294967296 by decide) (show (digs v).length ≤ L - 1 by omega)
    generalize 4294967296 ^ (L - 1) = P at *
    generalize 4294967296 ^ (digs v).length = Q at *
    omega
  · omega
theorem norm_top {v L : Nat} (hL : 0 < L) (hlen : (digs v).length = L) (lo : 2147483648 * 4294967296 ^ (L - 1) ≤ v) : 2147483648 ≤ (digs v).getD (L - 1) 0 := by
  have h3 := wv_take_succ (digs v) (L - 1) (by omega)
  rw [show L - 1 + 1 = L by omega, List.take_of_length_le (by omega), wv_digs, ← gd_lt (by omega)] at h3
  have h4 := wv_lt (sm_take (digs_sm v) (L - 1))
  rw [List.length_take, Nat.min_eq_left (by omega)] at h4
  generalize (digs v).getD (L - 1) 0 = t at *
  generalize wv ((digs v).take (L - 1)) = r at *
  generalize 4294967296 ^ (L - 1) = P at *
  rcases Nat.lt_or_ge t 2147483648 with g | g
  · have k : P * (t + 1) ≤ P * 2147483648 := Nat.mul_le_mul_left _ g
    rw [Nat.mul_add, Nat.mul_comm P 2147483648, Nat.mul_one] at k
    omega
  · exact g
theorem norm_div {b : Nat} (hb : b ≠ 0) {s : Nat} (hs : s = 32 - bl ((digs b).getD ((digs b).length - 1) 0)) :
    s < 32 ∧ (digs (b * 2 ^ s)).length = (digs b).length ∧ 2147483648 ≤ (digs (b * 2 ^ s)).getD ((digs b).length - 1) 0 ∧ 2147483648 * 4294967296 ^ ((digs b).length - 1) ≤ b * 2 ^ s := by
  have hl := digs_len_pos hb
  have htop := digs_last hb
  have hble := bl_32 (sm_getD (digs_sm b) ((digs b).length - 1))
  have hbl0 : 0 < bl ((digs b).getD ((digs b).length - 1) 0) := by unfold bl; rw [if_neg htop]; exact Nat.succ_pos _
  have hT := bl_top hb
  have h1 := bl_lt b
  have h2 := bl_ge hb
  rw [hT] at h1 h2
  obtain ⟨a1, a2⟩ := norm_core hl h1 h2 hbl0 hble hs
  have a3 := norm_len hl a1 a2
  exact ⟨by omega, a3, norm_top hl a3 a2, a2⟩
theorem div_start {a b s n la : Nat} {ys : List Nat} (hla : la = (digs a).length) (hn : n = (digs b).length) (hnl : n ≤ la) (hs : s < 32) (hlo : 2147483648 * 4294967296 ^ (n - 1) ≤ b * 2 ^ s) (hn0 : 0 < n) (hy : ys.length = la + 1) (hys : Sm ys) (hyv : wv ys = a * 2 ^ s) :
    DivRel (a * 2 ^ s) (b * 2 ^ s) n la (la - n + 1) ys (List.replicate (la - n + 1) 0) := by
  refine ⟨hy, hys, by simp, sm_replicate _, ?_, ?_⟩
  · rw [List.drop_of_length_le (by simp), hyv]
    show a * 2 ^ s = a * 2 ^ s + _ * (_ * 0)
    rw [Nat.mul_zero, Nat.mul_zero, Nat.add_zero]
  · rw [wv_drop ys hys _ (by omega), hyv, Nat.div_lt_iff_lt_mul (Nat.pow_pos (by decide))]
    have h1 := digs_lt a
    rw [← hla] at h1
    have h2 : a * 2 ^ s < 4294967296 ^ la * 2 ^ s := Nat.mul_lt_mul_of_pos_right h1 (Nat.two_pow_pos _)
    have h3 : 4294967296 ^ la * 2 ^ s ≤ 4294967296 ^ la * 2147483648 := by
      apply Nat.mul_le_mul_left
      have e31 : (2147483648 : Nat) = 2 ^ 31 := by decide
      rw [e31]
      exact Nat.pow_le_pow_right (by decide) (show s ≤ 31 by omega)
    have h4 : 4294967296 ^ la * 2147483648 = 2147483648 * 4294967296 ^ (n - 1) * 4294967296 ^ (la - n + 1) := by
      rw [Nat.mul_assoc, ← Nat.pow_add, show n - 1 + (la - n + 1) = la by omega, Nat.mul_comm]
    have h5 := Nat.mul_le_mul_right (4294967296 ^ (la - n + 1)) hlo
    rw [← h4] at h5
    exact Nat.lt_of_lt_of_le h2 (Nat.le_trans h3 h5)
end Go.Proofs.Ytcfkhhnkboealaa
namespace Go.Proofs.Ytcfkhhnkboealaa
open Go.RowKit
set_option linter.unusedVariables false
set_option linter.unusedSimpArgs false
set_option maxRecDepth 100000
set_option maxHeartbeats 4000000
def RetWW (Q R : Nat) (w : World) (e : Ending) (w' : World) : Prop := ∃ v1 v2, e = .returned (.tuple #[v1, v2]) ∧ IsW w' v1 (digs Q) ∧ IsW w' v2 (digs R) ∧ Grown w w'
theorem IsW.drewN {w : World} {v : Value} {l : List Nat} (h : IsW w v l) (n : Nat) : IsW (w.drewN n) v l := h.grown (gr_drewN n (Grown.refl w))
theorem cmpI_lt {A B : Nat} (h : A < B) : cmpI A B = -1 := by unfold cmpI; rw [if_pos h]
theorem cmpI_ge {A B : Nat} (h : B ≤ A) : (cmpI A B < 0) = False := by
  unfold cmpI; rw [if_neg (by omega)]; split <;> simp
theorem cmpI_ge' {A B : Nat} (h : B ≤ A) : cmpI A B = 0 ∨ cmpI A B = 1 := by
  unfold cmpI; rw [if_neg (by omega)]; split <;> simp
theorem isW_new1 (w : World) (x : Nat) (t : TypeId) : IsW (w.alloc (.cells #[.int .u32 (x : Int)] t)) (.slice (some ⟨w.heap.size, 0, none⟩) 1 1) [x] := by
  refine ⟨_, 1, rfl, by simp, by decide, fun _ => ⟨w.heap.size, 0, rfl, by rw [size_alloc]; omega, fun j hj => ?_⟩⟩
  rw [Nat.zero_add, World.cell?_alloc_new]
  have : j = 0 := by simp at hj; omega
  subst this; rfl
theorem digs_one {x : Nat} (h : x < 4294967296) (h0 : x ≠ 0) : digs x = [x] := by
  rw [digs_pos h0, show x % 4294967296 = x by omega, show x / 4294967296 = 0 by omega, digs_zero]
theorem divW_small {v1 v2 : Value} {A B : Nat} {w : World} (h1 : IsW w v1 (digs A)) (h2 : IsW w v2 (digs B)) (h : A < B) : Calls Try.prog 150 #[v1, v2] w (RetWW 0 A w) := by
  have H1 := Lib.hid h1
  have H2 := Lib.hid h2
  have HC := Lib.hid (cmpI_lt h)
  obtain ⟨s1, c1, rfl, _, _, _⟩ := h1
  obtain ⟨s2, c2, rfl, _, _, _⟩ := h2
  go_enter Try.func150, Try.ntmps150
  go_wp2_with (first | (go_at_call 95; (with_reducible refine (cmp_c H1.out H2.out).mono ?_); rw [HC.out]; rintro e w' ⟨n, rfl, rfl⟩) | (go_at_call 148; (with_reducible refine (copied_c (H1.out.drewN _)).mono ?_); rintro e w' ⟨v, rfl, hv, hg⟩))
  go_ret2
  exact ⟨_, _, rfl, IsW.nil _, hv, gr_trans (gr_drewN _ (Grown.refl _)) hg⟩
theorem div_one {v1 : Value} {s2 : Option Addr} {c2 : Nat} {A B : Nat} {w : World} (h1 : IsW w v1 (digs A)) (h2 : IsW w (.slice s2 1 c2) (digs B)) (h : B ≤ A) (hB : B ≠ 0) (hB2 : B < 4294967296) :
    Calls Try.prog 150 #[v1, .slice s2 1 c2] w (RetWW (A / B) (A % B) w) := by
  have H1 := Lib.hid h1
  have H2 := Lib.hid h2
  have hd := digs_one hB2 hB
  obtain ⟨s, c, e0, k1, k2, k3⟩ := h2
  obtain ⟨b, off, e1, hb, hc⟩ := k3 (mt digs_nil.1 hB)
  injection e0 with e2 e3 e4
  subst e2
  subst e1
  have hcell := hc 0 (by rw [hd]; exact Nat.succ_pos _)
  rw [hd] at hcell
  have hcell' : w.cell? ⟨b, off, none⟩ = some (.int .u32 (B : Int)) := by simpa using hcell
  have hA : A ≠ 0 := by omega
  have HA := Lib.hid hA
  have HB := Lib.hid hB2
  have HB0 := Lib.hid (show 0 < B by omega)
  have HW := Lib.hid (wv_digs)
  obtain ⟨r, hr⟩ : ∃ r, A % B = r := ⟨_, rfl⟩
  have hRr : RowKit.Hid (A % B = r) := Lib.hid hr
  have hRs : RowKit.Hid (Sm [r]) := Lib.hid (sm_cons.2 ⟨by rw [← hr]; exact Nat.lt_trans (Nat.mod_lt _ (by omega)) hB2, sm_nil⟩)
  have hRv : RowKit.Hid (wv [r] = A % B) := Lib.hid (by rw [hr]; simp [wv])
  have hc2 : 1 ≤ c2 := by rw [hd] at k1; subst e4; simpa using k1
  have hc3 : c2 ≤ 1000000000 := by subst e4; exact k2
  have hpos : (0 : Int) < 1 := by decide
  obtain ⟨s1, c1, rfl, a1, a2, a3⟩ := h1
  clear hr hc hcell k3 k1 k2 hd e3 e4 hB hB2 hA a3
  rcases cmpI_ge' h with hcm | hcm
  all_goals
    have HC := Lib.hid hcm
    clear hcm
    go_enter Try.func150, Try.ntmps150
    go_wp2_with (first | (go_at_call 95; (with_reducible refine (cmp_c H1.out H2.out).mono ?_); rw [HC.out]; rintro e w' ⟨n, rfl, rfl⟩) | (go_at_call 172; (with_reducible refine (divSmall_c (H1.out.drewN _) HA.out HB0.out HB.out).mono ?_); rw [hRr.out]; rintro e w' ⟨q, rfl, hq, hg⟩) | (go_at_call 145; (with_reducible refine (trim_c (isW_new1 _ r _) hRs.out).mono ?_); rw [hRv.out]; rintro e w' ⟨v', n', rfl, hv, rfl⟩))
    go_ret2
    exact ⟨_, _, rfl, (hq.grown ((Grown.refl _).alloc _ _)).drewN _, hv, gr_drewN _ (gr_alloc (gr_trans (gr_drewN _ (Grown.refl _)) hg) _ _)⟩
end Go.Proofs.Ytcfkhhnkboealaa
namespace Go.Proofs.Ytcfkhhnkboealaa
open Go.RowKit
set_option linter.unusedVariables false
set_option linter.unusedSimpArgs false
set_option maxRecDepth 100000
set_option maxHeartbeats 4000000
theorem grown_heap {W w' : World} (h : Grown W w') {b : Nat} {c : Array Value} {t : TypeId} {fr : Nat × Nat} (hb : W.heap[b]? = some (.cells c t fr)) : w'.heap[b]? = some (.cells c t fr) := by
  have hlt : b < W.heap.size := (Array.getElem?_eq_some_iff.1 hb).1
  have k := h.1.2.2 b hlt
  rw [hb] at k
  cases h2 : w'.heap[b]? with
  | none => rw [h2] at k; simp at k
  | some o' =>
    rw [h2] at k
    cases o'
    case cells c' t' fr' =>
      obtain ⟨k1, k2, k3, k4⟩ := k
      subst k1; subst k2
      have : c' = c := Array.ext_getElem? fun i => k4 i (fun h => h)
      rw [this]
    all_goals simp at k
/-- words laid over a row of noughts. -/
theorem copy_words {P : Program} {w : World} {ops : Array Oper} {rest : List Oper} {o : Oper} {a : Act} {Q : Exit → Act → World → Prop} (hgd : o.guard = none) (d s : Operand) (dT sT : TypeId)
    (ho : o.op = .call { callee := .builtin .copy, args := #[d, s], argTypes := #[dT, sT] }) (elem : TypeId) (hu : P.underlying dT = some (.slice elem)) (hsz : (P.info? elem).map (·.size) = some 1)
    (g N dCap : Nat) (v : Value) (ws : List Nat) (hd : a.eval d = .slice (some ⟨g, 0, none⟩) N dCap) (hs : a.eval s = v) (hw : IsW w v ws) (h0 : ws ≠ []) (hle : ws.length ≤ N) (t : TypeId)
    (hg : w.heap[g]? = some (.cells (madeCells #[.int .u32 0] N) t (0, 0)))
    (h : ∀ w', Hid (Row w' g (ws ++ List.replicate (N - ws.length) 0)) → Hid (∀ w0, Grown w0 w → w0.heap.size ≤ g → Grown w0 w') → Hid (w'.heap.size = w.heap.size) → wpList P ops Q rest (a.put o.dst (goInt ws.length)) w') :
    wpList P ops Q (o :: rest) a w := by
  obtain ⟨sa, cap, e1, e2, e3, e4⟩ := hw
  obtain ⟨b, off, e5, e6, e7⟩ := e4 h0
  subst e1
  subst e5
  have hsz2 : (madeCells #[Value.int .u32 0] N).size = N := size_madeCells _ _
  refine wpList_copy_own hgd d s dT sT ho elem hu hsz g 0 N dCap ⟨b, off, none⟩ ws.length cap hd hs _ t hg (ws.map fun x : Nat => (Value.int .u32 (x : Int))) ?c1 ?c2 ?c3 ?c4 ?c5
  case c1 => rw [List.length_map]; exact (Nat.min_eq_left hle).symm
  case c2 =>
    intro j v hj
    rw [List.getElem?_map] at hj
    cases hq : ws[j]? with
    | none => rw [hq] at hj; cases hj
    | some x =>
      rw [hq] at hj
      simp at hj
      obtain ⟨hlt, hx⟩ := List.getElem?_eq_some_iff.1 hq
      have := e7 j hlt
      rw [gd_lt hlt, hx] at this
      have e : (⟨b, off, none⟩ : Addr).add j = ⟨b, off + j, none⟩ := by cases j <;> simp [Addr.add]
      rw [e, this, ← hj]
  case c3 => rw [hsz2, List.length_map]; omega
  case c4 => intro v hv; simp at hv; obtain ⟨x, _, rfl⟩ := hv; rfl
  case c5 =>
    rw [List.length_map]
    refine h _ (Lib.hid ⟨fun j hj => ?_, ?_⟩) (Lib.hid fun w0 h1 h2 => gr_setRow h1 h2 _) (Lib.hid (by simp [World.setRow]))
    · rw [cell_setRow_same _ _ _ _ _ _ _ hg]
      simp only [List.take_zero, List.nil_append, Nat.zero_add, List.getElem?_toArray]
      simp only [List.length_append, List.length_replicate] at hj
      rw [gd_lt (by simp only [List.length_append, List.length_replicate]; exact hj), List.getElem_append]
      by_cases hj2 : j < ws.length
      · rw [dif_pos hj2, List.getElem?_append_left (by rw [List.length_map]; exact hj2)]
        simp [hj2]
      · rw [dif_neg hj2, List.getElem?_append_right (by rw [List.length_map]; omega), List.getElem_replicate, List.length_map, List.getElem?_drop, show ws.length + (j - ws.length) = j by omega, Array.getElem?_toList]
        have hjN : j < N := by omega
        simp [madeCells, hjN, Nat.mod_one]
    · have hlt := (Array.getElem?_eq_some_iff.1 hg).1
      simpa [World.setRow] using hlt
theorem isW_slice {w : World} {v : Value} {l : List Nat} {n : Nat} (h : IsW w v l) (hl : l.length = n) (h0 : 0 < n) : ∃ b off cap, v = .slice (some ⟨b, off, none⟩) n cap ∧ n ≤ cap ∧ cap ≤ 1000000000 ∧ b < w.heap.size ∧ Hid (∀ j, j < n → w.cell? ⟨b, off + j, none⟩ = some (.int .u32 ((l.getD j 0 : Nat) : Int))) := by
  obtain ⟨s, cap, e, h1, h2, h3⟩ := h
  subst hl
  obtain ⟨b, off, rfl, hb, hc⟩ := h3 (by intro e; rw [e] at h0; cases h0)
  exact ⟨b, off, cap, e, h1, h2, hb, Lib.hid hc⟩
theorem heap_made (w : World) (c : Array Value) (t : TypeId) : (w.alloc (.cells c t)).heap[w.heap.size]? = some (.cells c t (0, 0)) := heap_last _ _
theorem isW_undrew {w : World} {v : Value} {l : List Nat} {n : Nat} (h : IsW (w.drewN n) v l) : IsW w v l := h
theorem gr_drew1 {w w' : World} (h : Grown w w') : Grown w w'.drew := gr_drewN 1 h
structure DvInv (A2 V n la bu bq k : Nat) (w1 wr : World) (ys qs : List Nat) : Prop where
  rel : DivRel A2 V n la k ys qs
  ru : Row wr bu ys
  rq : Row wr bq qs
  gr : Grown w1 wr
theorem dv_win {A2 V n la bu bq j : Nat} {w1 wr : World} {ys qs : List Nat} (h : DvInv A2 V n la bu bq (j + 1) w1 wr ys qs) (hj : j + n ≤ la) (hV : V ≤ 4294967296 ^ n) :
    ∀ i, i ≤ n → wr.cell? ⟨bu, j + i, none⟩ = some (.int .u32 ((((ys.drop j).take (n + 1)).getD i 0 : Nat) : Int)) := by
  intro i hi
  obtain ⟨_, _, _, _, w5⟩ := div_win h.rel hj hV
  have hy := h.rel.ylen
  rw [w5 i hi]
  exact h.ru.cell (j + i) (by omega)
theorem dv_step {A2 V n la bu bq j : Nat} {w1 wr w' : World} {ys qs xs : List Nat} (h : DvInv A2 V n la bu bq (j + 1) w1 wr ys qs) (hj : j + n ≤ la) (hV : V ≤ 4294967296 ^ n) (hV0 : 0 < V) (hne : bu ≠ bq) (hu : w1.heap.size ≤ bu) (hq1 : w1.heap.size ≤ bq)
    (hx : xs.length = n + 1) (hxs : Sm xs) (hxv : wv xs = wv ((ys.drop j).take (n + 1)) % V) (hc : ∀ i, i ≤ n → w'.cell? ⟨bu, j + i, none⟩ = some (.int .u32 ((xs.getD i 0 : Nat) : Int))) (ht : Tch bu j n wr w') :
    DvInv A2 V n la bu bq j w1 (w'.setCell ⟨bq, j, none⟩ (.int .u32 ((wv ((ys.drop j).take (n + 1)) / V : Nat) : Int))) (wsub ys xs j n) (qs.set j (wv ((ys.drop j).take (n + 1)) / V)) := by
  obtain ⟨_, _, _, w4, _⟩ := div_win h.rel hj hV
  have hy := h.rel.ylen
  have hql := h.rel.qlen
  have hg := ht.grown w1 h.gr hu
  refine ⟨div_step h.rel hj hV hV0 hx hxs hxv ?_, ⟨fun i hi => ?_, ?_⟩, ?_, ?_⟩
  · rw [Nat.div_lt_iff_lt_mul hV0]; exact w4
  · rw [wsub_len hy hx hj] at hi
    rw [World.cell?_setCell_other _ _ _ _ (by intro e; injection e with e1 e2; exact hne e1.symm)]
    show w'.cell? _ = _
    rw [wsub_getD hy hx hj]
    by_cases e : j ≤ i ∧ i ≤ j + n
    · rw [if_pos e]
      have := hc (i - j) (by omega)
      rwa [show j + (i - j) = i by omega] at this
    · rw [if_neg e, ht.cell bu i (by omega)]
      exact h.ru.cell i (by omega)
  · rw [size_setCell]; show _ < w'.heap.size; rw [ht.size]; exact h.ru.lt
  · refine Row.set (w := w') ⟨fun i hi => ?_, ?_⟩ (by omega) _
    · show w'.cell? _ = _
      rw [ht.cell bq i (Or.inl (fun e => hne e.symm))]
      exact h.rq.cell i hi
    · show _ < w'.heap.size; rw [ht.size]; exact h.rq.lt
  · exact hg.setCell hq1 _
theorem div_big {v1 v2 : Value} {A B n la : Nat} {w : World} (h1 : IsW w v1 (digs A)) (h2 : IsW w v2 (digs B)) (h : B ≤ A) (hn : (digs B).length = n) (hla : (digs A).length = la) (hn2 : 2 ≤ n) (hla2 : la ≤ 100000) :
    Calls Try.prog 150 #[v1, v2] w (RetWW (A / B) (A % B) w) := by
  have H1 := Lib.hid h1
  have H2 := Lib.hid h2
  have hB : B ≠ 0 := by intro e; subst e; rw [digs_zero] at hn; simp at hn; omega
  have hA : A ≠ 0 := by omega
  have hnla : n ≤ la := by rw [← hn, ← hla]; exact digs_len_le (Nat.lt_of_le_of_lt h (digs_lt A))
  obtain ⟨b1, o1, c1, rfl, a1, a2, a3, a4⟩ := isW_slice h1 hla (by omega)
  obtain ⟨b2, o2, c2, rfl, d1, d2, d3, d4⟩ := isW_slice h2 hn (by omega)
  have hcell := d4.out (n - 1) (by omega)
  obtain ⟨t, ht⟩ : ∃ t, (digs B).getD (n - 1) 0 = t := ⟨_, rfl⟩
  have ht2 : t < 4294967296 := by rw [← ht]; exact sm_getD (digs_sm B) _
  have hnd := norm_div hB (s := 32 - bl t) (by rw [hn, ht])
  rw [hn] at hnd
  rw [ht] at hcell
  obtain ⟨s, hs⟩ : ∃ s, 32 - bl t = s := ⟨_, rfl⟩
  rw [hs] at hnd
  obtain ⟨s32, vlen, vtop, vlo⟩ := hnd
  have hbl := bl_32 ht2
  have HS : RowKit.Hid (32 - (Lib.bitLen ((t : Int)).toNat : Int) = (s : Int)) := Lib.hid (by rw [Int.toNat_natCast, libLen ht2]; omega)
  have hmk1 := mk_words ((la : Int) + 1) (la + 1) (by omega) (by omega)
  have hmk2 := mk_words ((la : Int) - (n : Int) + 1) (la - n + 1) (by omega) (by omega)
  have HL1 := Lib.hid hla
  have HL2 := Lib.hid hn
  have hk1 : ((n : Int) - 1).toNat = n - 1 := by omega
  have hP : 0 < 2 ^ s := Nat.two_pow_pos s
  obtain ⟨V, hV⟩ : ∃ V, B * 2 ^ s = V := ⟨_, rfl⟩
  obtain ⟨A2, hA2⟩ : ∃ A2, A * 2 ^ s = A2 := ⟨_, rfl⟩
  have HHV := Lib.hid hV
  have HHA := Lib.hid hA2
  rw [hV] at vlen vtop vlo
  have hA20 : A2 ≠ 0 := by rw [← hA2]; exact Nat.mul_ne_zero hA (by omega)
  have HV := Lib.hid vlen
  have HT := Lib.hid vtop
  have HLO := Lib.hid vlo
  have hal : (digs A2).length ≤ la + 1 := by
    have e := Nat.mul_lt_mul_of_pos_right (digs_lt A) hP
    rw [hA2, hla] at e
    refine digs_len_le (Nat.lt_of_lt_of_le e ?_)
    rw [Nat.pow_succ]
    refine Nat.mul_le_mul_left _ ?_
    have : 2 ^ s ≤ 2 ^ 32 := Nat.pow_le_pow_right (by decide) (by omega)
    exact this
  have HA2 := Lib.hid (mt digs_nil.1 hA20)
  have HAL := Lib.hid hal
  have HDL : RowKit.Hid (∀ l : List Nat, l.length = la + 1 → Sm l → wv l = A2 → DivRel A2 V n la (la - n + 1) l (List.replicate (la - n + 1) 0)) := Lib.hid (by
    intro l l1 l2 l3
    have := div_start (a := A) (b := B) (s := s) (n := n) (la := la) (ys := l) hla.symm hn.symm hnla s32 (by rw [hV]; exact vlo) (by omega) l1 l2 (by rw [hA2]; exact l3)
    rwa [hA2, hV] at this)
  clear ht hs hbl vlen vtop vlo hV hA2 hA20 hal hla hn hB hA hP
  rcases cmpI_ge' h with hcm | hcm
  all_goals
    have HC := Lib.hid hcm
    clear hcm
    go_enter Try.func150, Try.ntmps150
    go_wp2_with (first
      | (go_at_call 95; (with_reducible refine (cmp_c H1.out H2.out).mono ?_); rw [HC.out]; rintro e w' ⟨n0, rfl, rfl⟩)
      | (go_at_call 173; (with_reducible refine (lead32_c (t : Int) _ (by omega) (by omega)).mono ?_); rw [HS.out]; rintro e w' ⟨rfl, rfl⟩)
      | (go_at_call 101; ((with_reducible refine (upW_c s (H2.out.grown (gr_drewN _ (Grown.refl _))) (by omega) (by rw [HL2.out]; omega)).mono ?_); rw [HHV.out]; rintro e w1 ⟨v, rfl, hv, hg1⟩; have HHVW := Lib.hid hv; obtain ⟨bv, ov, cv, rfl, e1, e2, e3, e4⟩ := isW_slice hv HV.out (by omega); clear hv; have HG1 := Lib.hid (gr_trans (gr_drewN _ (Grown.refl w)) hg1); clear hg1))
      | (go_at_call 101; ((with_reducible refine (upW_c s (H1.out.grown (gr_alloc HG1.out _ _)) (by omega) (by rw [HL1.out]; omega)).mono ?_); rw [HHA.out]; rintro e w2 ⟨v, rfl, hv2, hg2⟩; have HHW := Lib.hid hv2; have HG2 := Lib.hid hg2; clear hv2 hg2))
      | (refine copy_words rfl (.tmp 49) (.tmp 52) 36 36 rfl 153 Try.underlying36 (by kernel_rfl) w1.heap.size (la + 1) (la + 1) _ (digs A2) rfl rfl HHW.out HA2.out HAL.out 153 (grown_heap HG2.out (heap_made _ _ _)) ?_; intro w3 HR3 HG3 HS3)
      | fail)
    have HSZ : RowKit.Hid (w1.heap.size < w3.heap.size) := Lib.hid (by have := HG2.out.2.2; rw [size_alloc] at this; rw [HS3.out]; omega)
    have HST : RowKit.Hid (DvInv A2 V n la w1.heap.size w3.heap.size (la - n + 1) w1 (w3.alloc (.cells (madeCells #[.int .u32 0] (la - n + 1)) 153)) (digs A2 ++ List.replicate (la + 1 - (digs A2).length) 0) (List.replicate (la - n + 1) 0)) := Lib.hid (by
      have g3 : Grown w1 w3 := HG3.out w1 (gr_trans ((Grown.refl _).alloc _ _) HG2.out) (Nat.le_refl _)
      refine ⟨HDL.out _ ?_ ?_ ?_, HR3.out.grown ((Grown.refl _).alloc _ _), row_made _ _ _, g3.alloc _ _⟩
      · have := HAL.out; rw [List.length_append, List.length_replicate]; omega
      · exact sm_append.2 ⟨digs_sm _, sm_replicate _⟩
      · rw [wv_append, wv_digs, wv_replicate, Nat.mul_zero, Nat.add_zero])
    obtain ⟨w4, hw4⟩ : ∃ w4, w4 = w3.alloc (.cells (madeCells #[.int .u32 0] (la - n + 1)) 153) := ⟨_, rfl⟩
    rw [← hw4] at HST
    have hV0 : RowKit.Hid (0 < V) := Lib.hid (Nat.lt_of_lt_of_le (Nat.mul_pos (by decide) (Nat.pow_pos (by decide))) HLO.out)
    have hVn : RowKit.Hid (V ≤ 4294967296 ^ n) := Lib.hid (by have := digs_lt V; rw [HV.out] at this; exact Nat.le_of_lt this)
    go_loopw [13] (fun n13 wr => ∃ (k : Nat) (ys qs : List Nat), n13 = .int .i64 ((k : Int) - 1) ∧ k ≤ la - n + 1 ∧ RowKit.Hid (DvInv A2 V n la w1.heap.size w3.heap.size k w1 wr ys qs)) (fun n13 _ => (intOf n13 + 1).toNat)
    case atStart => exact ⟨la - n + 1, _, _, by congr 1; omega, Nat.le_refl _, by first | exact HST | (rw [← hw4]; exact HST)⟩
    case round =>
      obtain ⟨k, ys, qs, rfl, hk, HI⟩ := hrel
      by_cases hk0 : k = 0
      · subst hk0
        obtain ⟨q1, q2⟩ := div_end HI.out.rel hV0.out hVn.out hnla
        have HQ1 := Lib.hid (show wv qs = A / B by rw [q1, ← HHA.out, ← HHV.out, Nat.mul_div_mul_right _ _ (Nat.two_pow_pos s)])
        have HQ2 := Lib.hid (show wv (ys.take n) = A % B * 2 ^ s by rw [q2, ← HHA.out, ← HHV.out, Nat.mul_mod_mul_right])
        have HQ3 := Lib.hid (Nat.mul_div_cancel (A % B) (Nat.two_pow_pos s))
        have hql := HI.out.rel.qlen
        have hyl := HI.out.rel.ylen
        have HW1 := Lib.hid (show IsW wr (.slice (some ⟨w3.heap.size, 0, none⟩) (la - n + 1) (la - n + 1)) qs from by
          have := HI.out.rq.isW (la - n + 1) (la - n + 1) (by omega) (by omega) (by omega)
          rwa [List.take_of_length_le (by omega)] at this)
        have HW2 := Lib.hid (show IsW wr (.slice (some ⟨w1.heap.size, 0, none⟩) n (la + 1)) (ys.take n) from HI.out.ru.isW n (la + 1) (by omega) (by omega) (by omega))
        clear q1 q2 hql hyl
        go_wp2_with fail
        go_region_with (first
          | (go_at_call 145; (with_reducible refine (trim_c (HW1.out.grown (by repeat (first | exact Grown.refl _ | (refine gr_trans ?_ (by assumption)) | apply gr_drewN | apply gr_drew1))) HI.out.rel.qsm).mono ?_); rw [HQ1.out]; rintro e w5 ⟨vq, n5, rfl, hvq, rfl⟩; replace hvq := isW_undrew hvq; try (replace hvq := isW_undrew hvq))
          | (go_at_call 145; (with_reducible refine (trim_c (HW2.out.grown (by repeat (first | exact Grown.refl _ | (refine gr_trans ?_ (by assumption)) | apply gr_drewN | apply gr_drew1))) (sm_take HI.out.rel.ysm n)).mono ?_); rw [HQ2.out]; rintro e w5 ⟨vu, n6, rfl, hvu, rfl⟩; replace hvu := isW_undrew hvu; try (replace hvu := isW_undrew hvu))
          | (go_at_call 175; (with_reducible refine (downW_c s (hvu.grown (by repeat (first | exact Grown.refl _ | (refine gr_trans ?_ (by assumption)) | apply gr_drewN | apply gr_drew1))) (by omega)).mono ?_); rw [HQ3.out]; rintro e w6 ⟨vr, rfl, hvr, hg6⟩)
          | fail)
        all_goals go_wp2
        all_goals go_ret2
        all_goals exact ⟨_, _, rfl, hvq.grown (by repeat (first | exact Grown.refl _ | (refine gr_trans ?_ (by assumption)) | apply gr_drewN | apply gr_drew1)), hvr.grown (by repeat (first | exact Grown.refl _ | (refine gr_trans ?_ (by assumption)) | apply gr_drewN | apply gr_drew1)), gr_trans (gr_trans HG1.out HI.out.gr) (by repeat (first | exact Grown.refl _ | (refine gr_trans ?_ (by assumption)) | apply gr_drewN | apply gr_drew1))⟩
      · obtain ⟨j, rfl⟩ : ∃ j, k = j + 1 := ⟨k - 1, by omega⟩
        obtain ⟨z, hz⟩ : ∃ z : Int, ((j + 1 : Nat) : Int) - 1 = z := ⟨_, rfl⟩
        rw [hz]
        obtain rfl : (j : Int) = z := by omega
        clear hz
        have HWN := Lib.hid (dv_win HI.out (by omega) hVn.out)
        obtain ⟨f1, f2, f3, f4, f5⟩ := div_win HI.out.rel (by omega) hVn.out
        have F1 := Lib.hid f1
        have F2 := Lib.hid f2
        have F4 := Lib.hid f4
        clear f1 f2 f3 f4 f5
        have HQC := HI.out.rq.cell j (by have := HI.out.rel.qlen; omega)
        have fq : wr.frozen? ⟨w3.heap.size, j, none⟩ = false := Row.free HI.out.gr (Nat.le_of_lt HSZ.out)
        have HVC : RowKit.Hid (∀ i, i < n → wr.cell? ⟨bv, ov + i, none⟩ = some (.int .u32 (((digs V).getD i 0 : Nat) : Int))) := Lib.hid (fun i hi => by rw [grown_cell HI.out.gr e3]; exact e4.out i hi)
        have hne : bv ≠ w1.heap.size := by omega
        have hfu : RowKit.Hid (∀ i, wr.frozen? ⟨w1.heap.size, i, none⟩ = false) := Lib.hid (fun i => Row.free HI.out.gr (Nat.le_refl _))
        go_wp2_with (first
          | (go_at_call 174; rw [show j + n + 1 - j = n + 1 by omega]; go_loud ((with_reducible refine (figure_core hn2 (by omega) F1.out HV.out F2.out (digs_sm V) HT.out (by rw [wv_digs]; exact F4.out) (by omega) (by omega) e1 e2 hne hfu.out HWN.out HVC.out).mono ?_); rw [wv_digs]; rintro e w5 ⟨xs, rfl, x1, x2, x3, x4, x5⟩; have X1 := Lib.hid x1; have X2 := Lib.hid x2; have X3 := Lib.hid x3; have X4 := Lib.hid x4; have X5 := Lib.hid x5; clear x1 x2 x3 x4 x5; have hqc := (X5.out.cell w3.heap.size j (Or.inl (fun e => Nat.lt_irrefl _ (e ▸ HSZ.out)))).trans HQC; have fqc := (X5.out.frz ⟨w3.heap.size, j, none⟩).trans fq))
          | fail)
        go_roundw
        case rel => exact ⟨j, _, _, rfl, by omega, Lib.hid (dv_step HI.out (by omega) hVn.out hV0.out (by have := HSZ.out; omega) (Nat.le_refl _) (Nat.le_of_lt HSZ.out) X1.out X2.out X3.out X4.out X5.out)⟩
        case measure => simp [intOf]
theorem div_c {v1 v2 : Value} {A B : Nat} {w : World} (h1 : IsW w v1 (digs A)) (h2 : IsW w v2 (digs B)) (hB : B ≠ 0) (hA : (digs A).length ≤ 100000) : Calls Try.prog 150 #[v1, v2] w (RetWW (A / B) (A % B) w) := by
  rcases Nat.lt_or_ge A B with h | h
  · have := divW_small h1 h2 h
    rwa [Nat.div_eq_of_lt h, Nat.mod_eq_of_lt h]
  · rcases Nat.lt_or_ge (digs B).length 2 with hl | hl
    · have hB2 : B < 4294967296 := by
        have := digs_lt B
        have h1 := digs_len_pos hB
        rwa [show (digs B).length = 1 by omega, Nat.pow_one] at this
      obtain ⟨b, off, cap, rfl, _⟩ := isW_slice h2 (show (digs B).length = 1 by have h1 := digs_len_pos hB; omega) (by decide)
      exact div_one h1 h2 h hB hB2
    · exact div_big h1 h2 h rfl rfl hl hA
end Go.Proofs.Ytcfkhhnkboealaa
namespace Go.Proofs.Ytcfkhhnkboealaa
open Go.RowKit
set_option linter.unusedVariables false
set_option linter.unusedSimpArgs false
set_option maxRecDepth 100000
def nrU (a d : Nat) : Int := max ((bl a : Int) - (bl d : Int) - 53) (-1074)
def nrA (a d : Nat) : Nat := a * 2 ^ (-(nrU a d)).toNat
def nrD (a d : Nat) : Nat := d * 2 ^ (nrU a d).toNat
theorem pow_split {x y z : Nat} (h : x = y + z) : 2 ^ x = 2 ^ y * 2 ^ z := by rw [h, Nat.pow_add]
/-- the quotient has at most 54 bits. -/
theorem nr_lt {a d : Nat} (ha : a ≠ 0) (hd : d ≠ 0) : nrA a d / nrD a d < 2 ^ 54 := by
  have a1 := bl_lt a
  have d1 := bl_ge hd
  have d0 : 0 < bl d := by unfold bl; rw [if_neg hd]; exact Nat.succ_pos _
  have hD : 0 < nrD a d := Nat.mul_pos (Nat.pos_of_ne_zero hd) (Nat.two_pow_pos _)
  rw [Nat.div_lt_iff_lt_mul hD]
  unfold nrA nrD
  generalize hu : nrU a d = u
  have hu2 : (bl a : Int) - (bl d : Int) - 53 ≤ u := by rw [← hu]; unfold nrU; omega
  calc a * 2 ^ (-u).toNat < 2 ^ bl a * 2 ^ (-u).toNat := Nat.mul_lt_mul_of_pos_right a1 (Nat.two_pow_pos _)
    _ = 2 ^ (bl a + (-u).toNat) := (Nat.pow_add _ _ _).symm
    _ ≤ 2 ^ (54 + ((bl d - 1) + u.toNat)) := Nat.pow_le_pow_right (by decide) (by omega)
    _ = 2 ^ 54 * (2 ^ (bl d - 1) * 2 ^ u.toNat) := by rw [Nat.pow_add, Nat.pow_add]
    _ ≤ 2 ^ 54 * (d * 2 ^ u.toNat) := Nat.mul_le_mul_left _ (Nat.mul_le_mul_right _ d1)
/-- and at least 53 of them, where the unit is not the least one. -/
theorem nr_ge {a d : Nat} (ha : a ≠ 0) (hd : d ≠ 0) (hu0 : -1074 < nrU a d) : 2 ^ 52 ≤ nrA a d / nrD a d := by
  have a1 := bl_ge ha
  have d1 := bl_lt d
  have a0 : 0 < bl a := by unfold bl; rw [if_neg ha]; exact Nat.succ_pos _
  have hD : 0 < nrD a d := Nat.mul_pos (Nat.pos_of_ne_zero hd) (Nat.two_pow_pos _)
  rw [Nat.le_div_iff_mul_le hD]
  unfold nrA nrD
  have hu2 : nrU a d = (bl a : Int) - (bl d : Int) - 53 := by unfold nrU at hu0 ⊢; omega
  generalize nrU a d = u at hu2
  calc 2 ^ 52 * (d * 2 ^ u.toNat) ≤ 2 ^ 52 * (2 ^ bl d * 2 ^ u.toNat) := Nat.mul_le_mul_left _ (Nat.mul_le_mul_right _ (Nat.le_of_lt d1))
    _ = 2 ^ (52 + (bl d + u.toNat)) := by rw [Nat.pow_add, Nat.pow_add]
    _ ≤ 2 ^ ((bl a - 1) + (-u).toNat) := Nat.pow_le_pow_right (by decide) (by omega)
    _ = 2 ^ (bl a - 1) * 2 ^ (-u).toNat := Nat.pow_add _ _ _
    _ ≤ a * 2 ^ (-u).toNat := Nat.mul_le_mul_right _ a1
end Go.Proofs.Ytcfkhhnkboealaa
