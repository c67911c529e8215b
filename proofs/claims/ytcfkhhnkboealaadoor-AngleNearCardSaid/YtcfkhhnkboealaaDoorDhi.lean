/- The law's angle of 1 / n, and its half circle: near to the true ones. The law's half circle: near to the true one. -/
import Derived.Test.YtcfkhhnkboealaaDoorDag
import Derived.Test.YtcfkhhnkboealaaDoorDcd
namespace Go.Proofs.YtcfkhhnkboealaaDoor
open Go.RowKit
set_option linter.unusedVariables false
set_option linter.unusedSimpArgs false
set_option maxRecDepth 100000
set_option maxHeartbeats 4000000
open Turns Sizes
theorem u4_fine : 0 ≤ u4 ∧ u4 ≤ 1 / 1000000000000 ∧ u4 ≤ tw 390 := by
  refine ⟨Rat.le_of_lt u4_pos, ?_, ?_⟩
  · have h : u4 ≤ pw (-60) := pw_mono (by decide)
    exact Rat.le_trans h (by decide +kernel)
  · rw [tw_pw]; exact pw_mono (by decide)
theorem Sz.between {n : Nat} {x a b : Rat} (h1 : a ≤ x) (h2 : x ≤ b) (h0 : 0 ≤ a) (ha : pw (-(n : Int)) ≤ a) (hb : b ≤ pw (n : Int)) : Sz n x := by
  right
  rw [ab_pos (by grind)]
  exact ⟨Rat.le_trans ha h1, Rat.le_trans h2 hb⟩
theorem Sz.zero : Sz 0 0 := Or.inl rfl
theorem Sz.nat {k : Nat} (h0 : 1 ≤ k) (h : k ≤ 60000) : Sz 16 (k : Rat) := by
  have h1 : (1 : Rat) ≤ (k : Rat) := cast_le.2 h0
  have h2 : (k : Rat) ≤ ((60000 : Nat) : Rat) := cast_le.2 h
  exact Sz.between h1 h2 (by decide +kernel) (by decide +kernel) (by decide +kernel)
theorem Sz.natInv {k : Nat} (h0 : 1 ≤ k) (h : k ≤ 60000) : Sz 16 (1 / (k : Rat)) := by
  have h1 : (1 : Rat) ≤ (k : Rat) := cast_le.2 h0
  have h2 : (k : Rat) ≤ ((60000 : Nat) : Rat) := cast_le.2 h
  have e : ((60000 : Nat) : Rat) = 60000 := rfl
  rw [e] at h2
  refine Sz.between (a := 1 / 60000) (b := 1) ?_ ?_ (by decide +kernel) (by decide +kernel) (by decide +kernel)
  · rw [le_div (by grind)]; grind
  · rw [div_le (by grind)]; grind
theorem Sz.pn {x : Rat} {m : Nat} (h : Sz m x) : ∀ k, Sz (m * k + 1) (Proofs.YtcfkhhnkboealaaDoor.pn x k)
  | 0 => Sz.one.mono (by omega)
  | k + 1 => by
    have := (Sz.pn h k).mul h
    exact this.mono (by rw [Nat.mul_succ]; omega)
theorem sn_odd : ∀ k, (k % 2 = 0 → sn k = 1) ∧ (k % 2 = 1 → sn k = -1)
  | 0 => ⟨fun _ => rfl, fun h => by omega⟩
  | k + 1 => by
    obtain ⟨a, b⟩ := sn_odd k
    constructor
    · intro h; show -sn k = 1; rw [b (by omega)]; decide +kernel
    · intro h; show -sn k = -1; rw [a (by omega)]
/-- sizes within a round. -/
theorem less_sz {n k : Nat} {t : Rat} (h0 : 1 ≤ n) (hn : n ≤ 60000) (hk : k ≤ 180) (h : LTm u4 (1 / (n : Rat)) k t) : Sz 5800 t := by
  have p := Sz.pn (Sz.natInv h0 hn) (2 * k + 1)
  have kn : ((k + 1 : Nat) : Rat) ≤ 181 := cast_le.2 (show k + 1 ≤ 181 by omega)
  obtain ⟨u0, u1, _⟩ := u4_fine
  have m := Rat.mul_le_mul_of_nonneg_right kn u0
  have e : 8 * ((k + 1 : Nat) : Rat) * u4 = 8 * (((k + 1 : Nat) : Rat) * u4) := by grind
  exact (p.near h (by rw [e]; grind)).mono (by omega)
theorem one_sz {n k : Nat} {o : Rat} (h0 : 1 ≤ n) (hn : n ≤ 60000) (hk : k ≤ 180) (h : ab (o - pn (1 / (n : Rat)) (2 * k + 1) / ((2 * k + 1 : Nat) : Rat)) ≤ 1500 * u4 * ab (pn (1 / (n : Rat)) (2 * k + 1) / ((2 * k + 1 : Nat) : Rat))) : Sz 5820 o := by
  have p := (Sz.pn (Sz.natInv h0 hn) (2 * k + 1)).mul (Sz.natInv (k := 2 * k + 1) (by omega) (by omega))
  obtain ⟨u0, u1, _⟩ := u4_fine
  have e : ∀ z : Rat, z / ((2 * k + 1 : Nat) : Rat) = z * (1 / ((2 * k + 1 : Nat) : Rat)) := by intro z; grind
  rw [e] at h
  exact (p.near h (by grind)).mono (by omega)
theorem signed_sz {m k : Nat} {o o' : Rat} (h : Sz m o) (h2 : ab (o' - sn k * o) ≤ u4 * ab o) : Sz (m + 1) o' := by
  obtain ⟨u0, u1, _⟩ := u4_fine
  have e : ab (sn k * o) = ab o := by rw [ab_mul, sn_ab, Rat.one_mul]
  have s : Sz m (sn k * o) := by
    rcases h with q | q
    · left; rw [q, Rat.mul_zero]
    · right; rw [e]; exact q
  rw [← e] at h2
  exact s.near h2 (by grind)
theorem sum_szL {n k : Nat} {s : Rat} (h0 : 5 ≤ n) (hn : n ≤ 239) (hk : k ≤ 180) (h : LSm u4 (1 / (n : Rat)) k s) : Sz 20 s := by
  obtain ⟨u0, u1, _⟩ := u4_fine
  have x1 : 1 / 300 ≤ 1 / (n : Rat) ∧ 1 / (n : Rat) ≤ 1 / 5 := by
    have h1 : ((5 : Nat) : Rat) ≤ (n : Rat) := cast_le.2 h0
    have h2 : (n : Rat) ≤ ((239 : Nat) : Rat) := cast_le.2 hn
    have e1 : ((5 : Nat) : Rat) = 5 := rfl
    have e2 : ((239 : Nat) : Rat) = 239 := rfl
    rw [e1] at h1
    rw [e2] at h2
    constructor
    · rw [le_div (by grind)]; grind
    · rw [div_le (by grind)]; grind
  rcases (show k = 0 ∨ 1 ≤ k by omega) with q | q
  · left
    subst q
    unfold LSm at h
    have e0 : ((0 : Nat) : Rat) = 0 := rfl
    have e1 : BT (1 / (n : Rat)) 0 = 0 := rfl
    rw [e0, e1] at h
    have := ab_le.1 h
    grind
  · obtain ⟨j, rfl⟩ : ∃ j, k = j + 1 := ⟨k - 1, by omega⟩
    obtain ⟨a, b⟩ := less_range u0 u1 (by omega) x1.1 x1.2 h
    exact Sz.between (a := 1 / 600) (b := 1) (by grind) (by grind) (by decide +kernel) (by decide +kernel) (by decide +kernel)
/-- where the series stands behind k rounds. -/
def LessAt (w : World) (n : Nat) (gs gt k : Nat) (wr : World) : Prop :=
  ∃ s t, LTm u4 (1 / (n : Rat)) k t ∧ LSm u4 (1 / (n : Rat)) k s ∧ FV wr gs s ∧ FV wr gt t ∧ Grown w wr ∧ TB wr ∧ w.heap.size ≤ gs
def RetLess (n : Nat) (w : World) (e : Ending) (w' : World) : Prop := ∃ v, ab (v - BT (1 / (n : Rat)) 180) ≤ tw 120 ∧ Sz 20 v ∧ RetNF v w e w'
theorem less05_c {n N : Nat} {w : World} (hT : TB w) (h0 : 5 ≤ n) (hn : n ≤ 239) (hN : n * n = N) (hN2 : N ≤ 60000) (hN1 : 1 ≤ N) : Calls Tryd.prog 78 #[.int .i64 (n : Int)] w (RetLess n w) := by
  have HT := Lib.hid hT
  have hNI : (n : Int) * (n : Int) = (N : Int) := by rw [← hN]; exact (Int.natCast_mul n n).symm
  have HNB := Lib.hid (And.intro h0 hn)
  have HNN := Lib.hid hN
  have HN12 := Lib.hid (And.intro hN1 hN2)
  have h01 : (((0 : Int)) : Rat) = 0 := rfl
  have h11 : (((1 : Int)) : Rat) = 1 := rfl
  have hnI : (((n : Int)) : Rat) = (n : Rat) := Rat.intCast_natCast n
  have HG := Lib.hid (Grown.refl w)
  have HCA := Lib.hid (And.intro h01 (And.intro h11 hnI))
  have S1 := Lib.hid (Sz.nat (k := 1) (by decide) (by decide))
  have SN := Lib.hid (Sz.nat (k := n) (by omega) (by omega))
  clear hT hN h01 h11 hnI
  go_enter Tryd.func78, Tryd.ntmps78
  go_upto_region 3 with (first
    | (go_at_call_of 35 (Value.int IntKind.i64 0); go_loud ((with_reducible refine (whole05_c 0 HT.out (by decide)).mono ?_); rintro e1 w1 ⟨gs, rfl, h1, h2, h3⟩; rw [HCA.out.1] at h1; have HGE := Lib.hid h3; have HFS := Lib.hid h1; have HG := Lib.hid (gr_trans HG.out h2); have HT := Lib.hid (HT.out.grown h2); clear h1 h2 h3))
    | (go_at_call_of 35 (Value.int IntKind.i64 1); go_loud ((with_reducible refine (whole05_c 1 HT.out (by decide)).mono ?_); rintro e1 w2 ⟨g1, rfl, h1, h2, h3⟩; rw [HCA.out.2.1] at h1; have HF1 := Lib.hid h1; have HFS := Lib.hid (HFS.out.grown h2); have HG := Lib.hid (gr_trans HG.out h2); have HT := Lib.hid (HT.out.grown h2); clear h1 h2 h3))
    | (go_at_call 35; go_loud ((with_reducible refine (whole05_c (n : Int) HT.out (by have := HNB.out; omega)).mono ?_); rintro e1 w3 ⟨gn, rfl, h1, h2, h3⟩; rw [HCA.out.2.2] at h1; have HFN := Lib.hid h1; have HF1 := Lib.hid (HF1.out.grown h2); have HFS := Lib.hid (HFS.out.grown h2); have HG := Lib.hid (gr_trans HG.out h2); have HT := Lib.hid (HT.out.grown h2); clear h1 h2 h3))
    | (go_at_call 36; go_loud ((with_reducible refine (quo05_c HT.out HF1.out HFN.out (Sz.one) SN.out (by decide) (by have := cast_le.2 HNB.out.1; have e : ((5 : Nat) : Rat) = 5 := rfl; grind)).mono ?_); rintro e1 w4 ⟨t0, ht0, gt, rfl, h1, h2, h3⟩; have HT0 := Lib.hid ht0; have HFT := Lib.hid h1; have HFS := Lib.hid (HFS.out.grown h2); have HG := Lib.hid (gr_trans HG.out h2); have HT := Lib.hid (HT.out.grown h2); clear ht0 h1 h2 h3))
    | fail)
  have HAT0 : RowKit.Hid (LessAt w n gs gt 0 w4) := Lib.hid ⟨0, t0, by
    unfold LTm
    have e : pn (1 / (n : Rat)) (2 * 0 + 1) = 1 / (n : Rat) := by show 1 * (1 / (n : Rat)) = _; grind
    have e1 : ((0 + 1 : Nat) : Rat) = 1 := rfl
    rw [e, e1]
    have := HT0.out
    have a := ab_nn (1 / (n : Rat))
    have b := mul_nn u4_fine.1 a
    grind, by
    unfold LSm
    have e0 : ((0 : Nat) : Rat) = 0 := rfl
    have e1 : BT (1 / (n : Rat)) 0 = 0 := rfl
    rw [e0, e1, show (0 : Rat) - 0 = 0 by decide +kernel, show ab (0 : Rat) = 0 by decide +kernel]
    grind, HFS.out, HFT.out, HG.out, HT.out, HGE.out⟩
  clear HT0 HFS HFT HG HT HFN HF1
  go_wp2
  go_loopw [3, 4, 5] (fun a b i wr => ∃ k gs gt : Nat, k ≤ 180 ∧ a = .pointer (some ⟨gs, 0, none⟩) ∧ b = .pointer (some ⟨gt, 0, none⟩) ∧ i = .int .i64 (k : Int) ∧ RowKit.Hid (LessAt w n gs gt k wr)) (fun _ _ i _ => 180 - (intOf i).toNat)
  case atStart => exact ⟨0, gs, gt, by omega, rfl, rfl, rfl, HAT0⟩
  case round =>
    obtain ⟨k, gs, gt, hk, rfl, rfl, rfl, HAT⟩ := hrel
    clear HAT0
    obtain ⟨s, t, ht, hs, h1, h2, h3, h4, h5⟩ := HAT.out
    have HTI := Lib.hid ht
    have HSI := Lib.hid hs
    have HS := Lib.hid h1
    have HM := Lib.hid h2
    have HG := Lib.hid h3
    have HT := Lib.hid h4
    have HGE := Lib.hid h5
    have HTZ := Lib.hid (less_sz (by have := HNB.out; omega) (by have := HNB.out; omega) hk ht)
    have HSZ := Lib.hid (sum_szL HNB.out.1 HNB.out.2 hk hs)
    have HKC : RowKit.Hid ((((2 * (k : Int) + 1 : Int)) : Rat) = ((2 * k + 1 : Nat) : Rat)) := Lib.hid (by rw [show (2 * (k : Int) + 1) = ((2 * k + 1 : Nat) : Int) by omega]; exact Rat.intCast_natCast _)
    clear ht hs h1 h2 h3 h4 h5 HAT
    by_cases hk6 : k < 180
    · have hx0 : RowKit.Hid (0 ≤ 1 / (n : Rat) ∧ 1 / (n : Rat) ≤ 1 / 5) := Lib.hid (by
        have h1 := cast_le.2 HNB.out.1
        have e1 : ((5 : Nat) : Rat) = 5 := rfl
        rw [e1] at h1
        constructor
        · rw [le_div (by grind)]; grind
        · rw [div_le (by grind)]; grind)
      have HXX : RowKit.Hid (∀ t : Rat, t / (N : Rat) = t * (1 / (n : Rat) * (1 / (n : Rat)))) := Lib.hid (by
        intro t
        have h1 := cast_le.2 HNB.out.1
        have e1 : ((5 : Nat) : Rat) = 5 := rfl
        rw [e1] at h1
        have e2 : (N : Rat) = (n : Rat) * (n : Rat) := by rw [← HNN.out, cast_mul]
        rw [e2]
        generalize (n : Rat) = x at *
        have : x ≠ 0 := by grind
        grind)
      rcases Nat.mod_two_eq_zero_or_one k with hpar | hpar
      · have hpi : ((k : Int) % 2) = 0 := by omega
        have hpt : Int.tmod (k : Int) 2 = 0 := by rw [Int.tmod_eq_emod_of_nonneg (by omega)]; exact hpi
        go_wp2_with (first
    | (go_at_call_of 35 (Value.int IntKind.i64 0); go_loud ((with_reducible refine (whole05_c 0 HT.out (by decide)).mono ?_); rintro e1 wa ⟨gz, rfl, h1, h2, h3⟩; rw [HCA.out.1] at h1; have HG := Lib.hid (gr_trans HG.out h2); have HT := Lib.hid (HT.out.grown h2); have HS := Lib.hid (HS.out.grown h2); have HM := Lib.hid (HM.out.grown h2); (try have HO := Lib.hid (HO.out.grown h2)); (try have HK := Lib.hid (HK.out.grown h2)); (try have HZ := Lib.hid (HZ.out.grown h2)); (try have HNM := Lib.hid (HNM.out.grown h2)); have HZ := Lib.hid h1; clear h1 h2 h3))
    | (go_at_call_of 35 (Value.int IntKind.i64 (N : Int)); go_loud ((with_reducible refine (whole05_c (N : Int) HT.out (by have := HN12.out; omega)).mono ?_); rintro e1 wa ⟨gn, rfl, h1, h2, h3⟩; rw [Rat.intCast_natCast] at h1; have HG := Lib.hid (gr_trans HG.out h2); have HT := Lib.hid (HT.out.grown h2); have HS := Lib.hid (HS.out.grown h2); have HM := Lib.hid (HM.out.grown h2); (try have HO := Lib.hid (HO.out.grown h2)); (try have HK := Lib.hid (HK.out.grown h2)); (try have HZ := Lib.hid (HZ.out.grown h2)); (try have HNM := Lib.hid (HNM.out.grown h2)); have HNM := Lib.hid h1; clear h1 h2 h3))
    | (go_at_call 35; go_loud ((with_reducible refine (whole05_c (2 * (k : Int) + 1) HT.out (by omega)).mono ?_); rintro e1 wa ⟨gk, rfl, h1, h2, h3⟩; rw [HKC.out] at h1; have HG := Lib.hid (gr_trans HG.out h2); have HT := Lib.hid (HT.out.grown h2); have HS := Lib.hid (HS.out.grown h2); have HM := Lib.hid (HM.out.grown h2); (try have HO := Lib.hid (HO.out.grown h2)); (try have HK := Lib.hid (HK.out.grown h2)); (try have HZ := Lib.hid (HZ.out.grown h2)); (try have HNM := Lib.hid (HNM.out.grown h2)); have HK := Lib.hid h1; clear h1 h2 h3))
    | (go_at_call 36; go_loud (first
        | ((with_reducible refine (quo05_c HT.out HM.out HNM.out HTZ.out (Sz.nat HN12.out.1 HN12.out.2) (by decide) (by have := cast_le.2 HN12.out.1; have e : ((1 : Nat) : Rat) = 1 := rfl; grind)).mono ?_); rintro e1 wa ⟨t', ht', gm, rfl, h1, h2, h3⟩; have HT9 := Lib.hid ht'; have HG := Lib.hid (gr_trans HG.out h2); have HT := Lib.hid (HT.out.grown h2); have HS := Lib.hid (HS.out.grown h2); have HM := Lib.hid (HM.out.grown h2); (try have HO := Lib.hid (HO.out.grown h2)); (try have HK := Lib.hid (HK.out.grown h2)); (try have HZ := Lib.hid (HZ.out.grown h2)); (try have HNM := Lib.hid (HNM.out.grown h2)); have HM9 := Lib.hid h1; clear ht' h1 h2 h3)
        | ((with_reducible refine (quo05_c HT.out HM.out HK.out HTZ.out (Sz.nat (k := 2 * k + 1) (by omega) (by omega)) (by decide) (by have := odd_pos k; grind)).mono ?_); rintro e1 wa ⟨o, ho, go, rfl, h1, h2, h3⟩; have HO1 := Lib.hid ho; have HG := Lib.hid (gr_trans HG.out h2); have HT := Lib.hid (HT.out.grown h2); have HS := Lib.hid (HS.out.grown h2); have HM := Lib.hid (HM.out.grown h2); (try have HO := Lib.hid (HO.out.grown h2)); (try have HK := Lib.hid (HK.out.grown h2)); (try have HZ := Lib.hid (HZ.out.grown h2)); (try have HNM := Lib.hid (HNM.out.grown h2)); have HO := Lib.hid h1; clear ho h1 h2 h3)))
    | (go_at_call 38; go_loud ((with_reducible refine (sub05_c HT.out HZ.out HO.out Sz.zero (one_sz (by have := HNB.out; omega) (by have := HNB.out; omega) (by omega) (less_one u4_fine.1 u4_fine.2.1 hk6 HTI.out HO1.out)) (by decide)).mono ?_); rintro e1 wa ⟨o', ho', go', rfl, h1, h2, h3⟩; have HO2 := Lib.hid ho'; have HG := Lib.hid (gr_trans HG.out h2); have HT := Lib.hid (HT.out.grown h2); have HS := Lib.hid (HS.out.grown h2); have HM := Lib.hid (HM.out.grown h2); (try have HO := Lib.hid (HO.out.grown h2)); (try have HK := Lib.hid (HK.out.grown h2)); (try have HZ := Lib.hid (HZ.out.grown h2)); (try have HNM := Lib.hid (HNM.out.grown h2)); have HO := Lib.hid h1; clear ho' h1 h2 h3))
    | (go_at_call 76; go_loud ((with_reducible refine (add05_c HT.out HS.out HO.out HSZ.out (signed_sz (k := k) (one_sz (by have := HNB.out; omega) (by have := HNB.out; omega) (by omega) (less_one u4_fine.1 u4_fine.2.1 hk6 HTI.out HO1.out)) (show ab (o - sn k * o) ≤ u4 * ab o by rw [(sn_odd k).1 hpar, show o - 1 * o = 0 by grind, show ab (0 : Rat) = 0 by decide +kernel]; exact mul_nn u4_fine.1 (ab_nn _))) (by decide)).mono ?_); rintro e1 wa ⟨s', hs', gs', rfl, h1, h2, h3⟩; have HSN := Lib.hid hs'; have HGE9 := Lib.hid (Nat.le_trans HG.out.2.2 h3); have HG := Lib.hid (gr_trans HG.out h2); have HT := Lib.hid (HT.out.grown h2); have HS := Lib.hid (HS.out.grown h2); have HM := Lib.hid (HM.out.grown h2); (try have HO := Lib.hid (HO.out.grown h2)); (try have HK := Lib.hid (HK.out.grown h2)); (try have HZ := Lib.hid (HZ.out.grown h2)); (try have HNM := Lib.hid (HNM.out.grown h2)); have HS := Lib.hid h1; clear hs' h1 h2 h3))
    | fail)

        go_roundw
        case rel => exact ⟨k + 1, _, _, by omega, rfl, rfl, by go_num, Lib.hid ⟨s', t', less_term u4_fine.1 u4_fine.2.1 hk6 HTI.out (by have h := HT9.out; rw [HXX.out] at h; exact h), lsm_next u4_fine.1 u4_fine.2.1 hk6 hx0.out.1 hx0.out.2 HSI.out (less_one u4_fine.1 u4_fine.2.1 hk6 HTI.out HO1.out) (show ab (o - sn k * o) ≤ u4 * ab o by rw [(sn_odd k).1 hpar, show o - 1 * o = 0 by grind, show ab (0 : Rat) = 0 by decide +kernel]; exact mul_nn u4_fine.1 (ab_nn _)) HSN.out, HS.out, HM9.out, HG.out, HT.out, HGE9.out⟩⟩
        case measure => simp [intOf]; omega
      · have hpi : ((k : Int) % 2) = 1 := by omega
        have hpt : Int.tmod (k : Int) 2 = 1 := by rw [Int.tmod_eq_emod_of_nonneg (by omega)]; exact hpi
        go_wp2_with (first
    | (go_at_call_of 35 (Value.int IntKind.i64 0); go_loud ((with_reducible refine (whole05_c 0 HT.out (by decide)).mono ?_); rintro e1 wa ⟨gz, rfl, h1, h2, h3⟩; rw [HCA.out.1] at h1; have HG := Lib.hid (gr_trans HG.out h2); have HT := Lib.hid (HT.out.grown h2); have HS := Lib.hid (HS.out.grown h2); have HM := Lib.hid (HM.out.grown h2); (try have HO := Lib.hid (HO.out.grown h2)); (try have HK := Lib.hid (HK.out.grown h2)); (try have HZ := Lib.hid (HZ.out.grown h2)); (try have HNM := Lib.hid (HNM.out.grown h2)); have HZ := Lib.hid h1; clear h1 h2 h3))
    | (go_at_call_of 35 (Value.int IntKind.i64 (N : Int)); go_loud ((with_reducible refine (whole05_c (N : Int) HT.out (by have := HN12.out; omega)).mono ?_); rintro e1 wa ⟨gn, rfl, h1, h2, h3⟩; rw [Rat.intCast_natCast] at h1; have HG := Lib.hid (gr_trans HG.out h2); have HT := Lib.hid (HT.out.grown h2); have HS := Lib.hid (HS.out.grown h2); have HM := Lib.hid (HM.out.grown h2); (try have HO := Lib.hid (HO.out.grown h2)); (try have HK := Lib.hid (HK.out.grown h2)); (try have HZ := Lib.hid (HZ.out.grown h2)); (try have HNM := Lib.hid (HNM.out.grown h2)); have HNM := Lib.hid h1; clear h1 h2 h3))
    | (go_at_call 35; go_loud ((with_reducible refine (whole05_c (2 * (k : Int) + 1) HT.out (by omega)).mono ?_); rintro e1 wa ⟨gk, rfl, h1, h2, h3⟩; rw [HKC.out] at h1; have HG := Lib.hid (gr_trans HG.out h2); have HT := Lib.hid (HT.out.grown h2); have HS := Lib.hid (HS.out.grown h2); have HM := Lib.hid (HM.out.grown h2); (try have HO := Lib.hid (HO.out.grown h2)); (try have HK := Lib.hid (HK.out.grown h2)); (try have HZ := Lib.hid (HZ.out.grown h2)); (try have HNM := Lib.hid (HNM.out.grown h2)); have HK := Lib.hid h1; clear h1 h2 h3))
    | (go_at_call 36; go_loud (first
        | ((with_reducible refine (quo05_c HT.out HM.out HNM.out HTZ.out (Sz.nat HN12.out.1 HN12.out.2) (by decide) (by have := cast_le.2 HN12.out.1; have e : ((1 : Nat) : Rat) = 1 := rfl; grind)).mono ?_); rintro e1 wa ⟨t', ht', gm, rfl, h1, h2, h3⟩; have HT9 := Lib.hid ht'; have HG := Lib.hid (gr_trans HG.out h2); have HT := Lib.hid (HT.out.grown h2); have HS := Lib.hid (HS.out.grown h2); have HM := Lib.hid (HM.out.grown h2); (try have HO := Lib.hid (HO.out.grown h2)); (try have HK := Lib.hid (HK.out.grown h2)); (try have HZ := Lib.hid (HZ.out.grown h2)); (try have HNM := Lib.hid (HNM.out.grown h2)); have HM9 := Lib.hid h1; clear ht' h1 h2 h3)
        | ((with_reducible refine (quo05_c HT.out HM.out HK.out HTZ.out (Sz.nat (k := 2 * k + 1) (by omega) (by omega)) (by decide) (by have := odd_pos k; grind)).mono ?_); rintro e1 wa ⟨o, ho, go, rfl, h1, h2, h3⟩; have HO1 := Lib.hid ho; have HG := Lib.hid (gr_trans HG.out h2); have HT := Lib.hid (HT.out.grown h2); have HS := Lib.hid (HS.out.grown h2); have HM := Lib.hid (HM.out.grown h2); (try have HO := Lib.hid (HO.out.grown h2)); (try have HK := Lib.hid (HK.out.grown h2)); (try have HZ := Lib.hid (HZ.out.grown h2)); (try have HNM := Lib.hid (HNM.out.grown h2)); have HO := Lib.hid h1; clear ho h1 h2 h3)))
    | (go_at_call 38; go_loud ((with_reducible refine (sub05_c HT.out HZ.out HO.out Sz.zero (one_sz (by have := HNB.out; omega) (by have := HNB.out; omega) (by omega) (less_one u4_fine.1 u4_fine.2.1 hk6 HTI.out HO1.out)) (by decide)).mono ?_); rintro e1 wa ⟨o', ho', go', rfl, h1, h2, h3⟩; have HO2 := Lib.hid ho'; have HG := Lib.hid (gr_trans HG.out h2); have HT := Lib.hid (HT.out.grown h2); have HS := Lib.hid (HS.out.grown h2); have HM := Lib.hid (HM.out.grown h2); (try have HO := Lib.hid (HO.out.grown h2)); (try have HK := Lib.hid (HK.out.grown h2)); (try have HZ := Lib.hid (HZ.out.grown h2)); (try have HNM := Lib.hid (HNM.out.grown h2)); have HO := Lib.hid h1; clear ho' h1 h2 h3))
    | (go_at_call 76; go_loud ((with_reducible refine (add05_c HT.out HS.out HO.out HSZ.out (signed_sz (k := k) (one_sz (by have := HNB.out; omega) (by have := HNB.out; omega) (by omega) (less_one u4_fine.1 u4_fine.2.1 hk6 HTI.out HO1.out)) (show ab (o' - sn k * o) ≤ u4 * ab o by rw [(sn_odd k).2 hpar]; have e : ab (0 - o) = ab o := (by rw [show 0 - o = -o by grind, ab_neg]); have h := HO2.out; rw [e] at h; rw [show -1 * o = 0 - o by grind]; exact h)) (by decide)).mono ?_); rintro e1 wa ⟨s', hs', gs', rfl, h1, h2, h3⟩; have HSN := Lib.hid hs'; have HGE9 := Lib.hid (Nat.le_trans HG.out.2.2 h3); have HG := Lib.hid (gr_trans HG.out h2); have HT := Lib.hid (HT.out.grown h2); have HS := Lib.hid (HS.out.grown h2); have HM := Lib.hid (HM.out.grown h2); (try have HO := Lib.hid (HO.out.grown h2)); (try have HK := Lib.hid (HK.out.grown h2)); (try have HZ := Lib.hid (HZ.out.grown h2)); (try have HNM := Lib.hid (HNM.out.grown h2)); have HS := Lib.hid h1; clear hs' h1 h2 h3))
    | fail)

        go_roundw
        case rel => exact ⟨k + 1, _, _, by omega, rfl, rfl, by go_num, Lib.hid ⟨s', t', less_term u4_fine.1 u4_fine.2.1 hk6 HTI.out (by have h := HT9.out; rw [HXX.out] at h; exact h), lsm_next u4_fine.1 u4_fine.2.1 hk6 hx0.out.1 hx0.out.2 HSI.out (less_one u4_fine.1 u4_fine.2.1 hk6 HTI.out HO1.out) (show ab (o' - sn k * o) ≤ u4 * ab o by rw [(sn_odd k).2 hpar]; have e : ab (0 - o) = ab o := (by rw [show 0 - o = -o by grind, ab_neg]); have h := HO2.out; rw [e] at h; rw [show -1 * o = 0 - o by grind]; exact h) HSN.out, HS.out, HM9.out, HG.out, HT.out, HGE9.out⟩⟩
        case measure => simp [intOf]; omega
    · obtain rfl : k = 180 := by omega
      go_wp2_with fail
      go_ret
      refine ⟨s, ?_, HSZ.out, gs, rfl, HS.out, HG.out, ?_⟩
      · have := HSI.out
        unfold LSm at this
        have e : ((180 : Nat) : Rat) = 180 := rfl
        rw [e] at this
        have u := u4_fine.2.2
        have v : 360000 * tw 390 ≤ tw 120 := by decide +kernel
        grind
      · exact HGE.out
end Go.Proofs.YtcfkhhnkboealaaDoor
namespace Go.Proofs.YtcfkhhnkboealaaDoor
open Go.RowKit
set_option linter.unusedVariables false
set_option linter.unusedSimpArgs false
set_option maxRecDepth 100000
set_option maxHeartbeats 4000000
open Turns Sizes
def RetPi (w : World) (e : Ending) (w' : World) : Prop := ∃ p, ab (p - 2 * hp) ≤ tw 103 ∧ RetNF p w e w'
theorem pi_room {a b m1 m2 p : Rat} (ha : ab (a - BT (1 / 5) 180) ≤ tw 120) (hb : ab (b - BT (1 / 239) 180) ≤ tw 120) (h1 : ab (m1 - 16 * a) ≤ u4 * ab (16 * a)) (h2 : ab (m2 - 4 * b) ≤ u4 * ab (4 * b)) (h3 : ab (p - (m1 - m2)) ≤ u4 * ab (m1 - m2)) : ab (p - 2 * hp) ≤ tw 103 := by
  have m := machin ha hb
  have t1 := BT_size (u := 1 / 5) (by decide +kernel) (by decide +kernel) 180
  have t2 := BT_size (u := 1 / 239) (by decide +kernel) (by decide +kernel) 180
  obtain ⟨u0, u1, u2⟩ := u4_fine
  have w1 : tw 120 ≤ 1 / 1000 ∧ tw 104 + 100 * tw 390 ≤ tw 103 := by decide +kernel
  have w0 := tw_pos 390
  generalize BT (1 / 5) 180 = A at *
  generalize BT (1 / 239) 180 = B at *
  have ab1 : ab (16 * a) ≤ 17 := by
    have := ab_add (a - A) A
    rw [show a - A + A = a by grind] at this
    rw [ab_mul, show ab (16 : Rat) = 16 by decide +kernel]
    generalize tw 120 = z at *
    grind
  have ab2 : ab (4 * b) ≤ 5 := by
    have := ab_add (b - B) B
    rw [show b - B + B = b by grind] at this
    rw [ab_mul, show ab (4 : Rat) = 4 by decide +kernel]
    generalize tw 120 = z at *
    grind
  have k1 := Rat.mul_le_mul_of_nonneg_left ab1 u0
  have k2 := Rat.mul_le_mul_of_nonneg_left ab2 u0
  have s1 : ab (m1 - m2) ≤ 23 := by
    have x1 := ab_add (m1 - 16 * a) (16 * a)
    have x2 := ab_add (m2 - 4 * b) (4 * b)
    rw [show m1 - 16 * a + 16 * a = m1 by grind] at x1
    rw [show m2 - 4 * b + 4 * b = m2 by grind] at x2
    have x3 := ab_sub m1 m2
    clear m
    grind
  have k3 := Rat.mul_le_mul_of_nonneg_left s1 u0
  have x1 := ab_add (p - (m1 - m2)) ((m1 - 16 * a) - (m2 - 4 * b))
  have x2 := ab_sub (m1 - 16 * a) (m2 - 4 * b)
  have x3 := ab_add (p - (m1 - m2) + ((m1 - 16 * a) - (m2 - 4 * b))) (16 * a - 4 * b - 2 * hp)
  rw [show p - (m1 - m2) + ((m1 - 16 * a) - (m2 - 4 * b)) + (16 * a - 4 * b - 2 * hp) = p - 2 * hp by grind] at x3
  generalize hp = H at *
  generalize tw 103 = z3 at *
  generalize tw 104 = z4 at *
  generalize tw 390 = z9 at *
  grind
theorem pi05_c {w : World} (hT : TB w) : Calls Tryd.prog 37 #[] w (RetPi w) := by
  have HT := Lib.hid hT
  have HG := Lib.hid (Grown.refl w)
  have e16 : ((16 : Int) : Rat) = 16 := rfl
  have e4 : ((4 : Int) : Rat) = 4 := rfl
  have HC := Lib.hid (And.intro e16 e4)
  have S16 : RowKit.Hid (Sz 16 (16 : Rat)) := Lib.hid (Sz.nat (k := 16) (by decide) (by decide))
  have S4 : RowKit.Hid (Sz 16 (4 : Rat)) := Lib.hid (Sz.nat (k := 4) (by decide) (by decide))
  have c5 : ((5 : Nat) : Rat) = 5 := rfl
  have c239 : ((239 : Nat) : Rat) = 239 := rfl
  have HU : RowKit.Hid (u4 ≤ 1 / 4) := Lib.hid (by have := u4_fine.2.1; grind)
  have HL5 : RowKit.Hid (∀ W, TB W → Calls Tryd.prog 78 #[.int .i64 5] W (RetLess 5 W)) := Lib.hid (fun W h => less05_c (n := 5) (N := 25) h (by decide) (by decide) rfl (by decide) (by decide))
  have HL2 : RowKit.Hid (∀ W, TB W → Calls Tryd.prog 78 #[.int .i64 239] W (RetLess 239 W)) := Lib.hid (fun W h => less05_c (n := 239) (N := 57121) h (by decide) (by decide) rfl (by decide) (by decide))
  clear hT e16 e4
  go_enter Tryd.func37, Tryd.ntmps37
  go_wp2_with (first
    | (go_at_call_of 35 (Value.int IntKind.i64 16); go_loud ((with_reducible refine (whole05_c 16 HT.out (by decide)).mono ?_); rintro e1 w1 ⟨g1, rfl, h1, h2, h3⟩; rw [HC.out.1] at h1; have HA := Lib.hid h1; have HG := Lib.hid (gr_trans HG.out h2); have HT := Lib.hid (HT.out.grown h2); clear h1 h2 h3))
    | (go_at_call_of 78 (Value.int IntKind.i64 5); go_loud ((with_reducible refine (HL5.out _ HT.out).mono ?_); rintro e1 w2 ⟨a, ha, hz, g2, rfl, h1, h2, h3⟩; rw [c5] at ha; have HVA := Lib.hid ha; have HZA := Lib.hid hz; have HB := Lib.hid h1; have HA := Lib.hid (HA.out.grown h2); have HG := Lib.hid (gr_trans HG.out h2); have HT := Lib.hid (HT.out.grown h2); clear ha hz h1 h2 h3))
    | (go_at_call_of 35 (Value.int IntKind.i64 4); go_loud ((with_reducible refine (whole05_c 4 HT.out (by decide)).mono ?_); rintro e1 w4 ⟨g4, rfl, h1, h2, h3⟩; rw [HC.out.2] at h1; have HC4 := Lib.hid h1; have HM := Lib.hid (HM.out.grown h2); have HG := Lib.hid (gr_trans HG.out h2); have HT := Lib.hid (HT.out.grown h2); clear h1 h2 h3))
    | (go_at_call_of 78 (Value.int IntKind.i64 239); go_loud ((with_reducible refine (HL2.out _ HT.out).mono ?_); rintro e1 w5 ⟨b, hb, hz, g5, rfl, h1, h2, h3⟩; rw [c239] at hb; have HVB := Lib.hid hb; have HZB := Lib.hid hz; have HD := Lib.hid h1; have HC4 := Lib.hid (HC4.out.grown h2); have HM := Lib.hid (HM.out.grown h2); have HG := Lib.hid (gr_trans HG.out h2); have HT := Lib.hid (HT.out.grown h2); clear hb hz h1 h2 h3))
    | (go_at_call 42; go_loud (first
        | ((with_reducible refine (mul05_c HT.out HC4.out HD.out S4.out HZB.out (by decide)).mono ?_); rintro e1 w6 ⟨m2, hm, g6, rfl, h1, h2, h3⟩; have HV2 := Lib.hid hm; have HM2 := Lib.hid h1; have HM := Lib.hid (HM.out.grown h2); have HG := Lib.hid (gr_trans HG.out h2); have HT := Lib.hid (HT.out.grown h2); clear hm h1 h2 h3)
        | ((with_reducible refine (mul05_c HT.out HA.out HB.out S16.out HZA.out (by decide)).mono ?_); rintro e1 w3 ⟨m1, hm, g3, rfl, h1, h2, h3⟩; have HV1 := Lib.hid hm; have HM := Lib.hid h1; have HG := Lib.hid (gr_trans HG.out h2); have HT := Lib.hid (HT.out.grown h2); clear hm h1 h2 h3)))
    | (go_at_call 38; go_loud ((with_reducible refine (sub05_c HT.out HM.out HM2.out ((S16.out.mul HZA.out).near HV1.out HU.out) ((S4.out.mul HZB.out).near HV2.out HU.out) (by decide)).mono ?_); rintro e1 w7 ⟨p, hp', g7, rfl, h1, h2, h3⟩; have HVP := Lib.hid hp'; have HP := Lib.hid h1; have HS := Lib.hid (Nat.le_trans HG.out.2.2 h3); have HG := Lib.hid (gr_trans HG.out h2); clear hp' h1 h2 h3))
    | fail)
  go_ret
  exact ⟨p, pi_room HVA.out HVB.out HV1.out HV2.out HVP.out, g7, rfl, HP.out, HG.out, HS.out⟩
end Go.Proofs.YtcfkhhnkboealaaDoor
