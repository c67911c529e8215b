/- Words by a power of two. -/
import Derived.Test.YtndknkdfbjfjcaaDoorBigF
namespace Go.Proofs.YtndknkdfbjfjcaaDoor
open Go.RowKit
set_option linter.unusedVariables false
set_option linter.unusedSimpArgs false
set_option maxRecDepth 100000
set_option maxHeartbeats 4000000
/-- what holds of the words behind i rounds. -/
structure DnRel (l : List Nat) (k s i : Nat) (xs : List Nat) : Prop where
  len : xs.length = l.length - k
  sm : Sm xs
  val : wv (xs.take i) = wv (l.drop k) / 2 ^ s % 4294967296 ^ i
  zero : ∀ j, i ≤ j → xs.getD j 0 = 0
theorem dn_start (l : List Nat) (k s : Nat) : DnRel l k s 0 (List.replicate (l.length - k) 0) :=
  ⟨by simp, sm_replicate _, by simp [wv, Nat.mod_one], fun j _ => getD_replicate _ _⟩
theorem wv_drop (l : List Nat) (hl : Sm l) (k : Nat) (hk : k ≤ l.length) : wv (l.drop k) = wv l / 4294967296 ^ k := by
  have h := wv_take_drop l k hk
  have h2 := wv_lt (sm_take hl k)
  rw [List.length_take, Nat.min_eq_left hk] at h2
  rw [h, Nat.add_mul_div_left _ _ (Nat.pow_pos (by decide)), Nat.div_eq_of_lt h2, Nat.zero_add]
/-- one word of the shifted number. -/
theorem dn_word (x0 x1 r s : Nat) (hs : s < 32) : (x0 + 4294967296 * (x1 + 4294967296 * r)) / 2 ^ s % 4294967296 = (x1 * 4294967296 + x0) / 2 ^ s % 4294967296 := by
  have e : 4294967296 = 2 ^ (32 - s) * 2 ^ s := by rw [← Nat.pow_add, show 32 - s + s = 32 by omega]
  have h : x0 + 4294967296 * (x1 + 4294967296 * r) = (x1 * 4294967296 + x0) + 2 ^ s * (4294967296 * (2 ^ (32 - s) * r)) := by
    have e2 : 4294967296 * (4294967296 * r) = 2 ^ s * (4294967296 * (2 ^ (32 - s) * r)) := by
      calc 4294967296 * (4294967296 * r) = 4294967296 * ((2 ^ (32 - s) * 2 ^ s) * r) := by rw [← e]
        _ = 2 ^ s * (4294967296 * (2 ^ (32 - s) * r)) := by ac_rfl
    rw [← e2, Nat.mul_add]; omega
  rw [h, Nat.add_mul_div_left _ _ (Nat.two_pow_pos _), Nat.add_mul_mod_self_left]
theorem dn_step {l xs : List Nat} {k s i v : Nat} (h : DnRel l k s i xs) (hl : Sm l) (hs : s < 32) (hi : i < l.length - k) (hv : v = (l.getD (i + k + 1) 0 * 4294967296 + l.getD (i + k) 0) / 2 ^ s % 4294967296) :
    DnRel l k s (i + 1) (xs.set i v) := by
  have hlen := h.len
  have vb : v < 4294967296 := by rw [hv]; exact Nat.mod_lt _ (by decide)
  refine ⟨by rw [List.length_set]; exact hlen, sm_set h.sm _ vb, ?_, ?_⟩
  · have hi2 : i < (xs.set i v).length := by rw [List.length_set]; omega
    rw [wv_take_succ _ i hi2, List.getElem_set_self]
    have e1 : (xs.set i v).take i = xs.take i := by rw [List.take_set_of_le (Nat.le_refl _)]
    rw [e1, h.val]
    generalize hM : wv (l.drop k) = M at *
    have e2 : M / 2 ^ s / 4294967296 ^ i % 4294967296 = v := by
      rw [Nat.div_div_eq_div_mul, Nat.mul_comm, ← Nat.div_div_eq_div_mul]
      have hd : M / 4294967296 ^ i = wv (l.drop (k + i)) := by
        rw [← hM, wv_drop l hl k (by omega), wv_drop l hl (k + i) (by omega), Nat.div_div_eq_div_mul, Nat.pow_add]
      rw [hd, List.drop_eq_getElem_cons (by omega)]
      show (l[k + i]'(by omega) + 4294967296 * wv (l.drop (k + i + 1))) / 2 ^ s % 4294967296 = v
      by_cases hq : k + i + 1 < l.length
      · rw [List.drop_eq_getElem_cons hq]
        show (l[k + i]'(by omega) + 4294967296 * (l[k + i + 1] + 4294967296 * wv (l.drop (k + i + 1 + 1)))) / 2 ^ s % 4294967296 = v
        rw [dn_word _ _ _ _ hs, hv, gd_lt (show i + k + 1 < l.length by omega), gd_lt (show i + k < l.length by omega)]
        simp only [Nat.add_comm i k]
      · rw [List.drop_of_length_le (by omega), hv, gd_ge (show l.length ≤ i + k + 1 by omega), gd_lt (show i + k < l.length by omega)]
        simp only [wv, Nat.add_comm i k, Nat.mul_zero, Nat.zero_mul, Nat.add_zero, Nat.zero_add]
    rw [Nat.pow_succ, Nat.mod_mul, e2]
  · intro j hj
    rw [getD_set (by omega), if_neg (by omega)]
    exact h.zero j (by omega)
theorem dn_end {l xs : List Nat} {k s n : Nat} (h : DnRel l k s (l.length - k) xs) (hl : Sm l) (hk : k ≤ l.length) (hn : n = 32 * k + s) : wv xs = wv l / 2 ^ n := by
  have hv := h.val
  have hlen := h.len
  rw [List.take_of_length_le (by omega)] at hv
  have hb := wv_lt (sm_drop hl k)
  rw [List.length_drop] at hb
  rw [hv, Nat.mod_eq_of_lt (Nat.lt_of_le_of_lt (Nat.div_le_self _ _) hb), wv_drop l hl k hk, Nat.div_div_eq_div_mul, pow32, ← Nat.pow_add, hn]
theorem dn_val1 {x0 s : Nat} (h0 : x0 < 4294967296) : (x0 : Int) / 2 ^ s % 4294967296 = (((0 * 4294967296 + x0) / 2 ^ s % 4294967296 : Nat) : Int) := by
  rw [Nat.zero_mul, Nat.zero_add]
  have : (x0 : Int) / 2 ^ s = ((x0 / 2 ^ s : Nat) : Int) := by rw [Int.natCast_ediv, Int.natCast_pow]; rfl
  rw [this]; omega
theorem dn_val2 {x0 x1 s : Nat} (h0 : x0 < 4294967296) (h1 : x1 < 4294967296) : bits .or .u64 (x0 : Int) ((x1 : Int) * 4294967296) / 2 ^ s % 4294967296 = (((x1 * 4294967296 + x0) / 2 ^ s % 4294967296 : Nat) : Int) := by
  have e : (x1 : Int) * 4294967296 = ((x1 * 4294967296 : Nat) : Int) := by omega
  have o : bits .or .u64 (x0 : Int) ((x1 : Int) * 4294967296) = ((x1 * 4294967296 + x0 : Nat) : Int) := by
    rw [e, bits_or_u64n _ _ (by omega) (by omega), Nat.or_comm]
    have := or_two 32 x1 x0 (by omega)
    rw [show (2 : Nat) ^ 32 = 4294967296 by decide] at this
    rw [this]
  have e2 : ((x1 * 4294967296 + x0 : Nat) : Int) / 2 ^ s = (((x1 * 4294967296 + x0) / 2 ^ s : Nat) : Int) := by rw [Int.natCast_ediv, Int.natCast_pow]; rfl
  rw [o, e2]; omega
theorem down_core {b off cap : Nat} {l : List Nat} {w : World} (n k s : Nat) (hn : n = 32 * k + s) (hs : s < 32) (hk : k < l.length) (hl : Sm l) (hc1 : l.length ≤ cap) (hc2 : cap ≤ 1000000000)
    (hb : b < w.heap.size) (hc : ∀ j, j < l.length → w.cell? ⟨b, off + j, none⟩ = some (.int .u32 ((l.getD j 0 : Nat) : Int))) :
    Calls Tryd.prog 145 #[.slice (some ⟨b, off, none⟩) l.length cap, .int .i64 (n : Int)] w (RetW (wv l / 2 ^ n) w) := by
  have HL := Lib.hid hl
  have HC := Lib.hid hc
  have hmk := mk_words ((l.length : Int) - (k : Int)) (l.length - k) (by omega) (by omega)
  have e1 : (n : Int) / 32 = (k : Int) := by omega
  have e2 : (n : Int) % 32 = (s : Int) := by omega
  have hge : ¬ (l.length : Int) ≤ (k : Int) := by omega
  have HN := Lib.hid hn
  clear hc hl hn
  go_enter Tryd.func145, Tryd.ntmps145
  go_wp2
  go_loopw [8, 9] (fun n8 n9 wr => ∃ (i : Nat) (xs : List Nat), n8 = .int .i64 i ∧ i ≤ l.length - k ∧ DnRel l k s i xs ∧ Row wr w.heap.size xs ∧ Grown w wr) (fun n8 _ _ => l.length - (intOf n8).toNat)
  case atStart => exact ⟨0, List.replicate (l.length - k) 0, rfl, Nat.zero_le _, dn_start _ _ _, row_made _ _ _, (Grown.refl _).alloc _ _⟩
  case round =>
    obtain ⟨i, xs, rfl, hi, hR, hrow, hg⟩ := hrel
    have HR := Lib.hid hR
    have HW := Lib.hid hrow
    have HG := Lib.hid hg
    clear hR hrow hg
    by_cases hlt : i < l.length - k
    · have a1 := (HC.out (i + k) (by omega))
      rw [← grown_cell HG.out hb] at a1
      have x1 := sm_getD HL.out (i + k)
      obtain ⟨x, ex⟩ : ∃ x, x = l.getD (i + k) 0 := ⟨_, rfl⟩
      have EX := Lib.hid ex
      rw [← ex] at a1 x1
      clear ex
      have hlen : xs.length = l.length - k := HR.out.len
      have r1 := HW.out.cell i (by omega)
      rw [HR.out.zero i (Nat.le_refl _)] at r1
      have f1 : wr.frozen? ⟨w.heap.size, i, none⟩ = false := Row.free HG.out (Nat.le_refl _)
      have hl2 := Lib.hid hlen
      clear hlen
      by_cases h2 : i + k + 1 < l.length
      · have a2 := (HC.out (i + k + 1) h2)
        rw [← grown_cell HG.out hb] at a2
        have y1 := sm_getD HL.out (i + k + 1)
        obtain ⟨y, ey⟩ : ∃ y, y = l.getD (i + k + 1) 0 := ⟨_, rfl⟩
        have EY := Lib.hid ey
        rw [← ey] at a2 y1
        clear ey
        have hlt3 : (i : Int) + (k : Int) + 1 < (l.length : Int) := by omega
        go_wp2_with fail
        go_roundw
        case rel =>
          refine ⟨i + 1, _, by go_num, by omega, dn_step HR.out HL.out hs hlt rfl, ?_, ?_⟩
          · rw [dn_val2 x1 y1, EX.out, EY.out]
            exact HW.out.set (by rw [hl2.out]; omega) _
          · exact HG.out.setCell (Nat.le_refl _) _
        case measure => simp [intOf]; omega
      · have hz : RowKit.Hid (l.getD (i + k + 1) 0 = 0) := Lib.hid (gd_ge (by omega))
        have hlt3 : ¬ (i : Int) + (k : Int) + 1 < (l.length : Int) := by omega
        go_wp2_with fail
        go_roundw
        case rel =>
          refine ⟨i + 1, _, by go_num, by omega, dn_step HR.out HL.out hs hlt rfl, ?_, ?_⟩
          · rw [dn_val1 x1, EX.out, hz.out]
            exact HW.out.set (by rw [hl2.out]; omega) _
          · exact HG.out.setCell (Nat.le_refl _) _
        case measure => simp [intOf]; omega
    · have hi2 : i = l.length - k := by omega
      have hlen := HR.out.len
      have HI := Lib.hid (show IsW wr (.slice (some ⟨w.heap.size, 0, none⟩) (l.length - k) (l.length - k)) xs from by
        have := HW.out.isW (l.length - k) (l.length - k) (by omega) (by omega) (by omega)
        rwa [List.take_of_length_le (by omega)] at this)
      have HS := Lib.hid HR.out.sm
      have HV := Lib.hid (show wv xs = wv l / 2 ^ n from dn_end (by rw [← hi2]; exact HR.out) HL.out (by omega) HN.out)
      clear hlen
      go_wp2_with (go_at_call 142; refine (trim_c HI.out HS.out).mono ?_; rw [HV.out]; rintro e w' ⟨v', n', rfl, hv, rfl⟩)
      go_ret
      exact ⟨_, rfl, hv, gr_drewN _ HG.out⟩
theorem down_none {s : Option Addr} {L cap : Nat} {w : World} (n : Nat) (h : L ≤ n / 32) (hc1 : L ≤ cap) (hc2 : cap ≤ 1000000000) (hn : n ≤ 100000000) : Calls Tryd.prog 145 #[.slice s L cap, .int .i64 (n : Int)] w (RetW 0 w) := by
  have hge : (L : Int) ≤ (n : Int) / 32 := by omega
  have HI : RowKit.Hid (IsW w (.slice none 0 0) (digs 0)) := Lib.hid (IsW.nil w)
  go_enter Tryd.func145, Tryd.ntmps145
  go_wp2
  go_ret
  exact ⟨_, rfl, HI.out, Grown.refl _⟩
theorem downW_c {v : Value} {A : Nat} {w : World} (n : Nat) (h : IsW w v (digs A)) (hn : n ≤ 100000000) : Calls Tryd.prog 145 #[v, .int .i64 (n : Int)] w (RetW (A / 2 ^ n) w) := by
  obtain ⟨s, cap, rfl, hc1, hc2, hcell⟩ := h
  by_cases hk : n / 32 < (digs A).length
  · have h0 : A ≠ 0 := by intro e; subst e; simp [digs_zero] at hk
    obtain ⟨b, off, rfl, hb, hc⟩ := hcell (mt digs_nil.1 h0)
    have := down_core n (n / 32) (n % 32) (by omega) (Nat.mod_lt _ (by decide)) hk (digs_sm A) hc1 hc2 hb hc
    rwa [wv_digs] at this
  · have e : A / 2 ^ n = 0 := by
      apply Nat.div_eq_of_lt
      have := digs_lt A
      rw [pow32] at this
      exact Nat.lt_of_lt_of_le this (Nat.pow_le_pow_right (by decide) (by omega))
    rw [e]
    exact down_none n (by omega) hc1 hc2 hn
end Go.Proofs.YtndknkdfbjfjcaaDoor
