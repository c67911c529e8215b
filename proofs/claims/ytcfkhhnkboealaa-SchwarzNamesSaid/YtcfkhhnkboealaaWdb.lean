/- Words times a power of two. Words by a power of two. Words by one word. A figure of a quotient: the guess, and what is left, in plain numbers. -/
import Derived.Test.YtcfkhhnkboealaaWda
import Derived.Laws.ShiftsVarLaws
namespace Go.Proofs.Ytcfkhhnkboealaa
open Go.RowKit
set_option linter.unusedVariables false
set_option linter.unusedSimpArgs false
set_option maxRecDepth 100000
set_option maxHeartbeats 4000000
theorem row_made (w : World) (n : Nat) (t : TypeId) : Row (w.alloc (.cells (madeCells #[.int .u32 0] n) t)) w.heap.size (List.replicate n 0) := by
  have := Row.made w n t; rwa [Nat.mul_one] at this
/-- what holds of the words behind i rounds. -/
structure UpRel (l : List Nat) (k s i : Nat) (xs : List Nat) : Prop where
  len : xs.length = l.length + k + 1
  sm : Sm xs
  val : wv xs = wv (l.take i) * 2 ^ (32 * k + s)
  zero : ∀ j, i + k < j → xs.getD j 0 = 0
  carry : xs.getD (i + k) 0 < 2 ^ s
theorem up_start (l : List Nat) (k s : Nat) : UpRel l k s 0 (List.replicate (l.length + k + 1) 0) :=
  ⟨by simp, sm_replicate _, by rw [wv_replicate]; simp [wv], fun j _ => getD_replicate _ _, by rw [getD_replicate]; exact Nat.two_pow_pos _⟩
theorem getD_set {l : List Nat} {i j v : Nat} (hi : i < l.length) : (l.set i v).getD j 0 = if j = i then v else l.getD j 0 := by
  by_cases h : j = i
  · subst h; rw [if_pos rfl, gd_lt (by rw [List.length_set]; exact hi), List.getElem_set_self]
  · rw [if_neg h]
    by_cases h2 : j < l.length
    · rw [gd_lt (by rw [List.length_set]; exact h2), gd_lt h2, List.getElem_set_ne (fun e => h e.symm)]
    · rw [gd_ge (by rw [List.length_set]; omega), gd_ge (by omega)]
theorem low_mul (x s : Nat) (hs : s ≤ 32) : x * 2 ^ s % 4294967296 = x % 2 ^ (32 - s) * 2 ^ s := by
  have e : 4294967296 = 2 ^ (32 - s) * 2 ^ s := by rw [← Nat.pow_add, show 32 - s + s = 32 by omega]
  rw [e, Nat.mul_mod_mul_right]
theorem up_word {x c s : Nat} (hs : s < 32) (hx : x < 4294967296) (hc : c < 2 ^ s) : c ||| (x * 2 ^ s % 4294967296) = c + x * 2 ^ s % 4294967296 ∧ c + x * 2 ^ s % 4294967296 < 4294967296 ∧ x * 2 ^ s / 4294967296 < 2 ^ s := by
  rw [low_mul x s (by omega)]
  have e : 4294967296 = 2 ^ (32 - s) * 2 ^ s := by rw [← Nat.pow_add, show 32 - s + s = 32 by omega]
  have hm : x % 2 ^ (32 - s) < 2 ^ (32 - s) := Nat.mod_lt _ (Nat.two_pow_pos _)
  refine ⟨?_, ?_, ?_⟩
  · rw [Nat.or_comm, or_two s _ _ hc]; omega
  · have h2 : (x % 2 ^ (32 - s) + 1) * 2 ^ s ≤ 2 ^ (32 - s) * 2 ^ s := Nat.mul_le_mul_right _ hm
    rw [Nat.add_mul] at h2
    omega
  · rw [Nat.div_lt_iff_lt_mul (by decide), Nat.mul_comm (2 ^ s)]
    exact Nat.mul_lt_mul_of_pos_right hx (Nat.two_pow_pos _)
theorem up_step {l xs : List Nat} {k s i x c : Nat} (h : UpRel l k s i xs) (hl : Sm l) (hs : s < 32) (hi : i < l.length) (ex : x = l.getD i 0) (ec : c = xs.getD (i + k) 0) :
    UpRel l k s (i + 1) ((xs.set (i + k) (c + x * 2 ^ s % 4294967296)).set (i + k + 1) (x * 2 ^ s / 4294967296)) := by
  have hx : x < 4294967296 := by rw [ex]; exact sm_getD hl i
  obtain ⟨w1, w2, w3⟩ := up_word (c := c) hs hx (by rw [ec]; exact h.carry)
  have hlen := h.len
  have l1 : (xs.set (i + k) (c + x * 2 ^ s % 4294967296)).length = xs.length := List.length_set ..
  have p32 : (2 : Nat) ^ s ≤ 2 ^ 31 := Nat.pow_le_pow_right (by decide) (by omega)
  have e31 : (2 : Nat) ^ 31 = 2147483648 := by decide
  refine ⟨by rw [List.length_set, l1]; exact hlen, sm_set (sm_set h.sm _ w2) _ (by omega), ?_, ?_, ?_⟩
  · have v1 := wv_set xs (i + k) (c + x * 2 ^ s % 4294967296) (by omega)
    have v2 := wv_set (xs.set (i + k) (c + x * 2 ^ s % 4294967296)) (i + k + 1) (x * 2 ^ s / 4294967296) (by omega)
    have g1 : (xs.set (i + k) (c + x * 2 ^ s % 4294967296))[i + k + 1]'(by omega) = 0 := by
      have := h.zero (i + k + 1) (by omega)
      rw [← gd_lt (by omega), getD_set (by omega), if_neg (by omega)]; exact this
    have g2 : xs[i + k]'(by omega) = c := (gd_lt (by omega)).symm.trans ec.symm
    rw [g1, Nat.mul_zero, Nat.add_zero] at v2
    rw [g2] at v1
    have e1 := Nat.div_add_mod (x * 2 ^ s) 4294967296
    have e2 : wv (l.take (i + 1)) = wv (l.take i) + 4294967296 ^ i * x := by rw [wv_take_succ l i hi, ex, gd_lt hi]
    rw [v2, e2, Nat.add_mul, ← h.val]
    have e3 : 4294967296 ^ i * x * 2 ^ (32 * k + s) = 4294967296 ^ (i + k) * (x * 2 ^ s) := by
      rw [Nat.pow_add 2, ← pow32, Nat.pow_add 4294967296]; ac_rfl
    have e4 : 4294967296 ^ (i + k + 1) * (x * 2 ^ s / 4294967296) = 4294967296 ^ (i + k) * (4294967296 * (x * 2 ^ s / 4294967296)) := by rw [Nat.pow_succ]; ac_rfl
    rw [e3, e4]
    rw [Nat.mul_add] at v1
    have e5 : 4294967296 ^ (i + k) * (x * 2 ^ s) = 4294967296 ^ (i + k) * (4294967296 * (x * 2 ^ s / 4294967296)) + 4294967296 ^ (i + k) * (x * 2 ^ s % 4294967296) := by rw [← Nat.mul_add, e1]
    omega
  · intro j hj
    rw [getD_set (by omega), if_neg (by omega), getD_set (by omega), if_neg (by omega)]
    exact h.zero j (by omega)
  · rw [show i + 1 + k = i + k + 1 by omega, getD_set (by omega), if_pos rfl]; exact w3
theorem bits_or_u32n (a b : Nat) (ha : a < 4294967296) (hb : b < 4294967296) : bits .or .u32 (a : Int) (b : Int) = ((a ||| b : Nat) : Int) := by
  have hx : a ||| b < 2 ^ 32 := Nat.or_lt_two_pow (by omega) (by omega)
  have h1 : (BitVec.ofInt 32 (a : Int)).toNat = a := by
    rw [BitVec.ofInt_natCast, BitVec.toNat_ofNat]; exact Nat.mod_eq_of_lt (by omega)
  have h2 : (BitVec.ofInt 32 (b : Int)).toNat = b := by
    rw [BitVec.ofInt_natCast, BitVec.toNat_ofNat]; exact Nat.mod_eq_of_lt (by omega)
  show IntKind.u32.wrap ((BitVec.ofInt 32 (a : Int) ||| BitVec.ofInt 32 (b : Int)).toNat : Int) = _
  rw [BitVec.toNat_or, h1, h2, wrap_u32b]
  omega
theorem shl_word {x s : Nat} (hx : x < 4294967296) (hs : s < 32) : IntKind.u64.wrap ((x : Int) * 2 ^ s) = ((x * 2 ^ s : Nat) : Int) := by
  have e : (x : Int) * 2 ^ s = ((x * 2 ^ s : Nat) : Int) := by rw [Int.natCast_mul, Int.natCast_pow]; rfl
  have p : (2 : Nat) ^ s ≤ 2 ^ 31 := Nat.pow_le_pow_right (by decide) (by omega)
  have b : x * 2 ^ s ≤ 4294967295 * 2 ^ 31 := Nat.mul_le_mul (by omega) p
  rw [e, IntKind.wrap_u64]
  have : (4294967295 : Nat) * 2 ^ 31 = 9223372034707292160 := by decide
  omega
theorem up_vals {x c s : Nat} (hx : x < 4294967296) (hs : s < 32) (hc : c < 2 ^ s) :
    bits .or .u32 (c : Int) (IntKind.u64.wrap ((x : Int) * 2 ^ s) % 4294967296) = ((c + x * 2 ^ s % 4294967296 : Nat) : Int) ∧ IntKind.u64.wrap ((x : Int) * 2 ^ s) / 4294967296 % 4294967296 = ((x * 2 ^ s / 4294967296 : Nat) : Int) := by
  obtain ⟨w1, w2, w3⟩ := up_word hs hx hc
  have p : (2 : Nat) ^ s ≤ 2 ^ 31 := Nat.pow_le_pow_right (by decide) (by omega)
  have e31 : (2 : Nat) ^ 31 = 2147483648 := by decide
  rw [shl_word hx hs]
  constructor
  · rw [show ((x * 2 ^ s : Nat) : Int) % 4294967296 = ((x * 2 ^ s % 4294967296 : Nat) : Int) by omega, bits_or_u32n _ _ (by omega) (by omega), w1]
  · omega
theorem up_core {b off cap : Nat} {l : List Nat} {w : World} (n k s : Nat) (hn : n = 32 * k + s) (hs : s < 32) (hk : k ≤ 100000) (hl : Sm l) (h0 : 0 < l.length) (hc1 : l.length ≤ cap) (hc2 : cap ≤ 1000000000) (hl9 : l.length ≤ 1000000)
    (hb : b < w.heap.size) (hc : ∀ j, j < l.length → w.cell? ⟨b, off + j, none⟩ = some (.int .u32 ((l.getD j 0 : Nat) : Int))) :
    Calls Try.prog 101 #[.slice (some ⟨b, off, none⟩) l.length cap, .int .i64 (n : Int)] w (RetW (wv l * 2 ^ n) w) := by
  have HL := Lib.hid hl
  have HC := Lib.hid hc
  have hmk := mk_words ((l.length : Int) + (k : Int) + 1) (l.length + k + 1) (by omega) (by omega)
  have e1 : (n : Int) / 32 = (k : Int) := by omega
  have e2 : (n : Int) % 32 = (s : Int) := by omega
  have hne : ((l.length : Int) == 0) = false := by
    have : (l.length : Int) ≠ 0 := by omega
    simpa using this
  have HN := Lib.hid hn
  clear hc hl hn
  go_enter Try.func101, Try.ntmps101
  go_wp2
  go_loopw [8, 9] (fun n8 n9 wr => ∃ (i : Nat) (xs : List Nat), n8 = .int .i64 i ∧ i ≤ l.length ∧ UpRel l k s i xs ∧ Row wr w.heap.size xs ∧ Grown w wr) (fun n8 _ _ => l.length - (intOf n8).toNat)
  case atStart => exact ⟨0, List.replicate (l.length + k + 1) 0, rfl, Nat.zero_le _, up_start _ _ _, row_made _ _ _, (Grown.refl _).alloc _ _⟩
  case round =>
    obtain ⟨i, xs, rfl, hi, hR, hrow, hg⟩ := hrel
    have HR := Lib.hid hR
    have HW := Lib.hid hrow
    have HG := Lib.hid hg
    clear hR hrow hg
    by_cases hlt : i < l.length
    · have a1 := (HC.out i hlt)
      rw [← grown_cell HG.out hb] at a1
      have x1 := sm_getD HL.out i
      obtain ⟨x, ex⟩ : ∃ x, x = l.getD i 0 := ⟨_, rfl⟩
      have EX := Lib.hid ex
      rw [← ex] at a1 x1
      clear ex
      have hlen : xs.length = l.length + k + 1 := HR.out.len
      have r1 := HW.out.cell (i + k) (by omega)
      have r2 := HW.out.cell (i + k + 1) (by omega)
      have f1 : wr.frozen? ⟨w.heap.size, i + k, none⟩ = false := Row.free HG.out (Nat.le_refl _)
      have f2 : wr.frozen? ⟨w.heap.size, i + k + 1, none⟩ = false := Row.free HG.out (Nat.le_refl _)
      have c1 := HR.out.carry
      obtain ⟨c, ec⟩ : ∃ c, c = xs.getD (i + k) 0 := ⟨_, rfl⟩
      have EC := Lib.hid ec
      rw [← ec] at r1 c1
      clear ec
      have hl2 := Lib.hid hlen
      clear hlen
      go_wp2_with fail
      go_roundw
      case rel =>
        obtain ⟨v1, v2⟩ := up_vals x1 hs c1
        refine ⟨i + 1, _, by go_num, by omega, up_step HR.out HL.out hs hlt EX.out EC.out, ?_, ?_⟩
        · rw [v1, v2]
          exact (HW.out.set (by rw [hl2.out]; omega) _).set (by rw [List.length_set, hl2.out]; omega) _
        · exact (HG.out.setCell (Nat.le_refl _) _).setCell (Nat.le_refl _) _
      case measure => simp [intOf]; omega
    · have hi2 : i = l.length := by omega
      have hlen := HR.out.len
      have hcap : l.length + k + 1 ≤ 1000000000 := by omega
      have HI := Lib.hid (show IsW wr (.slice (some ⟨w.heap.size, 0, none⟩) (l.length + k + 1) (l.length + k + 1)) xs from by
        have := HW.out.isW (l.length + k + 1) (l.length + k + 1) (by omega) (by omega) hcap
        rwa [List.take_of_length_le (by omega)] at this)
      have HS := Lib.hid HR.out.sm
      have HV := Lib.hid (show wv xs = wv l * 2 ^ n from by rw [HR.out.val, HN.out, List.take_of_length_le (by omega)])
      clear hlen
      go_wp2_with (go_at_call 145; refine (trim_c HI.out HS.out).mono ?_; rw [HV.out]; rintro e w' ⟨v', n', rfl, hv, rfl⟩)
      go_ret
      exact ⟨_, rfl, hv, gr_drewN _ HG.out⟩
theorem upW_c {v : Value} {A : Nat} {w : World} (n : Nat) (h : IsW w v (digs A)) (hn : n ≤ 100000) (hA : (digs A).length ≤ 1000000) : Calls Try.prog 101 #[v, .int .i64 (n : Int)] w (RetW (A * 2 ^ n) w) := by
  obtain ⟨s, cap, rfl, hc1, hc2, hcell⟩ := h
  by_cases h0 : A = 0
  · subst h0
    have HI : RowKit.Hid (IsW w (.slice none 0 0) (digs (0 * 2 ^ n))) := Lib.hid (by rw [Nat.zero_mul]; exact IsW.nil w)
    clear hcell
    go_enter Try.func101, Try.ntmps101
    go_wp2
    go_ret
    exact ⟨_, rfl, HI.out, Grown.refl _⟩
  · obtain ⟨b, off, rfl, hb, hc⟩ := hcell (mt digs_nil.1 h0)
    have := up_core n (n / 32) (n % 32) (by omega) (Nat.mod_lt _ (by decide)) (by omega) (digs_sm A) (digs_len_pos h0) hc1 hc2 hA hb hc
    rwa [wv_digs] at this
end Go.Proofs.Ytcfkhhnkboealaa
namespace Go.Proofs.Ytcfkhhnkboealaa
open Go.RowKit
set_option linter.unusedVariables false
set_option linter.unusedSimpArgs false
set_option maxRecDepth 100000
set_option maxHeartbeats 4000000
/-- what holds of the words behind i rounds. -/
structure DnRel (l : List Nat) (k s i : Nat) (xs : List Nat) : Prop where
  len : xs.length = l.length - k
  sm : Sm xs
  val : wv (xs.take i) = wv (l.drop k) / 2 ^ s % 4294967296 ^ i
  zero : ∀ j, i ≤ j → xs.getD j 0 = 0
theorem dn_start (l : List Nat) (k s : Nat) : DnRel l k s 0 (List.replicate (l.length - k) 0) :=
  ⟨by simp, sm_replicate _, by simp [wv, Nat.mod_one], fun j _ => getD_replicate _ _⟩
theorem wv_drop (l : List Nat) (hl : Sm l) (k : Nat) (hk : k ≤ l.length) : wv (l.drop k) = wv l / 4294967296 ^ k := by
  have h := wv_take_drop l k hk
  have h2 := wv_lt (sm_take hl k)
  rw [List.length_take, Nat.min_eq_left hk] at h2
  rw [h, Nat.add_mul_div_left _ _ (Nat.pow_pos (by decide)), Nat.div_eq_of_lt h2, Nat.zero_add]
/-- one word of the shifted number. -/
theorem dn_word (x0 x1 r s : Nat) (hs : s < 32) : (x0 + 4294967296 * (x1 + 4294967296 * r)) / 2 ^ s % 4294967296 = (x1 * 4294967296 + x0) / 2 ^ s % 4294967296 := by
  have e : 4294967296 = 2 ^ (32 - s) * 2 ^ s := by rw [← Nat.pow_add, show 32 - s + s = 32 by omega]
  have h : x0 + 4294967296 * (x1 + 4294967296 * r) = (x1 * 4294967296 + x0) + 2 ^ s * (4294967296 * (2 ^ (32 - s) * r)) := by
    have e2 : 4294967296 * (4294967296 * r) = 2 ^ s * (4294967296 * (2 ^ (32 - s) * r)) := by
      calc 4294967296 * (4294967296 * r) = 4294967296 * ((2 ^ (32 - s) * 2 ^ s) * r) := by rw [← e]
        _ = 2 ^ s * (4294967296 * (2 ^ (32 - s) * r)) := by ac_rfl
    rw [← e2, Nat.mul_add]; omega
  rw [h, Nat.add_mul_div_left _ _ (Nat.two_pow_pos _), Nat.add_mul_mod_self_left]
theorem dn_step {l xs : List Nat} {k s i v : Nat} (h : DnRel l k s i xs) (hl : Sm l) (hs : s < 32) (hi : i < l.length - k) (hv : v = (l.getD (i + k + 1) 0 * 4294967296 + l.getD (i + k) 0) / 2 ^ s % 4294967296) :
    DnRel l k s (i + 1) (xs.set i v) := by
  have hlen := h.len
  have vb : v < 4294967296 := by rw [hv]; exact Nat.mod_lt _ (by decide)
  refine ⟨by rw [List.length_set]; exact hlen, sm_set h.sm _ vb, ?_, ?_⟩
  · have hi2 : i < (xs.set i v).length := by rw [List.length_set]; omega
    rw [wv_take_succ _ i hi2, List.getElem_set_self]
    have e1 : (xs.set i v).take i = xs.take i := by rw [List.take_set_of_le (Nat.le_refl _)]
    rw [e1, h.val]
    generalize hM : wv (l.drop k) = M at *
    have e2 : M / 2 ^ s / 4294967296 ^ i % 4294967296 = v := by
      rw [Nat.div_div_eq_div_mul, Nat.mul_comm, ← Nat.div_div_eq_div_mul]
      have hd : M / 4294967296 ^ i = wv (l.drop (k + i)) := by
        rw [← hM, wv_drop l hl k (by omega), wv_drop l hl (k + i) (by omega), Nat.div_div_eq_div_mul, Nat.pow_add]
      rw [hd, List.drop_eq_getElem_cons (by omega)]
      show (l[k + i]'(by omega) + 4294967296 * wv (l.drop (k + i + 1))) / 2 ^ s % 4294967296 = v
      by_cases hq : k + i + 1 < l.length
      · rw [List.drop_eq_getElem_cons hq]
        show (l[k + i]'(by omega) + 4294967296 * (l[k + i + 1] + 4294967296 * wv (l.drop (k + i + 1 + 1)))) / 2 ^ s % 4294967296 = v
        rw [dn_word _ _ _ _ hs, hv, gd_lt (show i + k + 1 < l.length by omega), gd_lt (show i + k < l.length by omega)]
        simp only [Nat.add_comm i k]
      · rw [List.drop_of_length_le (by omega), hv, gd_ge (show l.length ≤ i + k + 1 by omega), gd_lt (show i + k < l.length by omega)]
        simp only [wv, Nat.add_comm i k, Nat.mul_zero, Nat.zero_mul, Nat.add_zero, Nat.zero_add]
    rw [Nat.pow_succ, Nat.mod_mul, e2]
  · intro j hj
    rw [getD_set (by omega), if_neg (by omega)]
    exact h.zero j (by omega)
theorem dn_end {l xs : List Nat} {k s n : Nat} (h : DnRel l k s (l.length - k) xs) (hl : Sm l) (hk : k ≤ l.length) (hn : n = 32 * k + s) : wv xs = wv l / 2 ^ n := by
  have hv := h.val
  have hlen := h.len
  rw [List.take_of_length_le (by omega)] at hv
  have hb := wv_lt (sm_drop hl k)
  rw [List.length_drop] at hb
  rw [hv, Nat.mod_eq_of_lt (Nat.lt_of_le_of_lt (Nat.div_le_self _ _) hb), wv_drop l hl k hk, Nat.div_div_eq_div_mul, pow32, ← Nat.pow_add, hn]
theorem dn_val1 {x0 s : Nat} (h0 : x0 < 4294967296) : (x0 : Int) / 2 ^ s % 4294967296 = (((0 * 4294967296 + x0) / 2 ^ s % 4294967296 : Nat) : Int) := by
  rw [Nat.zero_mul, Nat.zero_add]
  have : (x0 : Int) / 2 ^ s = ((x0 / 2 ^ s : Nat) : Int) := by rw [Int.natCast_ediv, Int.natCast_pow]; rfl
  rw [this]; omega
theorem dn_val2 {x0 x1 s : Nat} (h0 : x0 < 4294967296) (h1 : x1 < 4294967296) : bits .or .u64 (x0 : Int) ((x1 : Int) * 4294967296) / 2 ^ s % 4294967296 = (((x1 * 4294967296 + x0) / 2 ^ s % 4294967296 : Nat) : Int) := by
  have e : (x1 : Int) * 4294967296 = ((x1 * 4294967296 : Nat) : Int) := by omega
  have o : bits .or .u64 (x0 : Int) ((x1 : Int) * 4294967296) = ((x1 * 4294967296 + x0 : Nat) : Int) := by
    rw [e, bits_or_u64n _ _ (by omega) (by omega), Nat.or_comm]
    have := or_two 32 x1 x0 (by omega)
    rw [show (2 : Nat) ^ 32 = 4294967296 by decide] at this
    rw [this]
  have e2 : ((x1 * 4294967296 + x0 : Nat) : Int) / 2 ^ s = (((x1 * 4294967296 + x0) / 2 ^ s : Nat) : Int) := by rw [Int.natCast_ediv, Int.natCast_pow]; rfl
  rw [o, e2]; omega
theorem down_core {b off cap : Nat} {l : List Nat} {w : World} (n k s : Nat) (hn : n = 32 * k + s) (hs : s < 32) (hk : k < l.length) (hl : Sm l) (hc1 : l.length ≤ cap) (hc2 : cap ≤ 1000000000)
    (hb : b < w.heap.size) (hc : ∀ j, j < l.length → w.cell? ⟨b, off + j, none⟩ = some (.int .u32 ((l.getD j 0 : Nat) : Int))) :
    Calls Try.prog 175 #[.slice (some ⟨b, off, none⟩) l.length cap, .int .i64 (n : Int)] w (RetW (wv l / 2 ^ n) w) := by
  have HL := Lib.hid hl
  have HC := Lib.hid hc
  have hmk := mk_words ((l.length : Int) - (k : Int)) (l.length - k) (by omega) (by omega)
  have e1 : (n : Int) / 32 = (k : Int) := by omega
  have e2 : (n : Int) % 32 = (s : Int) := by omega
  have hge : ¬ (l.length : Int) ≤ (k : Int) := by omega
  have HN := Lib.hid hn
  clear hc hl hn
  go_enter Try.func175, Try.ntmps175
  go_wp2
  go_loopw [8, 9] (fun n8 n9 wr => ∃ (i : Nat) (xs : List Nat), n8 = .int .i64 i ∧ i ≤ l.length - k ∧ DnRel l k s i xs ∧ Row wr w.heap.size xs ∧ Grown w wr) (fun n8 _ _ => l.length - (intOf n8).toNat)
  case atStart => exact ⟨0, List.replicate (l.length - k) 0, rfl, Nat.zero_le _, dn_start _ _ _, row_made _ _ _, (Grown.refl _).alloc _ _⟩
  case round =>
    obtain ⟨i, xs, rfl, hi, hR, hrow, hg⟩ := hrel
    have HR := Lib.hid hR
    have HW := Lib.hid hrow
    have HG := Lib.hid hg
    clear hR hrow hg
    by_cases hlt : i < l.length - k
    · have a1 := (HC.out (i + k) (by omega))
      rw [← grown_cell HG.out hb] at a1
      have x1 := sm_getD HL.out (i + k)
      obtain ⟨x, ex⟩ : ∃ x, x = l.getD (i + k) 0 := ⟨_, rfl⟩
      have EX := Lib.hid ex
      rw [← ex] at a1 x1
      clear ex
      have hlen : xs.length = l.length - k := HR.out.len
      have r1 := HW.out.cell i (by omega)
      rw [HR.out.zero i (Nat.le_refl _)] at r1
      have f1 : wr.frozen? ⟨w.heap.size, i, none⟩ = false := Row.free HG.out (Nat.le_refl _)
      have hl2 := Lib.hid hlen
      clear hlen
      by_cases h2 : i + k + 1 < l.length
      · have a2 := (HC.out (i + k + 1) h2)
        rw [← grown_cell HG.out hb] at a2
        have y1 := sm_getD HL.out (i + k + 1)
        obtain ⟨y, ey⟩ : ∃ y, y = l.getD (i + k + 1) 0 := ⟨_, rfl⟩
        have EY := Lib.hid ey
        rw [← ey] at a2 y1
        clear ey
        have hlt3 : (i : Int) + (k : Int) + 1 < (l.length : Int) := by omega
        go_wp2_with fail
        go_roundw
        case rel =>
          refine ⟨i + 1, _, by go_num, by omega, dn_step HR.out HL.out hs hlt rfl, ?_, ?_⟩
          · rw [dn_val2 x1 y1, EX.out, EY.out]
            exact HW.out.set (by rw [hl2.out]; omega) _
          · exact HG.out.setCell (Nat.le_refl _) _
        case measure => simp [intOf]; omega
      · have hz : RowKit.Hid (l.getD (i + k + 1) 0 = 0) := Lib.hid (gd_ge (by omega))
        have hlt3 : ¬ (i : Int) + (k : Int) + 1 < (l.length : Int) := by omega
        go_wp2_with fail
        go_roundw
        case rel =>
          refine ⟨i + 1, _, by go_num, by omega, dn_step HR.out HL.out hs hlt rfl, ?_, ?_⟩
          · rw [dn_val1 x1, EX.out, hz.out]
            exact HW.out.set (by rw [hl2.out]; omega) _
          · exact HG.out.setCell (Nat.le_refl _) _
        case measure => simp [intOf]; omega
    · have hi2 : i = l.length - k := by omega
      have hlen := HR.out.len
      have HI := Lib.hid (show IsW wr (.slice (some ⟨w.heap.size, 0, none⟩) (l.length - k) (l.length - k)) xs from by
        have := HW.out.isW (l.length - k) (l.length - k) (by omega) (by omega) (by omega)
        rwa [List.take_of_length_le (by omega)] at this)
      have HS := Lib.hid HR.out.sm
      have HV := Lib.hid (show wv xs = wv l / 2 ^ n from dn_end (by rw [← hi2]; exact HR.out) HL.out (by omega) HN.out)
      clear hlen
      go_wp2_with (go_at_call 145; refine (trim_c HI.out HS.out).mono ?_; rw [HV.out]; rintro e w' ⟨v', n', rfl, hv, rfl⟩)
      go_ret
      exact ⟨_, rfl, hv, gr_drewN _ HG.out⟩
theorem down_none {s : Option Addr} {L cap : Nat} {w : World} (n : Nat) (h : L ≤ n / 32) (hc1 : L ≤ cap) (hc2 : cap ≤ 1000000000) (hn : n ≤ 100000000) : Calls Try.prog 175 #[.slice s L cap, .int .i64 (n : Int)] w (RetW 0 w) := by
  have hge : (L : Int) ≤ (n : Int) / 32 := by omega
  have HI : RowKit.Hid (IsW w (.slice none 0 0) (digs 0)) := Lib.hid (IsW.nil w)
  go_enter Try.func175, Try.ntmps175
  go_wp2
  go_ret
  exact ⟨_, rfl, HI.out, Grown.refl _⟩
theorem downW_c {v : Value} {A : Nat} {w : World} (n : Nat) (h : IsW w v (digs A)) (hn : n ≤ 100000000) : Calls Try.prog 175 #[v, .int .i64 (n : Int)] w (RetW (A / 2 ^ n) w) := by
  obtain ⟨s, cap, rfl, hc1, hc2, hcell⟩ := h
  by_cases hk : n / 32 < (digs A).length
  · have h0 : A ≠ 0 := by intro e; subst e; simp [digs_zero] at hk
    obtain ⟨b, off, rfl, hb, hc⟩ := hcell (mt digs_nil.1 h0)
    have := down_core n (n / 32) (n % 32) (by omega) (Nat.mod_lt _ (by decide)) hk (digs_sm A) hc1 hc2 hb hc
    rwa [wv_digs] at this
  · have e : A / 2 ^ n = 0 := by
      apply Nat.div_eq_of_lt
      have := digs_lt A
      rw [pow32] at this
      exact Nat.lt_of_lt_of_le this (Nat.pow_le_pow_right (by decide) (by omega))
    rw [e]
    exact down_none n (by omega) hc1 hc2 hn
end Go.Proofs.Ytcfkhhnkboealaa
namespace Go.Proofs.Ytcfkhhnkboealaa
open Go.RowKit
set_option linter.unusedVariables false
set_option linter.unusedSimpArgs false
set_option maxRecDepth 100000
set_option maxHeartbeats 4000000
theorem wrap_small {Q : Nat} (h : Q < 4294967296) : IntKind.u64.wrap (Q : Int) % 4294967296 = (Q : Int) := by rw [IntKind.wrap_u64]; omega
structure DsRel (l : List Nat) (d k r : Nat) (xs : List Nat) : Prop where
  len : xs.length = l.length
  sm : Sm xs
  val : wv (xs.drop k) * d + r = wv (l.drop k)
  rest : r < d
  zero : ∀ j, j < k → xs.getD j 0 = 0
theorem ds_start (l : List Nat) (d : Nat) (hd : 0 < d) : DsRel l d l.length 0 (List.replicate l.length 0) :=
  ⟨by simp, sm_replicate _, by simp [wv], hd, fun j _ => getD_replicate _ _⟩
theorem ds_step {l xs : List Nat} {d k r x : Nat} (h : DsRel l d k r xs) (hd : d < 4294967296) (hk : 0 < k) (hkl : k ≤ l.length) (hx : x < 4294967296) (ex : x = l.getD (k - 1) 0) :
    DsRel l d (k - 1) ((r * 4294967296 + x) % d) (xs.set (k - 1) ((r * 4294967296 + x) / d)) := by
  have hr := h.rest
  have hq : (r * 4294967296 + x) / d < 4294967296 := by
    rw [Nat.div_lt_iff_lt_mul (by omega)]
    have : (r + 1) * 4294967296 ≤ d * 4294967296 := Nat.mul_le_mul_right _ hr
    rw [Nat.mul_comm 4294967296 d]
    omega
  refine ⟨by rw [List.length_set]; exact h.len, sm_set h.sm _ hq, ?_, Nat.mod_lt _ (by omega), ?_⟩
  · have hl := h.len
    have i1 : k - 1 < (xs.set (k - 1) ((r * 4294967296 + x) / d)).length := by rw [List.length_set]; omega
    rw [List.drop_eq_getElem_cons i1, List.getElem_set_self, List.drop_eq_getElem_cons (show k - 1 < l.length by omega), show k - 1 + 1 = k by omega]
    have e1 : (xs.set (k - 1) ((r * 4294967296 + x) / d)).drop k = xs.drop k := List.drop_set_of_lt (by omega)
    rw [e1]
    show ((r * 4294967296 + x) / d + 4294967296 * wv (xs.drop k)) * d + _ = l[k - 1] + 4294967296 * wv (l.drop k)
    rw [← h.val, ← gd_lt (show k - 1 < l.length by omega), ← ex, Nat.add_mul]
    have e2 := Nat.div_add_mod (r * 4294967296 + x) d
    rw [Nat.mul_comm d] at e2
    rw [Nat.mul_add, Nat.mul_assoc]
    omega
  · intro j hj
    rw [getD_set (by rw [h.len]; omega), if_neg (by omega)]
    exact h.zero j (by omega)
theorem ds_end {l xs : List Nat} {d r : Nat} (h : DsRel l d 0 r xs) : wv xs = wv l / d ∧ r = wv l % d := by
  have hv := h.val
  simp only [List.drop_zero] at hv
  have hr := h.rest
  rw [← hv, Nat.mul_comm]
  constructor
  · rw [Nat.mul_add_div (by omega), Nat.div_eq_of_lt hr, Nat.add_zero]
  · rw [Nat.mul_add_mod, Nat.mod_eq_of_lt hr]
def RetWU (A r : Nat) (w : World) (e : Ending) (w' : World) : Prop := ∃ v, e = .returned (.tuple #[v, .int .u32 (r : Int)]) ∧ IsW w' v (digs A) ∧ Grown w w'
theorem divSmall_core {b off cap d : Nat} {l : List Nat} {w : World} (hd0 : 0 < d) (hd : d < 4294967296) (hl : Sm l) (h0 : 0 < l.length) (hc1 : l.length ≤ cap) (hc2 : cap ≤ 1000000000)
    (hb : b < w.heap.size) (hc : ∀ j, j < l.length → w.cell? ⟨b, off + j, none⟩ = some (.int .u32 ((l.getD j 0 : Nat) : Int))) :
    Calls Try.prog 172 #[.slice (some ⟨b, off, none⟩) l.length cap, .int .u32 (d : Int)] w (RetWU (wv l / d) (wv l % d) w) := by
  have HL := Lib.hid hl
  have HC := Lib.hid hc
  have hmk := mk_words (l.length : Int) l.length rfl (by omega)
  clear hc hl
  go_enter Try.func172, Try.ntmps172
  go_wp2
  go_loopw [7, 8, 9] (fun n7 n8 n9 wr => ∃ (k r : Nat) (xs : List Nat), n8 = .int .i64 ((k : Int) - 1) ∧ n7 = .int .u64 r ∧ k ≤ l.length ∧ DsRel l d k r xs ∧ Row wr w.heap.size xs ∧ Grown w wr) (fun _ n8 _ _ => (intOf n8 + 1).toNat)
  case atStart => exact ⟨l.length, 0, List.replicate l.length 0, rfl, rfl, Nat.le_refl _, ds_start _ _ hd0, row_made _ _ _, (Grown.refl _).alloc _ _⟩
  case round =>
    obtain ⟨k, r, xs, rfl, rfl, hk, hR, hrow, hg⟩ := hrel
    have HR := Lib.hid hR
    have HW := Lib.hid hrow
    have HG := Lib.hid hg
    clear hR hrow hg
    by_cases hk0 : k = 0
    · subst hk0
      have hlen := HR.out.len
      have HI := Lib.hid (show IsW wr (.slice (some ⟨w.heap.size, 0, none⟩) l.length l.length) xs from by
        have := HW.out.isW l.length l.length (by omega) (by omega) (by omega)
        rwa [List.take_of_length_le (by omega)] at this)
      have HS := Lib.hid HR.out.sm
      obtain ⟨v1, v2⟩ := ds_end HR.out
      have HV := Lib.hid v1
      have HV2 := Lib.hid v2
      have hr := HR.out.rest
      clear hlen v1 v2
      go_wp2_with (go_at_call 145; refine (trim_c HI.out HS.out).mono ?_; rw [HV.out]; rintro e w' ⟨v', n', rfl, hv, rfl⟩)
      go_ret2
      exact ⟨_, by rw [HV2.out]; rfl, hv, gr_drewN _ HG.out⟩
    · have a1 := (HC.out (k - 1) (by omega))
      rw [← grown_cell HG.out hb] at a1
      have x1 := sm_getD HL.out (k - 1)
      obtain ⟨x, ex⟩ : ∃ x, x = l.getD (k - 1) 0 := ⟨_, rfl⟩
      have EX := Lib.hid ex
      rw [← ex] at a1 x1
      clear ex
      have hlen : xs.length = l.length := HR.out.len
      have r1 := HW.out.cell (k - 1) (by omega)
      rw [HR.out.zero (k - 1) (by omega)] at r1
      have f1 : wr.frozen? ⟨w.heap.size, k - 1, none⟩ = false := Row.free HG.out (Nat.le_refl _)
      have hl2 := Lib.hid hlen
      clear hlen
      have hr := HR.out.rest
      have ho := or_words r x (by omega) x1
      have hk1 : ((k : Int) - 1).toNat = k - 1 := by omega
      obtain ⟨T, eT⟩ : ∃ T, T = r * 4294967296 + x := ⟨_, rfl⟩
      rw [← eT] at ho
      have ET := Lib.hid eT
      have hT : T < 18446744073709551616 := by omega
      clear eT
      have q1 := Lib.hid (show (T : Int) / (d : Int) = ((T / d : Nat) : Int) from rfl)
      have q2 := Lib.hid (show (T : Int) % (d : Int) = ((T % d : Nat) : Int) from rfl)
      have hd1 : (1 : Int) ≤ (d : Int) := by omega
      have hst := ds_step HR.out hd (by omega) hk x1 EX.out
      rw [← ET.out] at hst
      have HST := Lib.hid hst
      have hq : T / d < 4294967296 := by
        rw [ET.out, Nat.div_lt_iff_lt_mul (by omega)]
        have : (r + 1) * 4294967296 ≤ d * 4294967296 := Nat.mul_le_mul_right _ hr
        rw [Nat.mul_comm 4294967296 d]
        omega
      have HQ := Lib.hid hq
      clear hst hq
      go_wp2_with fail
      go_roundw
      case rel =>
        refine ⟨k - 1, T % d, _, by congr 1; omega, ?_, by omega, HST.out, ?_, ?_⟩
        · first | rfl | (congr 1; omega) | (congr 1)
        · have e : IntKind.u64.wrap ((T : Int) / (d : Int)) % 4294967296 = ((T / d : Nat) : Int) := by rw [q1.out]; exact wrap_small HQ.out
          rw [e]
          exact HW.out.set (by rw [hl2.out]; omega) _
        · exact HG.out.setCell (Nat.le_refl _) _
      case measure => simp [intOf]; omega
theorem divSmall_c {v : Value} {A d : Nat} {w : World} (h : IsW w v (digs A)) (hA : A ≠ 0) (hd0 : 0 < d) (hd : d < 4294967296) : Calls Try.prog 172 #[v, .int .u32 (d : Int)] w (RetWU (A / d) (A % d) w) := by
  obtain ⟨s, cap, rfl, hc1, hc2, hcell⟩ := h
  obtain ⟨b, off, rfl, hb, hc⟩ := hcell (mt digs_nil.1 hA)
  have := divSmall_core hd0 hd (digs_sm A) (digs_len_pos hA) hc1 hc2 hb hc
  rwa [wv_digs] at this
end Go.Proofs.Ytcfkhhnkboealaa
namespace Go.Proofs.Ytcfkhhnkboealaa
open Go.RowKit
set_option linter.unusedVariables false
set_option linter.unusedSimpArgs false
set_option maxRecDepth 100000

/-- the numbers of one figure: N, W the first words' numbers of U and V, in units of P. -/
structure FigN (U V N W P num t u2 v2 : Nat) : Prop where
  hU1 : N * P ≤ U
  hU2 : U < (N + 1) * P
  hV1 : W * P ≤ V
  hV2 : V < (W + 1) * P
  hN : N = num * 4294967296 + u2
  hW : W = t * 4294967296 + v2
  hu2 : u2 < 4294967296
  hv2 : v2 < 4294967296
  ht : t < 4294967296
  ht2 : 2147483648 ≤ t
  hP : 0 < P
  hlt : U < 4294967296 * V
/-- the guess at the loop's head. -/
structure FigG (U V num t g r : Nat) : Prop where
  eq : num = g * t + r
  rest : r < 4294967296
  ge : ∀ q, q * V ≤ U → q ≤ g
/-- the guess at the end. -/
structure FigE (U V g : Nat) : Prop where
  ge : ∀ q, q * V ≤ U → q ≤ g
  lt : g * V < U + V
  b : g < 4294967296
section
variable {U V N W P num t u2 v2 g r : Nat} (h : FigN U V N W P num t u2 v2)
include h
theorem fig_num : num < 4294967296 * (t + 1) := by
  have a : num * 4294967296 ≤ N := by rw [h.hN]; exact Nat.le_add_right _ _
  have b : num * 4294967296 * P ≤ U := Nat.le_trans (Nat.mul_le_mul_right _ a) h.hU1
  have c : W + 1 ≤ (t + 1) * 4294967296 := by rw [h.hW, Nat.add_mul, Nat.one_mul, Nat.add_assoc]; exact Nat.add_le_add_left h.hv2 _
  have d : 4294967296 * V < 4294967296 * ((t + 1) * 4294967296 * P) := Nat.mul_lt_mul_of_pos_left (Nat.lt_of_lt_of_le h.hV2 (Nat.mul_le_mul_right _ c)) (by decide)
  have e : num * (4294967296 * P) < 4294967296 * (t + 1) * (4294967296 * P) := by
    have e1 : num * (4294967296 * P) = num * 4294967296 * P := by ac_rfl
    have e2 : 4294967296 * (t + 1) * (4294967296 * P) = 4294967296 * ((t + 1) * 4294967296 * P) := by ac_rfl
    rw [e1, e2]
    exact Nat.lt_of_le_of_lt b (Nat.lt_trans h.hlt d)
  exact Nat.lt_of_mul_lt_mul_right e
theorem fig_over (k : g * W > N) : U < g * V := by
  have a : (N + 1) * P ≤ g * W * P := Nat.mul_le_mul_right _ k
  have b : g * W * P ≤ g * V := by rw [Nat.mul_assoc]; exact Nat.mul_le_mul_left _ h.hV1
  have := h.hU2
  omega
theorem fig_start : FigG U V num t (num / t) (num % t) := by
  have ht := h.ht2
  refine ⟨?_, Nat.lt_of_lt_of_le (Nat.mod_lt _ (by omega)) (Nat.le_of_lt h.ht), ?_⟩
  · rw [Nat.mul_comm]; exact (Nat.div_add_mod _ _).symm
  · intro q hq
    rw [Nat.le_div_iff_mul_le (by omega)]
    have a : q * W ≤ N := by
      rcases Nat.lt_or_ge N (q * W) with k | k
      · have := fig_over h k; omega
      · exact k
    have b : q * t * 4294967296 ≤ q * W := by rw [Nat.mul_assoc]; apply Nat.mul_le_mul_left; rw [h.hW]; omega
    have c := h.hN
    have d := h.hu2
    generalize q * t = z at *
    omega
theorem fig_gW : g * W = g * t * 4294967296 + g * v2 := by rw [h.hW, Nat.mul_add, Nat.mul_assoc]
theorem fig_end (k : g * W ≤ N) (kb : g < 4294967296) (kg : ∀ q, q * V ≤ U → q ≤ g) : FigE U V g := by
  refine ⟨kg, ?_, kb⟩
  have a : g * (W * P) ≤ U := by rw [← Nat.mul_assoc]; exact Nat.le_trans (Nat.mul_le_mul_right _ k) h.hU1
  obtain ⟨s, hs⟩ : ∃ s, V = W * P + s := ⟨V - W * P, by have := h.hV1; omega⟩
  have s2 : s < P := by have := h.hV2; rw [hs, Nat.add_mul] at this; omega
  have b : g * V = g * (W * P) + g * s := by rw [hs, Nat.mul_add]
  have c : g * s ≤ 4294967296 * s := Nat.mul_le_mul_right _ (Nat.le_of_lt kb)
  have d : 4294967296 * s < 4294967296 * P := Nat.mul_lt_mul_of_pos_left s2 (by decide)
  have e : 4294967296 * P ≤ W * P := Nat.mul_le_mul_right _ (by rw [h.hW]; have := h.ht2; omega)
  omega
/-- the test says: too great. -/
theorem fig_down (k : FigG U V num t g r) (hc : 4294967296 ≤ g ∨ r * 4294967296 + u2 < g * v2) : 0 < g ∧ num = (g - 1) * t + (r + t) ∧ ∀ q, q * V ≤ U → q ≤ g - 1 := by
  have g0 : 0 < g := by
    rcases Nat.eq_zero_or_pos g with e | e
    · subst e; simp at hc
    · exact e
  refine ⟨g0, ?_, ?_⟩
  · have e := k.eq
    have e2 : g * t = (g - 1) * t + t := by rw [Nat.sub_mul, Nat.one_mul]; have : 1 * t ≤ g * t := Nat.mul_le_mul_right _ g0; omega
    omega
  · intro q hq
    have hq1 := k.ge q hq
    rcases hc with hc | hc
    · have a : q < 4294967296 := by
        rcases Nat.lt_or_ge q 4294967296 with b | b
        · exact b
        · have := Nat.mul_le_mul_right V b
          have := h.hlt
          omega
      omega
    · rcases Nat.lt_or_ge q g with b | b
      · omega
      · have e : q = g := by omega
        subst e
        have c : q * W > N := by
          rw [fig_gW h, h.hN, k.eq, Nat.add_mul, Nat.add_assoc]; exact Nat.add_lt_add_left hc _
        have := fig_over h c
        omega
theorem fig_out1 (k : FigG U V num t g r) (h1 : g < 4294967296) (h2 : g * v2 ≤ r * 4294967296 + u2) : FigE U V g := by
  refine fig_end h ?_ h1 k.ge
  rw [fig_gW h, h.hN, k.eq, Nat.add_mul]; omega
theorem fig_out2 (e : num = g * t + r) (hr : 4294967296 ≤ r) (hr2 : r < 8589934592) (kg : ∀ q, q * V ≤ U → q ≤ g) : FigE U V g := by
  have hn := fig_num h
  have hb : g < 4294967296 := by
    rcases Nat.lt_or_ge g 4294967296 with b | b
    · exact b
    · have := Nat.mul_le_mul_right t b
      rw [Nat.mul_add] at hn
      omega
  refine fig_end h ?_ hb kg
  rw [fig_gW h, h.hN, e, Nat.add_mul]
  have a : g * v2 ≤ 4294967296 * 4294967296 := Nat.mul_le_mul (Nat.le_of_lt hb) (Nat.le_of_lt h.hv2)
  have b : 4294967296 * 4294967296 ≤ r * 4294967296 := Nat.mul_le_mul_right _ hr
  omega
end
theorem figE_cases {U V g : Nat} (h : FigE U V g) (hV : 0 < V) : (g * V ≤ U ∧ g = U / V ∧ U - g * V = U % V) ∨ (U < g * V ∧ 0 < g ∧ g - 1 = U / V ∧ U + V - g * V = U % V) := by
  have hd := Nat.div_add_mod U V
  have hm := Nat.mod_lt U hV
  have hg := h.ge (U / V) (by rw [Nat.mul_comm]; omega)
  have hge : g * V ≤ U → g ≤ U / V := fun k => (Nat.le_div_iff_mul_le hV).2 k
  have hlt := h.lt
  generalize U / V = q at *
  generalize U % V = m at *
  obtain ⟨d, rfl⟩ : ∃ d, g = q + d := ⟨g - q, by omega⟩
  have e1 : (q + d) * V = V * q + d * V := by rw [Nat.add_mul, Nat.mul_comm q]
  rw [e1] at hge hlt ⊢
  cases d with
  | zero => left; refine ⟨by omega, rfl, by omega⟩
  | succ d =>
    have e2 : (d + 1) * V = d * V + V := Nat.succ_mul _ _
    rw [e2] at hge hlt ⊢
    cases d with
    | zero => right; refine ⟨by omega, by omega, by omega, by omega⟩
    | succ d =>
      have e3 : (d + 1) * V = d * V + V := Nat.succ_mul _ _
      rw [e3] at hge hlt
      omega

/-! the subtraction, word by word. -/
structure SubRel (us vs : List Nat) (g n i c bo : Nat) (xs : List Nat) : Prop where
  len : xs.length = n + 1
  sm : Sm xs
  car : c < 4294967296
  bor : bo ≤ 1
  val : wv (xs.take i) + g * wv (vs.take i) = wv (us.take i) + 4294967296 ^ i * (c + bo)
  rest : ∀ j, i ≤ j → xs.getD j 0 = us.getD j 0
theorem sub_start {us vs : List Nat} {g n : Nat} (h : us.length = n + 1) (hs : Sm us) : SubRel us vs g n 0 0 0 us :=
  ⟨h, hs, by decide, by decide, by simp [wv], fun _ _ => rfl⟩
/-- one word. -/
theorem sub_word {g v c u bo : Nat} (hg : g < 4294967296) (hv : v < 4294967296) (hc : c < 4294967296) (hu : u < 4294967296) (hb : bo ≤ 1) :
    g * v + c < 18446744073709551616 ∧ (g * v + c) / 4294967296 < 4294967296 ∧ ∃ x bo', x < 4294967296 ∧ bo' ≤ 1 ∧ u + 4294967296 * bo' = x + (g * v + c) % 4294967296 + bo ∧ x + g * v + c + bo = u + 4294967296 * ((g * v + c) / 4294967296 + bo') ∧
      (x : Int) = ((u : Int) - ((g * v + c) % 4294967296 : Nat) - (bo : Int)) % 4294967296 ∧ (bo' : Int) = (((u : Int) - ((g * v + c) % 4294967296 : Nat) - (bo : Int)) % 18446744073709551616) / 9223372036854775808 := by
  have hp : g * v + c < 18446744073709551616 := by
    have : g * v ≤ 4294967295 * 4294967295 := Nat.mul_le_mul (by omega) (by omega)
    omega
  have e : ∀ x, x + g * v + c = x + (g * v + c) := fun x => Nat.add_assoc _ _ _
  simp only [e]
  generalize g * v + c = p at *
  refine ⟨hp, by omega, ?_⟩
  by_cases k : p % 4294967296 + bo ≤ u
  · exact ⟨u - (p % 4294967296 + bo), 0, by omega, by omega, by omega, by omega, by omega, by omega⟩
  · exact ⟨u + 4294967296 - (p % 4294967296 + bo), 1, by omega, by omega, by omega, by omega, by omega, by omega⟩
theorem sub_step {us vs xs : List Nat} {g n i c bo x bo' : Nat} (h : SubRel us vs g n i c bo xs) (hi : i < n) (hvl : vs.length = n) (hul : us.length = n + 1) (hx : x < 4294967296) (hb : bo' ≤ 1) (hp : (g * vs.getD i 0 + c) / 4294967296 < 4294967296)
    (e : x + g * vs.getD i 0 + c + bo = us.getD i 0 + 4294967296 * ((g * vs.getD i 0 + c) / 4294967296 + bo')) :
    SubRel us vs g n (i + 1) ((g * vs.getD i 0 + c) / 4294967296) bo' (xs.set i x) := by
  have hl := h.len
  refine ⟨by rw [List.length_set]; exact hl, sm_set h.sm _ hx, hp, hb, ?_, ?_⟩
  · have i1 : i < (xs.set i x).length := by rw [List.length_set]; omega
    rw [wv_take_succ _ i i1, List.getElem_set_self, List.take_set_of_le (Nat.le_refl _), wv_take_succ vs i (by omega), wv_take_succ us i (by omega), ← gd_lt (show i < vs.length by omega), ← gd_lt (show i < us.length by omega)]
    have hv := h.val
    generalize (g * vs.getD i 0 + c) / 4294967296 = c' at *
    generalize vs.getD i 0 = v at *
    generalize us.getD i 0 = u at *
    generalize wv (xs.take i) = X at *
    generalize wv (vs.take i) = Y at *
    generalize wv (us.take i) = Z at *
    rw [Nat.pow_succ]
    generalize 4294967296 ^ i = Q at *
    have e2 : Q * x + Q * (g * v) + Q * (c + bo) = Q * u + Q * 4294967296 * (c' + bo') := by
      have := congrArg (Q * ·) e
      simp only [Nat.mul_add] at this ⊢
      rw [Nat.mul_assoc, Nat.mul_assoc]
      omega
    have e3 : g * (Y + Q * v) = g * Y + Q * (g * v) := by rw [Nat.mul_add]; ac_rfl
    rw [e3]
    omega
  · intro j hj
    rw [getD_set (by omega), if_neg (by omega)]
    exact h.rest j (by omega)
/-! the way back. -/
structure AddRel (ws vs : List Nat) (n i c : Nat) (xs : List Nat) : Prop where
  len : xs.length = n + 1
  sm : Sm xs
  car : c ≤ 1
  val : wv (xs.take i) + 4294967296 ^ i * c = wv (ws.take i) + wv (vs.take i)
  rest : ∀ j, i ≤ j → xs.getD j 0 = ws.getD j 0
theorem add_start {ws vs : List Nat} {n : Nat} (h : ws.length = n + 1) (hs : Sm ws) : AddRel ws vs n 0 0 ws :=
  ⟨h, hs, by decide, by simp [wv], fun _ _ => rfl⟩
theorem add_step {ws vs xs : List Nat} {n i c : Nat} (h : AddRel ws vs n i c xs) (hs : Sm ws) (hv : Sm vs) (hi : i < n) (hvl : vs.length = n) (hwl : ws.length = n + 1) :
    AddRel ws vs n (i + 1) ((ws.getD i 0 + vs.getD i 0 + c) / 4294967296) (xs.set i ((ws.getD i 0 + vs.getD i 0 + c) % 4294967296)) := by
  have hl := h.len
  have hc := h.car
  have a := sm_getD hs i
  have b := sm_getD hv i
  refine ⟨by rw [List.length_set]; exact hl, sm_set h.sm _ (Nat.mod_lt _ (by decide)), by omega, ?_, ?_⟩
  · have i1 : i < (xs.set i ((ws.getD i 0 + vs.getD i 0 + c) % 4294967296)).length := by rw [List.length_set]; omega
    rw [wv_take_succ _ i i1, List.getElem_set_self, List.take_set_of_le (Nat.le_refl _), wv_take_succ vs i (by omega), wv_take_succ ws i (by omega), ← gd_lt (show i < vs.length by omega), ← gd_lt (show i < ws.length by omega)]
    have hv := h.val
    generalize vs.getD i 0 = v at *
    generalize ws.getD i 0 = u at *
    rw [Nat.pow_succ]
    generalize 4294967296 ^ i = Q at *
    have e2 : Q * ((u + v + c) % 4294967296) + Q * 4294967296 * ((u + v + c) / 4294967296) = Q * u + Q * v + Q * c := by
      rw [Nat.mul_assoc, ← Nat.mul_add, Nat.mod_add_div, Nat.mul_add, Nat.mul_add]
    omega
  · intro j hj
    rw [getD_set (by omega), if_neg (by omega)]
    exact h.rest j (by omega)
theorem wv_split_last {l : List Nat} {n : Nat} (h : l.length = n + 1) : wv l = wv (l.take n) + 4294967296 ^ n * l.getD n 0 := by
  have := wv_take_succ l n (by omega)
  rw [List.take_of_length_le (by omega), ← gd_lt (by omega)] at this
  exact this
theorem fig_fin1 {us vs xs : List Nat} {g n c bo : Nat} (h : SubRel us vs g n n c bo xs) (hul : us.length = n + 1) (hvl : vs.length = n) (hE : FigE (wv us) (wv vs) g) (hV : 0 < wv vs) (hge : c + bo ≤ us.getD n 0) :
    g = wv us / wv vs ∧ wv (xs.set n (us.getD n 0 - c - bo)) = wv us % wv vs := by
  have hv := h.val
  have hl := h.len
  rw [List.take_of_length_le (show vs.length ≤ n by omega)] at hv
  have e1 := wv_split_last hul
  have e2 := wv_split_last (l := xs.set n (us.getD n 0 - c - bo)) (n := n) (by rw [List.length_set]; exact hl)
  rw [List.take_set_of_le (Nat.le_refl _), getD_set (by omega), if_pos rfl] at e2
  have e3 : 4294967296 ^ n * us.getD n 0 = 4294967296 ^ n * (us.getD n 0 - c - bo) + 4294967296 ^ n * (c + bo) := by rw [← Nat.mul_add]; congr 1; omega
  rcases figE_cases hE hV with ⟨a, b, d⟩ | ⟨a, b, d, e⟩
  · exact ⟨b, by omega⟩
  · omega
theorem fig_fin2 {us vs xs ys : List Nat} {g n c bo c2 tw : Nat} (h : SubRel us vs g n n c bo xs) (hul : us.length = n + 1) (hvl : vs.length = n) (hE : FigE (wv us) (wv vs) g) (hV : 0 < wv vs) (hvs : Sm vs) (hlt : us.getD n 0 < c + bo)
    (htw : tw = (us.getD n 0 + 4294967296 - (c + bo)) % 4294967296) (k : AddRel (xs.set n tw) vs n n c2 ys) :
    0 < g ∧ g - 1 = wv us / wv vs ∧ c2 = 1 ∧ ys.getD n 0 = 4294967295 ∧ wv (ys.set n 0) = wv us % wv vs := by
  have hv := h.val
  have hl := h.len
  have hc := h.car
  have hb := h.bor
  have kv := k.val
  have kc := k.car
  have kl := k.len
  have kr := k.rest n (Nat.le_refl _)
  rw [List.take_of_length_le (show vs.length ≤ n by omega)] at hv kv
  rw [List.take_set_of_le (Nat.le_refl _)] at kv
  rw [getD_set (by omega), if_pos rfl] at kr
  have e1 := wv_split_last hul
  have s1 := wv_lt (sm_take h.sm n)
  have s2 := wv_lt (sm_take k.sm n)
  have s3 := wv_lt hvs
  rw [List.length_take, Nat.min_eq_left (by omega)] at s1 s2
  rw [hvl] at s3
  have e2 := wv_split_last (l := ys.set n 0) (n := n) (by rw [List.length_set]; exact kl)
  rw [List.take_set_of_le (Nat.le_refl _), getD_set (by omega), if_pos rfl, Nat.mul_zero, Nat.add_zero] at e2
  obtain ⟨δ, hδ⟩ : ∃ δ, c + bo = us.getD n 0 + δ := ⟨c + bo - us.getD n 0, by omega⟩
  have e3 : 4294967296 ^ n * (c + bo) = 4294967296 ^ n * us.getD n 0 + 4294967296 ^ n * δ := by rw [hδ, Nat.mul_add]
  have d1 : 1 ≤ δ := by omega
  have d2 : 4294967296 ^ n * 1 ≤ 4294967296 ^ n * δ := Nat.mul_le_mul_left _ d1
  rcases figE_cases hE hV with ⟨a, b, d⟩ | ⟨a, b, d, e⟩
  · omega
  · have hR := Nat.mod_lt (wv us) hV
    have hlt2 := hE.lt
    generalize wv us % wv vs = Rm at *
    have e5 : 4294967296 ^ n * δ + Rm = wv (ys.take n) + 4294967296 ^ n * c2 := by omega
    have e6 : δ = c2 := by
      have z1 : (4294967296 ^ n * δ + Rm) / 4294967296 ^ n = δ := by
        rw [Nat.mul_add_div (Nat.pow_pos (by decide)), Nat.div_eq_of_lt (by omega), Nat.add_zero]
      have z2 : (4294967296 ^ n * c2 + wv (ys.take n)) / 4294967296 ^ n = c2 := by
        rw [Nat.mul_add_div (Nat.pow_pos (by decide)), Nat.div_eq_of_lt s2, Nat.add_zero]
      rw [e5, Nat.add_comm, z2] at z1
      exact z1.symm
    have e7 : c2 = 1 := by omega
    subst e7
    subst e6
    refine ⟨b, d, rfl, ?_, ?_⟩
    · rw [kr, htw]; omega
    · rw [e2]; omega
end Go.Proofs.Ytcfkhhnkboealaa
