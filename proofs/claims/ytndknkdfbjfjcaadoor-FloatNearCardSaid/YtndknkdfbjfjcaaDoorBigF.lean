/- Words times a power of two. -/
import Derived.Test.YtndknkdfbjfjcaaDoorBigE
import Derived.Laws.ShiftsVarLaws
namespace Go.Proofs.YtndknkdfbjfjcaaDoor
open Go.RowKit
set_option linter.unusedVariables false
set_option linter.unusedSimpArgs false
set_option maxRecDepth 100000
set_option maxHeartbeats 4000000
theorem row_made (w : World) (n : Nat) (t : TypeId) : Row (w.alloc (.cells (madeCells #[.int .u32 0] n) t)) w.heap.size (List.replicate n 0) := by
  have := Row.made w n t; rwa [Nat.mul_one] at this
/-- what holds of the words behind i rounds. -/
structure UpRel (l : List Nat) (k s i : Nat) (xs : List Nat) : Prop where
  len : xs.length = l.length + k + 1
  sm : Sm xs
  val : wv xs = wv (l.take i) * 2 ^ (32 * k + s)
  zero : ∀ j, i + k < j → xs.getD j 0 = 0
  carry : xs.getD (i + k) 0 < 2 ^ s
theorem up_start (l : List Nat) (k s : Nat) : UpRel l k s 0 (List.replicate (l.length + k + 1) 0) :=
  ⟨by simp, sm_replicate _, by rw [wv_replicate]; simp [wv], fun j _ => getD_replicate _ _, by rw [getD_replicate]; exact Nat.two_pow_pos _⟩
theorem getD_set {l : List Nat} {i j v : Nat} (hi : i < l.length) : (l.set i v).getD j 0 = if j = i then v else l.getD j 0 := by
  by_cases h : j = i
  · subst h; rw [if_pos rfl, gd_lt (by rw [List.length_set]; exact hi), List.getElem_set_self]
  · rw [if_neg h]
    by_cases h2 : j < l.length
    · rw [gd_lt (by rw [List.length_set]; exact h2), gd_lt h2, List.getElem_set_ne (fun e => h e.symm)]
    · rw [gd_ge (by rw [List.length_set]; omega), gd_ge (by omega)]
theorem low_mul (x s : Nat) (hs : s ≤ 32) : x * 2 ^ s % 4294967296 = x % 2 ^ (32 - s) * 2 ^ s := by
  have e : 4294967296 = 2 ^ (32 - s) * 2 ^ s := by rw [← Nat.pow_add, show 32 - s + s = 32 by omega]
  rw [e, Nat.mul_mod_mul_right]
theorem up_word {x c s : Nat} (hs : s < 32) (hx : x < 4294967296) (hc : c < 2 ^ s) : c ||| (x * 2 ^ s % 4294967296) = c + x * 2 ^ s % 4294967296 ∧ c + x * 2 ^ s % 4294967296 < 4294967296 ∧ x * 2 ^ s / 4294967296 < 2 ^ s := by
  rw [low_mul x s (by omega)]
  have e : 4294967296 = 2 ^ (32 - s) * 2 ^ s := by rw [← Nat.pow_add, show 32 - s + s = 32 by omega]
  have hm : x % 2 ^ (32 - s) < 2 ^ (32 - s) := Nat.mod_lt _ (Nat.two_pow_pos _)
  refine ⟨?_, ?_, ?_⟩
  · rw [Nat.or_comm, or_two s _ _ hc]; omega
  · have h2 : (x % 2 ^ (32 - s) + 1) * 2 ^ s ≤ 2 ^ (32 - s) * 2 ^ s := Nat.mul_le_mul_right _ hm
    rw [Nat.add_mul] at h2
    omega
  · rw [Nat.div_lt_iff_lt_mul (by decide), Nat.mul_comm (2 ^ s)]
    exact Nat.mul_lt_mul_of_pos_right hx (Nat.two_pow_pos _)
theorem up_step {l xs : List Nat} {k s i x c : Nat} (h : UpRel l k s i xs) (hl : Sm l) (hs : s < 32) (hi : i < l.length) (ex : x = l.getD i 0) (ec : c = xs.getD (i + k) 0) :
    UpRel l k s (i + 1) ((xs.set (i + k) (c + x * 2 ^ s % 4294967296)).set (i + k + 1) (x * 2 ^ s / 4294967296)) := by
  have hx : x < 4294967296 := by rw [ex]; exact sm_getD hl i
  obtain ⟨w1, w2, w3⟩ := up_word (c := c) hs hx (by rw [ec]; exact h.carry)
  have hlen := h.len
  have l1 : (xs.set (i + k) (c + x * 2 ^ s % 4294967296)).length = xs.length := List.length_set ..
  have p32 : (2 : Nat) ^ s ≤ 2 ^ 31 := Nat.pow_le_pow_right (by decide) (by omega)
  have e31 : (2 : Nat) ^ 31 = 2147483648 := by decide
  refine ⟨by rw [List.length_set, l1]; exact hlen, sm_set (sm_set h.sm _ w2) _ (by omega), ?_, ?_, ?_⟩
  · have v1 := wv_set xs (i + k) (c + x * 2 ^ s % 4294967296) (by omega)
    have v2 := wv_set (xs.set (i + k) (c + x * 2 ^ s % 4294967296)) (i + k + 1) (x * 2 ^ s / 4294967296) (by omega)
    have g1 : (xs.set (i + k) (c + x * 2 ^ s % 4294967296))[i + k + 1]'(by omega) = 0 := by
      have := h.zero (i + k + 1) (by omega)
      rw [← gd_lt (by omega), getD_set (by omega), if_neg (by omega)]; exact this
    have g2 : xs[i + k]'(by omega) = c := (gd_lt (by omega)).symm.trans ec.symm
    rw [g1, Nat.mul_zero, Nat.add_zero] at v2
    rw [g2] at v1
    have e1 := Nat.div_add_mod (x * 2 ^ s) 4294967296
    have e2 : wv (l.take (i + 1)) = wv (l.take i) + 4294967296 ^ i * x := by rw [wv_take_succ l i hi, ex, gd_lt hi]
    rw [v2, e2, Nat.add_mul, ← h.val]
    have e3 : 4294967296 ^ i * x * 2 ^ (32 * k + s) = 4294967296 ^ (i + k) * (x * 2 ^ s) := by
      rw [Nat.pow_add 2, ← pow32, Nat.pow_add 4294967296]; ac_rfl
    have e4 : 4294967296 ^ (i + k + 1) * (x * 2 ^ s / 4294967296) = 4294967296 ^ (i + k) * (4294967296 * (x * 2 ^ s / 4294967296)) := by rw [Nat.pow_succ]; ac_rfl
    rw [e3, e4]
    rw [Nat.mul_add] at v1
    have e5 : 4294967296 ^ (i + k) * (x * 2 ^ s) = 4294967296 ^ (i + k) * (4294967296 * (x * 2 ^ s / 4294967296)) + 4294967296 ^ (i + k) * (x * 2 ^ s % 4294967296) := by rw [← Nat.mul_add, e1]
    omega
  · intro j hj
    rw [getD_set (by omega), if_neg (by omega), getD_set (by omega), if_neg (by omega)]
    exact h.zero j (by omega)
  · rw [show i + 1 + k = i + k + 1 by omega, getD_set (by omega), if_pos rfl]; exact w3
theorem bits_or_u32n (a b : Nat) (ha : a < 4294967296) (hb : b < 4294967296) : bits .or .u32 (a : Int) (b : Int) = ((a ||| b : Nat) : Int) := by
  have hx : a ||| b < 2 ^ 32 := Nat.or_lt_two_pow (by omega) (by omega)
  have h1 : (BitVec.ofInt 32 (a : Int)).toNat = a := by
    rw [BitVec.ofInt_natCast, BitVec.toNat_ofNat]; exact Nat.mod_eq_of_lt (by omega)
  have h2 : (BitVec.ofInt 32 (b : Int)).toNat = b := by
    rw [BitVec.ofInt_natCast, BitVec.toNat_ofNat]; exact Nat.mod_eq_of_lt (by omega)
  show IntKind.u32.wrap ((BitVec.ofInt 32 (a : Int) ||| BitVec.ofInt 32 (b : Int)).toNat : Int) = _
  rw [BitVec.toNat_or, h1, h2, wrap_u32b]
  omega
theorem shl_word {x s : Nat} (hx : x < 4294967296) (hs : s < 32) : IntKind.u64.wrap ((x : Int) * 2 ^ s) = ((x * 2 ^ s : Nat) : Int) := by
  have e : (x : Int) * 2 ^ s = ((x * 2 ^ s : Nat) : Int) := by rw [Int.natCast_mul, Int.natCast_pow]; rfl
  have p : (2 : Nat) ^ s ≤ 2 ^ 31 := Nat.pow_le_pow_right (by decide) (by omega)
  have b : x * 2 ^ s ≤ 4294967295 * 2 ^ 31 := Nat.mul_le_mul (by omega) p
  rw [e, IntKind.wrap_u64]
  have : (4294967295 : Nat) * 2 ^ 31 = 9223372034707292160 := by decide
  omega
theorem up_vals {x c s : Nat} (hx : x < 4294967296) (hs : s < 32) (hc : c < 2 ^ s) :
    bits .or .u32 (c : Int) (IntKind.u64.wrap ((x : Int) * 2 ^ s) % 4294967296) = ((c + x * 2 ^ s % 4294967296 : Nat) : Int) ∧ IntKind.u64.wrap ((x : Int) * 2 ^ s) / 4294967296 % 4294967296 = ((x * 2 ^ s / 4294967296 : Nat) : Int) := by
  obtain ⟨w1, w2, w3⟩ := up_word hs hx hc
  have p : (2 : Nat) ^ s ≤ 2 ^ 31 := Nat.pow_le_pow_right (by decide) (by omega)
  have e31 : (2 : Nat) ^ 31 = 2147483648 := by decide
  rw [shl_word hx hs]
  constructor
  · rw [show ((x * 2 ^ s : Nat) : Int) % 4294967296 = ((x * 2 ^ s % 4294967296 : Nat) : Int) by omega, bits_or_u32n _ _ (by omega) (by omega), w1]
  · omega
theorem up_core {b off cap : Nat} {l : List Nat} {w : World} (n k s : Nat) (hn : n = 32 * k + s) (hs : s < 32) (hk : k ≤ 100000) (hl : Sm l) (h0 : 0 < l.length) (hc1 : l.length ≤ cap) (hc2 : cap ≤ 1000000000) (hl9 : l.length ≤ 1000000)
    (hb : b < w.heap.size) (hc : ∀ j, j < l.length → w.cell? ⟨b, off + j, none⟩ = some (.int .u32 ((l.getD j 0 : Nat) : Int))) :
    Calls Tryd.prog 120 #[.slice (some ⟨b, off, none⟩) l.length cap, .int .i64 (n : Int)] w (RetW (wv l * 2 ^ n) w) := by
  have HL := Lib.hid hl
  have HC := Lib.hid hc
  have hmk := mk_words ((l.length : Int) + (k : Int) + 1) (l.length + k + 1) (by omega) (by omega)
  have e1 : (n : Int) / 32 = (k : Int) := by omega
  have e2 : (n : Int) % 32 = (s : Int) := by omega
  have hne : ((l.length : Int) == 0) = false := by
    have : (l.length : Int) ≠ 0 := by omega
    simpa using this
  have HN := Lib.hid hn
  clear hc hl hn
  go_enter Tryd.func120, Tryd.ntmps120
  go_wp2
  go_loopw [8, 9] (fun n8 n9 wr => ∃ (i : Nat) (xs : List Nat), n8 = .int .i64 i ∧ i ≤ l.length ∧ UpRel l k s i xs ∧ Row wr w.heap.size xs ∧ Grown w wr) (fun n8 _ _ => l.length - (intOf n8).toNat)
  case atStart => exact ⟨0, List.replicate (l.length + k + 1) 0, rfl, Nat.zero_le _, up_start _ _ _, row_made _ _ _, (Grown.refl _).alloc _ _⟩
  case round =>
    obtain ⟨i, xs, rfl, hi, hR, hrow, hg⟩ := hrel
    have HR := Lib.hid hR
    have HW := Lib.hid hrow
    have HG := Lib.hid hg
    clear hR hrow hg
    by_cases hlt : i < l.length
    · have a1 := (HC.out i hlt)
      rw [← grown_cell HG.out hb] at a1
      have x1 := sm_getD HL.out i
      obtain ⟨x, ex⟩ : ∃ x, x = l.getD i 0 := ⟨_, rfl⟩
      have EX := Lib.hid ex
      rw [← ex] at a1 x1
      clear ex
      have hlen : xs.length = l.length + k + 1 := HR.out.len
      have r1 := HW.out.cell (i + k) (by omega)
      have r2 := HW.out.cell (i + k + 1) (by omega)
      have f1 : wr.frozen? ⟨w.heap.size, i + k, none⟩ = false := Row.free HG.out (Nat.le_refl _)
      have f2 : wr.frozen? ⟨w.heap.size, i + k + 1, none⟩ = false := Row.free HG.out (Nat.le_refl _)
      have c1 := HR.out.carry
      obtain ⟨c, ec⟩ : ∃ c, c = xs.getD (i + k) 0 := ⟨_, rfl⟩
      have EC := Lib.hid ec
      rw [← ec] at r1 c1
      clear ec
      have hl2 := Lib.hid hlen
      clear hlen
      go_wp2_with fail
      go_roundw
      case rel =>
        obtain ⟨v1, v2⟩ := up_vals x1 hs c1
        refine ⟨i + 1, _, by go_num, by omega, up_step HR.out HL.out hs hlt EX.out EC.out, ?_, ?_⟩
        · rw [v1, v2]
          exact (HW.out.set (by rw [hl2.out]; omega) _).set (by rw [List.length_set, hl2.out]; omega) _
        · exact (HG.out.setCell (Nat.le_refl _) _).setCell (Nat.le_refl _) _
      case measure => simp [intOf]; omega
    · have hi2 : i = l.length := by omega
      have hlen := HR.out.len
      have hcap : l.length + k + 1 ≤ 1000000000 := by omega
      have HI := Lib.hid (show IsW wr (.slice (some ⟨w.heap.size, 0, none⟩) (l.length + k + 1) (l.length + k + 1)) xs from by
        have := HW.out.isW (l.length + k + 1) (l.length + k + 1) (by omega) (by omega) hcap
        rwa [List.take_of_length_le (by omega)] at this)
      have HS := Lib.hid HR.out.sm
      have HV := Lib.hid (show wv xs = wv l * 2 ^ n from by rw [HR.out.val, HN.out, List.take_of_length_le (by omega)])
      clear hlen
      go_wp2_with (go_at_call 142; refine (trim_c HI.out HS.out).mono ?_; rw [HV.out]; rintro e w' ⟨v', n', rfl, hv, rfl⟩)
      go_ret
      exact ⟨_, rfl, hv, gr_drewN _ HG.out⟩
theorem upW_c {v : Value} {A : Nat} {w : World} (n : Nat) (h : IsW w v (digs A)) (hn : n ≤ 100000) (hA : (digs A).length ≤ 1000000) : Calls Tryd.prog 120 #[v, .int .i64 (n : Int)] w (RetW (A * 2 ^ n) w) := by
  obtain ⟨s, cap, rfl, hc1, hc2, hcell⟩ := h
  by_cases h0 : A = 0
  · subst h0
    have HI : RowKit.Hid (IsW w (.slice none 0 0) (digs (0 * 2 ^ n))) := Lib.hid (by rw [Nat.zero_mul]; exact IsW.nil w)
    clear hcell
    go_enter Tryd.func120, Tryd.ntmps120
    go_wp2
    go_ret
    exact ⟨_, rfl, HI.out, Grown.refl _⟩
  · obtain ⟨b, off, rfl, hb, hc⟩ := hcell (mt digs_nil.1 h0)
    have := up_core n (n / 32) (n % 32) (by omega) (Nat.mod_lt _ (by decide)) (by omega) (digs_sm A) (digs_len_pos h0) hc1 hc2 hA hb hc
    rwa [wv_digs] at this
end Go.Proofs.YtndknkdfbjfjcaaDoor
