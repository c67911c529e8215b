/- Words by one word. -/
import Derived.Test.YtndknkdfbjfjcaaDoorBigG
namespace Go.Proofs.YtndknkdfbjfjcaaDoor
open Go.RowKit
set_option linter.unusedVariables false
set_option linter.unusedSimpArgs false
set_option maxRecDepth 100000
set_option maxHeartbeats 4000000
theorem wrap_small {Q : Nat} (h : Q < 4294967296) : IntKind.u64.wrap (Q : Int) % 4294967296 = (Q : Int) := by rw [IntKind.wrap_u64]; omega
structure DsRel (l : List Nat) (d k r : Nat) (xs : List Nat) : Prop where
  len : xs.length = l.length
  sm : Sm xs
  val : wv (xs.drop k) * d + r = wv (l.drop k)
  rest : r < d
  zero : ∀ j, j < k → xs.getD j 0 = 0
theorem ds_start (l : List Nat) (d : Nat) (hd : 0 < d) : DsRel l d l.length 0 (List.replicate l.length 0) :=
  ⟨by simp, sm_replicate _, by simp [wv], hd, fun j _ => getD_replicate _ _⟩
theorem ds_step {l xs : List Nat} {d k r x : Nat} (h : DsRel l d k r xs) (hd : d < 4294967296) (hk : 0 < k) (hkl : k ≤ l.length) (hx : x < 4294967296) (ex : x = l.getD (k - 1) 0) :
    DsRel l d (k - 1) ((r * 4294967296 + x) % d) (xs.set (k - 1) ((r * 4294967296 + x) / d)) := by
  have hr := h.rest
  have hq : (r * 4294967296 + x) / d < 4294967296 := by
    rw [Nat.div_lt_iff_lt_mul (by omega)]
    have : (r + 1) * 4294967296 ≤ d * 4294967296 := Nat.mul_le_mul_right _ hr
    rw [Nat.mul_comm 4294967296 d]
    omega
  refine ⟨by rw [List.length_set]; exact h.len, sm_set h.sm _ hq, ?_, Nat.mod_lt _ (by omega), ?_⟩
  · have hl := h.len
    have i1 : k - 1 < (xs.set (k - 1) ((r * 4294967296 + x) / d)).length := by rw [List.length_set]; omega
    rw [List.drop_eq_getElem_cons i1, List.getElem_set_self, List.drop_eq_getElem_cons (show k - 1 < l.length by omega), show k - 1 + 1 = k by omega]
    have e1 : (xs.set (k - 1) ((r * 4294967296 + x) / d)).drop k = xs.drop k := List.drop_set_of_lt (by omega)
    rw [e1]
    show ((r * 4294967296 + x) / d + 4294967296 * wv (xs.drop k)) * d + _ = l[k - 1] + 4294967296 * wv (l.drop k)
    rw [← h.val, ← gd_lt (show k - 1 < l.length by omega), ← ex, Nat.add_mul]
    have e2 := Nat.div_add_mod (r * 4294967296 + x) d
    rw [Nat.mul_comm d] at e2
    rw [Nat.mul_add, Nat.mul_assoc]
    omega
  · intro j hj
    rw [getD_set (by rw [h.len]; omega), if_neg (by omega)]
    exact h.zero j (by omega)
theorem ds_end {l xs : List Nat} {d r : Nat} (h : DsRel l d 0 r xs) : wv xs = wv l / d ∧ r = wv l % d := by
  have hv := h.val
  simp only [List.drop_zero] at hv
  have hr := h.rest
  rw [← hv, Nat.mul_comm]
  constructor
  · rw [Nat.mul_add_div (by omega), Nat.div_eq_of_lt hr, Nat.add_zero]
  · rw [Nat.mul_add_mod, Nat.mod_eq_of_lt hr]
def RetWU (A r : Nat) (w : World) (e : Ending) (w' : World) : Prop := ∃ v, e = .returned (.tuple #[v, .int .u32 (r : Int)]) ∧ IsW w' v (digs A) ∧ Grown w w'
theorem divSmall_core {b off cap d : Nat} {l : List Nat} {w : World} (hd0 : 0 < d) (hd : d < 4294967296) (hl : Sm l) (h0 : 0 < l.length) (hc1 : l.length ≤ cap) (hc2 : cap ≤ 1000000000)
    (hb : b < w.heap.size) (hc : ∀ j, j < l.length → w.cell? ⟨b, off + j, none⟩ = some (.int .u32 ((l.getD j 0 : Nat) : Int))) :
    Calls Tryd.prog 160 #[.slice (some ⟨b, off, none⟩) l.length cap, .int .u32 (d : Int)] w (RetWU (wv l / d) (wv l % d) w) := by
  have HL := Lib.hid hl
  have HC := Lib.hid hc
  have hmk := mk_words (l.length : Int) l.length rfl (by omega)
  clear hc hl
  go_enter Tryd.func160, Tryd.ntmps160
  go_wp2
  go_loopw [7, 8, 9] (fun n7 n8 n9 wr => ∃ (k r : Nat) (xs : List Nat), n8 = .int .i64 ((k : Int) - 1) ∧ n7 = .int .u64 r ∧ k ≤ l.length ∧ DsRel l d k r xs ∧ Row wr w.heap.size xs ∧ Grown w wr) (fun _ n8 _ _ => (intOf n8 + 1).toNat)
  case atStart => exact ⟨l.length, 0, List.replicate l.length 0, rfl, rfl, Nat.le_refl _, ds_start _ _ hd0, row_made _ _ _, (Grown.refl _).alloc _ _⟩
  case round =>
    obtain ⟨k, r, xs, rfl, rfl, hk, hR, hrow, hg⟩ := hrel
    have HR := Lib.hid hR
    have HW := Lib.hid hrow
    have HG := Lib.hid hg
    clear hR hrow hg
    by_cases hk0 : k = 0
    · subst hk0
      have hlen := HR.out.len
      have HI := Lib.hid (show IsW wr (.slice (some ⟨w.heap.size, 0, none⟩) l.length l.length) xs from by
        have := HW.out.isW l.length l.length (by omega) (by omega) (by omega)
        rwa [List.take_of_length_le (by omega)] at this)
      have HS := Lib.hid HR.out.sm
      obtain ⟨v1, v2⟩ := ds_end HR.out
      have HV := Lib.hid v1
      have HV2 := Lib.hid v2
      have hr := HR.out.rest
      clear hlen v1 v2
      go_wp2_with (go_at_call 142; refine (trim_c HI.out HS.out).mono ?_; rw [HV.out]; rintro e w' ⟨v', n', rfl, hv, rfl⟩)
      go_ret2
      exact ⟨_, by rw [HV2.out]; rfl, hv, gr_drewN _ HG.out⟩
    · have a1 := (HC.out (k - 1) (by omega))
      rw [← grown_cell HG.out hb] at a1
      have x1 := sm_getD HL.out (k - 1)
      obtain ⟨x, ex⟩ : ∃ x, x = l.getD (k - 1) 0 := ⟨_, rfl⟩
      have EX := Lib.hid ex
      rw [← ex] at a1 x1
      clear ex
      have hlen : xs.length = l.length := HR.out.len
      have r1 := HW.out.cell (k - 1) (by omega)
      rw [HR.out.zero (k - 1) (by omega)] at r1
      have f1 : wr.frozen? ⟨w.heap.size, k - 1, none⟩ = false := Row.free HG.out (Nat.le_refl _)
      have hl2 := Lib.hid hlen
      clear hlen
      have hr := HR.out.rest
      have ho := or_words r x (by omega) x1
      have hk1 : ((k : Int) - 1).toNat = k - 1 := by omega
      obtain ⟨T, eT⟩ : ∃ T, T = r * 4294967296 + x := ⟨_, rfl⟩
      rw [← eT] at ho
      have ET := Lib.hid eT
      have hT : T < 18446744073709551616 := by omega
      clear eT
      have q1 := Lib.hid (show (T : Int) / (d : Int) = ((T / d : Nat) : Int) from rfl)
      have q2 := Lib.hid (show (T : Int) % (d : Int) = ((T % d : Nat) : Int) from rfl)
      have hd1 : (1 : Int) ≤ (d : Int) := by omega
      have hst := ds_step HR.out hd (by omega) hk x1 EX.out
      rw [← ET.out] at hst
      have HST := Lib.hid hst
      have hq : T / d < 4294967296 := by
        rw [ET.out, Nat.div_lt_iff_lt_mul (by omega)]
        have : (r + 1) * 4294967296 ≤ d * 4294967296 := Nat.mul_le_mul_right _ hr
        rw [Nat.mul_comm 4294967296 d]
        omega
      have HQ := Lib.hid hq
      clear hst hq
      go_wp2_with fail
      go_roundw
      case rel =>
        refine ⟨k - 1, T % d, _, by congr 1; omega, ?_, by omega, HST.out, ?_, ?_⟩
        · first | rfl | (congr 1; omega) | (congr 1)
        · have e : IntKind.u64.wrap ((T : Int) / (d : Int)) % 4294967296 = ((T / d : Nat) : Int) := by rw [q1.out]; exact wrap_small HQ.out
          rw [e]
          exact HW.out.set (by rw [hl2.out]; omega) _
        · exact HG.out.setCell (Nat.le_refl _) _
      case measure => simp [intOf]; omega
theorem divSmall_c {v : Value} {A d : Nat} {w : World} (h : IsW w v (digs A)) (hA : A ≠ 0) (hd0 : 0 < d) (hd : d < 4294967296) : Calls Tryd.prog 160 #[v, .int .u32 (d : Int)] w (RetWU (A / d) (A % d) w) := by
  obtain ⟨s, cap, rfl, hc1, hc2, hcell⟩ := h
  obtain ⟨b, off, rfl, hb, hc⟩ := hcell (mt digs_nil.1 hA)
  have := divSmall_core hd0 hd (digs_sm A) (digs_len_pos hA) hc1 hc2 hb hc
  rwa [wv_digs] at this
end Go.Proofs.YtndknkdfbjfjcaaDoor
