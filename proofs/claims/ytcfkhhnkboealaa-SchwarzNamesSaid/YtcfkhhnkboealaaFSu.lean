/- The document's sum and what it lost: by fractions; it is the program's. -/
import Derived.Test.YtcfkhhnkboealaaFLo
import Derived.ProofKit
import Derived.WideKeyArgs
import Derived.Laws.AppendOwn
import Derived.Maps.AppendAt
import Derived.OwnWalk
import Derived.SizedLaws
namespace Go.Proofs.Ytcfkhhnkboealaa
open Go.RowKit
set_option linter.unusedVariables false
set_option linter.unusedSimpArgs false
set_option maxRecDepth 100000
set_option maxHeartbeats 4000000
theorem UUU : U * U * U = 2 ^ (3 * e1) := by
  rw [U_pow, ← Nat.pow_add, ← Nat.pow_add, show e1 + e1 + e1 = 3 * e1 by omega]
theorem loss_frac {a b s e : Int} (he : a + b - s = e) : (a * U + b * U) * (U : Nat) + (-s) * ((U * U : Nat)) = e * ((U * U : Nat) : Int) := by
  rw [← he, Int.natCast_mul]; grind
theorem loss_float {e : Int} : (if e * ((U * U : Nat) : Int) = 0 then 0 else wd (decide (e * ((U * U : Nat) : Int) < 0)) (rndE (e * ((U * U : Nat) : Int)).natAbs (1074 - ((3 * e1 : Nat) : Int)))) = (if e = 0 then 0 else wd (decide (e < 0)) (rndN e.natAbs)) := by
  have hp : (0 : Int) < ((U * U : Nat) : Int) := by exact_mod_cast Nat.mul_pos U_pos U_pos
  have h1 : e * ((U * U : Nat) : Int) = 0 ↔ e = 0 := by
    constructor
    · intro h; rcases Int.mul_eq_zero.1 h with h | h
      · exact h
      · omega
    · intro h; rw [h, Int.zero_mul]
  have h2 : e * ((U * U : Nat) : Int) < 0 ↔ e < 0 := by
    constructor
    · intro h
      rcases Int.lt_or_le e 0 with k | k
      · exact k
      · have := Int.mul_nonneg k (Int.le_of_lt hp); omega
    · intro h; exact Int.mul_neg_of_neg_of_pos h hp
  simp only [h1, h2]
  have h3 : (e * ((U * U : Nat) : Int)).natAbs = e.natAbs * 2 ^ (e1 + e1) := by rw [Int.natAbs_mul, Int.natAbs_natCast, U_pow, Nat.pow_add]
  rw [h3, rndE_shift, show (1074 : Int) - ((3 * e1 : Nat) : Int) + ((e1 + e1 : Nat) : Int) = ((0 : Nat) : Int) by rw [e1_eq]; decide, rndE_nat, Nat.pow_zero, Nat.mul_one]
def RetFFG (f g : Nat) (w : World) (e : Ending) (w' : World) : Prop := ∃ r s, e = .returned (.tuple #[.float .f64 r, .float .f64 s]) ∧ Rep r f ∧ Rep s g ∧ Grown w w'
theorem refExact_c {x y f g : Nat} (hx : Rep x f) (hy : Rep y g) (w : World) : Calls Try.prog 15 #[.float .f64 x, .float .f64 y] w (RetFFG (fadd f g) (lostF f g) w) := by
  have hlx := hx.flt
  have hly := hy.flt
  have hadd := fun w => hx.add hy (w := w)
  have HADD := Lib.hid hadd
  clear hadd
  cases hs : fin (fadd f g)
  · have h0 : lostF f g = 0 := by unfold lostF; rw [hs]; rfl
    rw [h0]
    have HS := Lib.hid hs
    clear hs h0
    go_enter Try.func15, Try.ntmps15
    go_wp2_with (first
      | (go_at_call 89; (with_reducible refine (refFinite_c (HADD.out _) _).mono ?_); rw [HS.out]; rintro e w' ⟨n, rfl, rfl⟩)
      | fail)
    go_ret2
    exact ⟨_, _, rfl, HADD.out _, Rep.c0, gr_drewN _ (Grown.refl w)⟩
  · obtain ⟨hf, hg⟩ := fadd_notN_finite hs
    obtain rfl := hx.eq_of (fin_notN hf)
    obtain rfl := hy.eq_of (fin_notN hg)
    obtain ⟨q1, q2, q3, q4⟩ := lost_val hlx hly hs
    have lls := fadd_lt x y
    rw [← q2] at q3
    have HQ3 := Lib.hid q3
    obtain ⟨l, el⟩ : ∃ l, lostF x y = l := ⟨_, rfl⟩
    rw [el] at q1 q2 HQ3 ⊢
    obtain ⟨s, es⟩ : ∃ s, fadd x y = s := ⟨_, rfl⟩
    rw [es] at hs q2 lls HADD ⊢
    have HN := Lib.hid (loss_frac q2.symm)
    have HS := Lib.hid hs
    have HNS := Lib.hid (fin_notN hs)
    have hrs : Rep s s := Rep.self lls (nrm_of_not (fin_notN hs))
    have HA := Lib.hid (And.intro (digs_sval hf) (And.intro (digs_sval hg) (digs_sval hs)))
    have HA2 := Lib.hid (digs_sum2 hf hg)
    have HU := Lib.hid (And.intro digs_U digs_UU)
    have HLN : RowKit.Hid ((digs (sval l * ((U * U : Nat) : Int)).natAbs).length ≤ 500) := Lib.hid (Nat.le_trans (digs_len_imul _ _) (by have := digs_sval q1; have := digs_UU; omega))
    have HLL := Lib.hid (And.intro (And.intro hlx hf) (And.intro (And.intro hly hg) (And.intro lls hs)))
    clear q1 q2 q3 q4 hs hf hg es el lls hlx hly
    go_enter Try.func15, Try.ntmps15
    go_upto_region 4 with (first
      | (go_at_call 89; (with_reducible refine (refFinite_c (HADD.out _) _).mono ?_); rw [HS.out]; rintro e w' ⟨n, rfl, rfl⟩)
      | fail)
    generalize eW : w.drewN _ = W
    have HG0 : RowKit.Hid (Grown w W) := Lib.hid (by rw [← eW]; exact gr_drewN _ (Grown.refl w))
    clear eW
    rw [(HADD.out w).eq_of HNS.out]
    have HZW := Lib.hid (ratNew (Grown.refl W) 40)
    have HF0 := Lib.hid (show Grown W (W.alloc (.cells #[.bool false, .slice none 0 0, .slice none 0 0] 40)) from (Grown.refl W).alloc _ _)
    have hne : (W.alloc (.cells #[.bool false, .slice none 0 0, .slice none 0 0] 40)).heap.size = W.heap.size + 1 := size_alloc _ _
    go_upto_region 5 with (first
      | (go_at_call 90; go_loud ((with_reducible refine (rsetf_c HZW.out HLL.out.1.1 HLL.out.1.2).mono ?_); rintro e W1 ⟨w1, hg1, rfl, hr, hg⟩; have HR1 := Lib.hid hr; have HG1 := Lib.hid (hg.grown (gr_trans HF0.out hg1) (Nat.le_refl _)); clear hr hg hg1))
      | fail)
    have HZ1 := Lib.hid (ratNew (Grown.refl W1) 40)
    have HF1 := Lib.hid (show Grown W1 (W1.alloc (.cells #[.bool false, .slice none 0 0, .slice none 0 0] 40)) from (Grown.refl W1).alloc _ _)
    go_upto_region 6 with (first
      | (go_at_call 90; go_loud ((with_reducible refine (rsetf_c HZ1.out HLL.out.2.1.1 HLL.out.2.1.2).mono ?_); rintro e W2 ⟨w1, hg1, rfl, hr, hg⟩; have HR2 := Lib.hid hr; have HG2 := Lib.hid (hg.grown (gr_trans HF1.out hg1) (Nat.le_refl _)); clear hr hg hg1))
      | (go_at_call 21; go_loud ((with_reducible refine (rAdd_c (HR1.out.grown HG2.out).z (HR1.out.grown HG2.out) HR2.out (Nat.le_trans HA.out.1 (by decide)) (Nat.le_trans HU.out.1 (by decide)) (Nat.le_trans HA.out.2.1 (by decide)) (Nat.le_trans HU.out.1 (by decide))).mono ?_); rintro e W3 ⟨w1, hg1, rfl, hr, hg⟩; have HR3 := Lib.hid hr; have HG3 := Lib.hid (hg.grown (gr_trans (gr_trans HG1.out HG2.out) hg1) (Nat.le_refl _)); clear hr hg hg1))
      | fail)
    have HZ3 := Lib.hid (ratNew (Grown.refl W3) 40)
    have HF3 := Lib.hid (show Grown W3 (W3.alloc (.cells #[.bool false, .slice none 0 0, .slice none 0 0] 40)) from (Grown.refl W3).alloc _ _)
    go_upto_region 7 with (first
      | (go_at_call 90; go_loud ((with_reducible refine (rsetf_c HZ3.out HLL.out.2.2.1 HLL.out.2.2.2).mono ?_); rintro e W4 ⟨w1, hg1, rfl, hr, hg⟩; have HR4 := Lib.hid hr; have HG4 := Lib.hid (hg.grown (gr_trans HF3.out hg1) (Nat.le_refl _)); clear hr hg hg1))
      | (go_at_call 45; go_loud ((with_reducible refine (rSub_c (HR3.out.grown HG4.out).z (HR3.out.grown HG4.out) HR4.out (Nat.le_trans HA2.out (by decide)) (Nat.le_trans HU.out.2 (by decide)) (Nat.le_trans HA.out.2.2 (by decide)) (Nat.le_trans HU.out.1 (by decide))).mono ?_); rw [HN.out, UUU]; rintro e W5 ⟨w1, hg1, rfl, hr, hg⟩; have HR5 := Lib.hid hr; have HG5 := Lib.hid (hg.grown (gr_trans (gr_trans HG3.out HG4.out) hg1) (Nat.le_refl _)); clear hr hg hg1))
      | fail)
    go_wp2_with (first
      | (go_at_call 91; go_loud ((with_reducible refine (rfloat_c HR5.out HLN.out (by rw [e1_eq]; decide)).mono ?_); rw [loss_float, ← HQ3.out]; rintro e W6 ⟨r, c, rfl, hr, hg⟩; have HRR := Lib.hid hr; have HG6 := Lib.hid hg; clear hr hg))
      | fail)
    go_ret2
    exact ⟨s, r, rfl, hrs, HRR.out, gr_trans HG0.out (gr_trans HG5.out HG6.out)⟩
theorem refSum_nil (a : Option Addr) (cap : Nat) (w : World) : Calls Try.prog 16 #[.slice a 0 cap] w (RetF 0 w) := by
  go_enter Try.func16, Try.ntmps16
  go_wp2
  go_ret
  exact RetF.mk0 Rep.c0
theorem refSum_c (b off len cap : Nat) (xs fs : List Nat) (w : World) (h1 : 0 < len) (hcap : len ≤ cap) (hbig : cap ≤ 9223372036854775807) (hf : fs.length = len)
    (hc : ∀ j, j < len → w.cell? ⟨b, off + j, none⟩ = some (.float .f64 (xs.getD j 0))) (hr : ∀ j, j < len → Rep (xs.getD j 0) (fs.getD j 0)) :
    Calls Try.prog 16 #[.slice (some ⟨b, off, none⟩) len cap] w (RetF (sumF fs) w) := by
  have c0 := hc 0 h1
  rw [Nat.add_zero] at c0
  have h0 : ((len : Int) == 0) = false := by rw [beq_eq_false_iff_ne]; omega
  have hlen : (0 : Int) < (len : Int) := by omega
  have HC := Lib.hid hc
  have HR := Lib.hid hr
  have HF := Lib.hid hf
  clear hc hr hf
  go_enter Try.func16, Try.ntmps16
  go_wp2
  go_loopw [3, 4] (fun s i wr => ∃ k n r : Nat, k + 1 ≤ len ∧ i = .int .i64 ((k : Int) + 1) ∧ s = .float .f64 r ∧ Rep r (sumF (fs.take (k + 1))) ∧ wr = w.drewN n) (fun _ i _ => len - (intOf i).toNat)
  case atStart => exact ⟨0, 0, _, by omega, rfl, rfl, by rw [sumF_one fs (by rw [HF.out]; omega)]; simpa [List.getD] using HR.out 0 (by omega), rfl⟩
  case round =>
    obtain ⟨k, n, r, hk, rfl, rfl, hrep, rfl⟩ := hrel
    by_cases hlt : k + 1 < len
    · have hcell := HC.out (k + 1) hlt
      have hstep := Lib.hid (sumF_take fs k (by rw [HF.out]; exact hlt))
      have hx := Lib.hid (HR.out (k + 1) hlt)
      have hk1 : ((k : Int) + 1).toNat = k + 1 := by omega
      go_wp2
      go_roundw
      case rel => exact ⟨k + 1, _, _, by omega, by go_num, rfl, by rw [hstep.out]; simpa [List.getD] using hrep.add hx.out, rfl⟩
      case measure => simp [intOf]; omega
    · have hk1 : k + 1 = len := by omega
      have HK := Lib.hid hk1
      clear hk1
      go_wp2
      go_ret
      have e : fs.take (k + 1) = fs := by rw [HK.out, ← HF.out]; exact List.take_length
      rw [e] at hrep
      exact RetF.mk _ hrep
/-- what was there is as it was (of new blocks nothing is said). -/
structure GrW (w w' : World) : Prop where
  os : w'.os = w.os
  output : w'.output = w.output
  size : w.heap.size ≤ w'.heap.size
  block : ∀ k, k < w.heap.size → w'.heap[k]? = w.heap[k]?
theorem heap_of_grown {W W' : World} (h : Grown W W') {k : Nat} (hk : k < W.heap.size) : W'.heap[k]? = W.heap[k]? := by
  have q := h.1.2.2 k hk
  cases h1 : W.heap[k]? with
  | none =>
    have : W.heap[k]? = some W.heap[k] := by simp [hk]
    rw [h1] at this; cases this
  | some o =>
    cases h2 : W'.heap[k]? with
    | none => rw [h1, h2] at q; cases o <;> simp at q
    | some o' =>
      rw [h1, h2] at q
      cases o <;> cases o' <;> simp at q ⊢
      all_goals first
        | (obtain ⟨q1, q2, q3, q4⟩ := q
           subst q1; subst q2
           refine ⟨Array.ext_getElem? fun i => q4 i, rfl, rfl⟩)
        | (try simp_all)
theorem GrW.of {w w' : World} (h : Grown w w') : GrW w w' := ⟨h.1.1, h.1.2.1, h.2.2, fun k hk => heap_of_grown h hk⟩
theorem GrW.refl (w : World) : GrW w w := GrW.of (Grown.refl w)
theorem GrW.trans {a b c : World} (h : GrW a b) (k : GrW b c) : GrW a c := ⟨k.os.trans h.os, k.output.trans h.output, Nat.le_trans h.size k.size, fun i hi => (k.block i (Nat.lt_of_lt_of_le hi h.size)).trans (h.block i hi)⟩
theorem GrW.by {w w1 w2 : World} {row : Option Nat} (h : GrW w w1) (hg : w1.grownBy w2 row) (hr : ∀ k, row = some k → w.heap.size ≤ k) : GrW w w2 :=
  ⟨hg.os.trans h.os, hg.output.trans h.output, Nat.le_trans h.size hg.size, fun k hk => (hg.block k (Nat.lt_of_lt_of_le hk h.size) (fun e => by have := hr k e.symm; omega)).trans (h.block k hk)⟩
theorem GrW.alloc {w w1 : World} (h : GrW w w1) (o : Obj) : GrW w (w1.alloc o) :=
  h.trans ⟨rfl, rfl, by rw [size_alloc]; omega, fun k hk => by show (w1.heap.push o)[k]? = _; rw [Array.getElem?_push, if_neg (by omega)]⟩
theorem GrW.cell {w w' : World} (h : GrW w w') {a : Addr} (ha : a.block < w.heap.size) : w'.cell? a = w.cell? a := World.cell?_of_block (w := w) (h.block a.block ha)
theorem GrW.drewN {w w' : World} (n : Nat) (h : GrW w w') : GrW w (w'.drewN n) := ⟨h.os, h.output, h.size, h.block⟩
theorem GrW.frame {w w' : World} (h : GrW w w') (may : MemPlace → Prop) : w.keptBut w' may := by
  refine ⟨h.os, h.output, fun i hi => ?_⟩
  rw [h.block i hi]
  split <;> simp_all
theorem grw_trod {H : Type} {enc : TypeId × Value → H} {P : Program} {t : TypeId} (hl : laidOutB P = true) (hr : P.readableRec t = true) (hrow : t < P.types.size) {W W' : World} {v : Value} {d : DataW H} {ps : List MemPlace}
    (h : DataW.Trod enc P W 0 (fun _ => true) true t v d ps) (hb : GrW W W') (hlt : ∀ x ∈ ps, x.block < W.heap.size) :
    DataW.Trod enc P W' 0 (fun b => decide (b < W.heap.size)) true t v d ps :=
  WideElems.Trod_stays hl hr hrow h (fun x hx => by
    have hp := hlt x hx
    cases x with
    | cell b o => exact World.cell?_of_block (w := W) (hb.block b hp)
    | map b => exact hb.block b hp) (fun x hx => by simpa using hlt x hx)
theorem cell_spot (w : World) (b off s : Nat) : w.cell? ⟨b, off, some s⟩ = none := by unfold World.cell?; split <;> simp
/-- floats in a row of the call's own. -/
def flts (B : Nat → Nat) (k : Nat) : List Value := (List.range k).map fun j => Value.float .f64 (B j)
theorem flts_succ (B : Nat → Nat) (k : Nat) : flts B (k + 1) = flts B k ++ [.float .f64 (B k)] := by unfold flts; rw [List.range_succ, List.map_append]; rfl
theorem flts_get (B : Nat → Nat) {k j : Nat} (h : j < k) : (flts B k)[j]? = some (.float .f64 (B j)) := by unfold flts; simp [h]
theorem infoF64 : (Try.prog.info? 25).map (fun i => (i.zero, i.size, i.bytes)) = some (some (.float .f64 0), 1, 8) := by kernel_rfl
theorem infoF64' : ∃ i, Try.prog.info? 25 = some i ∧ i.zero = some (.float .f64 0) ∧ i.size = 1 ∧ i.bytes = 8 := by
  have e := infoF64
  cases hi : Try.prog.info? 25 with
  | none => rw [hi] at e; cases e
  | some i =>
    rw [hi] at e
    simp only [Option.map_some, Option.some.injEq, Prod.mk.injEq] at e
    exact ⟨i, rfl, e.1, e.2.1, e.2.2⟩
theorem own_row {w : World} {base n : Nat} {e : TypeId} {v : Value} {xs : List Value} (h : w.ownsRow base e 1 v n xs) : (v = .slice none 0 0 ∧ n = 0) ∨ ∃ g cap, v = .slice (some ⟨g, 0, none⟩) n cap ∧ base ≤ g ∧ g < w.heap.size ∧ n ≤ cap ∧ cap ≤ maxLen ∧ ∀ j u, xs[j]? = some u → w.cell? ⟨g, j, none⟩ = some u := by
  rcases h.2 with h0 | ⟨g, cap, cur, rfl, hb, hg, hn, hm, _⟩
  · exact .inl h0
  · refine .inr ⟨g, cap, rfl, hb, (Array.getElem?_eq_some_iff.1 hg).1, hn, hm, fun j u hj => ?_⟩
    have := h.cells (g := g) rfl j u hj
    cases j <;> simpa [Addr.add] using this
theorem fb_c (n : Nat) (w : World) : Calls Try.prog 11 #[.int .u64 (n : Int)] w (fun e w' => e = .returned (.float .f64 n) ∧ w' = w) := by
  go_enter Try.func11, Try.ntmps11
  go_wp2
  go_ret
  exact ⟨rfl, rfl⟩
theorem sumR_c (b k cap : Nat) (B : Nat → Nat) (w : World) (hk : k ≤ cap) (hcap : cap ≤ 9223372036854775807) (hB : ∀ j, j < k → B j < 18446744073709551616) (hc : ∀ j, j < k → w.cell? ⟨b, j, none⟩ = some (.float .f64 (B j))) :
    Calls Try.prog 12 #[.slice (some ⟨b, 0, none⟩) k cap] w (RetF (sumF ((List.range k).map fun j => nrm (B j))) w) := by
  by_cases h0 : k = 0
  · subst h0; exact sum_nil _ _ _
  · refine sum_c b 0 k cap ((List.range k).map B) _ w (by omega) hk hcap (by simp) (fun j hj => ?_) (fun j hj => ?_)
    · rw [Nat.zero_add, hc j hj]; simp [hj]
    · have e1 : ((List.range k).map B).getD j 0 = B j := by simp [List.getD_eq_getElem?_getD, hj]
      have e2 : ((List.range k).map fun j => nrm (B j)).getD j 0 = nrm (B j) := by simp [List.getD_eq_getElem?_getD, hj]
      rw [e1, e2]
      exact ⟨hB j hj, rfl⟩
theorem refSumR_c (b k cap : Nat) (B : Nat → Nat) (w : World) (hk : k ≤ cap) (hcap : cap ≤ 9223372036854775807) (hB : ∀ j, j < k → B j < 18446744073709551616) (hc : ∀ j, j < k → w.cell? ⟨b, j, none⟩ = some (.float .f64 (B j))) :
    Calls Try.prog 16 #[.slice (some ⟨b, 0, none⟩) k cap] w (RetF (sumF ((List.range k).map fun j => nrm (B j))) w) := by
  by_cases h0 : k = 0
  · subst h0; exact refSum_nil _ _ _
  · refine refSum_c b 0 k cap ((List.range k).map B) _ w (by omega) hk hcap (by simp) (fun j hj => ?_) (fun j hj => ?_)
    · rw [Nat.zero_add, hc j hj]; simp [hj]
    · have e1 : ((List.range k).map B).getD j 0 = B j := by simp [List.getD_eq_getElem?_getD, hj]
      have e2 : ((List.range k).map fun j => nrm (B j)).getD j 0 = nrm (B j) := by simp [List.getD_eq_getElem?_getD, hj]
      rw [e1, e2]
      exact ⟨hB j hj, rfl⟩
end Go.Proofs.Ytcfkhhnkboealaa
