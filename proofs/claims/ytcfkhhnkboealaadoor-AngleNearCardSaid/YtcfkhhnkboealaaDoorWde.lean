/- Whole numbers by powers of two: set, and what builds on it. Whole numbers by powers of two: a float's figures, times a power of two, and back. The document's power of two times a float, by big numbers: the float of it. -/
import Derived.Test.YtcfkhhnkboealaaDoorWdd
import Derived.Deep.RegionHeld3
import Derived.StillTailTactics
import Derived.Test.YtcfkhhnkboealaaDoorPara
namespace Go.Proofs.YtcfkhhnkboealaaDoor
open Go.RowKit
set_option linter.unusedVariables false
set_option linter.unusedSimpArgs false
set_option maxRecDepth 100000
set_option maxHeartbeats 4000000
/-- the fields of a number. -/
structure FlAt (w : World) (g : Nat) (b : Bool) (v : Value) (E most : Int) (far : Bool) : Prop where
  c0 : w.cell? ⟨g, 0, none⟩ = some (.bool b)
  c1 : w.cell? ⟨g, 1, none⟩ = some v
  c2 : w.cell? ⟨g, 2, none⟩ = some (.int .i64 E)
  c3 : w.cell? ⟨g, 3, none⟩ = some (.int .i64 most)
  c4 : w.cell? ⟨g, 4, none⟩ = some (.bool far)
  lt : g < w.heap.size
theorem FlAt.grown {w w' : World} {g : Nat} {b : Bool} {v : Value} {E most : Int} {far : Bool} (h : FlAt w g b v E most far) (k : Grown w w') : FlAt w' g b v E most far :=
  ⟨by rw [grown_cell k h.lt]; exact h.c0, by rw [grown_cell k h.lt]; exact h.c1, by rw [grown_cell k h.lt]; exact h.c2, by rw [grown_cell k h.lt]; exact h.c3, by rw [grown_cell k h.lt]; exact h.c4, Nat.lt_of_lt_of_le h.lt k.2.2⟩
theorem isW_setNe {w : World} {b off n cap g i : Nat} {l : List Nat} (x : Value) (h : IsW w (.slice (some ⟨b, off, none⟩) n cap) l) (hne : b ≠ g) : IsW (w.setCell ⟨g, i, none⟩ x) (.slice (some ⟨b, off, none⟩) n cap) l := by
  obtain ⟨s, c, e, h1, h2, h3⟩ := h
  injection e with e1 e2 e3
  subst e1; subst e2; subst e3
  refine ⟨_, _, rfl, h1, h2, fun hl => ?_⟩
  obtain ⟨b', off', e, hb, hc⟩ := h3 hl
  injection e with e
  injection e with e1 e2
  subst e1; subst e2
  refine ⟨_, _, rfl, by rw [size_setCell]; exact hb, fun j hj => ?_⟩
  rw [World.cell?_setCell_other _ _ _ _ (by intro e; injection e with e1 e2; exact hne e1.symm)]
  exact hc j hj
theorem FlAt.s0 {w : World} {g : Nat} {b : Bool} {v : Value} {E most : Int} {far : Bool} (h : FlAt w g b v E most far) (b' : Bool) : FlAt (w.setCell ⟨g, 0, none⟩ (.bool b')) g b' v E most far :=
  ⟨World.cell?_setCell_same _ _ _ h.c0, (World.cell?_setCell_other _ _ _ _ (by intro e; injection e with e1 e2; cases e2)).trans h.c1, (World.cell?_setCell_other _ _ _ _ (by intro e; injection e with e1 e2; cases e2)).trans h.c2, (World.cell?_setCell_other _ _ _ _ (by intro e; injection e with e1 e2; cases e2)).trans h.c3, (World.cell?_setCell_other _ _ _ _ (by intro e; injection e with e1 e2; cases e2)).trans h.c4, by rw [size_setCell]; exact h.lt⟩
theorem FlAt.s1 {w : World} {g : Nat} {b : Bool} {v : Value} {E most : Int} {far : Bool} (h : FlAt w g b v E most far) (v' : Value) : FlAt (w.setCell ⟨g, 1, none⟩ (v')) g b v' E most far :=
  ⟨(World.cell?_setCell_other _ _ _ _ (by intro e; injection e with e1 e2; cases e2)).trans h.c0, World.cell?_setCell_same _ _ _ h.c1, (World.cell?_setCell_other _ _ _ _ (by intro e; injection e with e1 e2; cases e2)).trans h.c2, (World.cell?_setCell_other _ _ _ _ (by intro e; injection e with e1 e2; cases e2)).trans h.c3, (World.cell?_setCell_other _ _ _ _ (by intro e; injection e with e1 e2; cases e2)).trans h.c4, by rw [size_setCell]; exact h.lt⟩
theorem FlAt.s2 {w : World} {g : Nat} {b : Bool} {v : Value} {E most : Int} {far : Bool} (h : FlAt w g b v E most far) (E' : Int) : FlAt (w.setCell ⟨g, 2, none⟩ (.int .i64 E')) g b v E' most far :=
  ⟨(World.cell?_setCell_other _ _ _ _ (by intro e; injection e with e1 e2; cases e2)).trans h.c0, (World.cell?_setCell_other _ _ _ _ (by intro e; injection e with e1 e2; cases e2)).trans h.c1, World.cell?_setCell_same _ _ _ h.c2, (World.cell?_setCell_other _ _ _ _ (by intro e; injection e with e1 e2; cases e2)).trans h.c3, (World.cell?_setCell_other _ _ _ _ (by intro e; injection e with e1 e2; cases e2)).trans h.c4, by rw [size_setCell]; exact h.lt⟩
theorem FlAt.s3 {w : World} {g : Nat} {b : Bool} {v : Value} {E most : Int} {far : Bool} (h : FlAt w g b v E most far) (most' : Int) : FlAt (w.setCell ⟨g, 3, none⟩ (.int .i64 most')) g b v E most' far :=
  ⟨(World.cell?_setCell_other _ _ _ _ (by intro e; injection e with e1 e2; cases e2)).trans h.c0, (World.cell?_setCell_other _ _ _ _ (by intro e; injection e with e1 e2; cases e2)).trans h.c1, (World.cell?_setCell_other _ _ _ _ (by intro e; injection e with e1 e2; cases e2)).trans h.c2, World.cell?_setCell_same _ _ _ h.c3, (World.cell?_setCell_other _ _ _ _ (by intro e; injection e with e1 e2; cases e2)).trans h.c4, by rw [size_setCell]; exact h.lt⟩
theorem FlAt.s4 {w : World} {g : Nat} {b : Bool} {v : Value} {E most : Int} {far : Bool} (h : FlAt w g b v E most far) (far' : Bool) : FlAt (w.setCell ⟨g, 4, none⟩ (.bool far')) g b v E most far' :=
  ⟨(World.cell?_setCell_other _ _ _ _ (by intro e; injection e with e1 e2; cases e2)).trans h.c0, (World.cell?_setCell_other _ _ _ _ (by intro e; injection e with e1 e2; cases e2)).trans h.c1, (World.cell?_setCell_other _ _ _ _ (by intro e; injection e with e1 e2; cases e2)).trans h.c2, (World.cell?_setCell_other _ _ _ _ (by intro e; injection e with e1 e2; cases e2)).trans h.c3, World.cell?_setCell_same _ _ _ h.c4, by rw [size_setCell]; exact h.lt⟩
def RetFl (g A : Nat) (below : Bool) (E : Int) (w0 w : World) (e : Ending) (w' : World) : Prop :=
  ∃ (k : Nat) (v : Value), e = .returned (.pointer (some ⟨g, 0, none⟩)) ∧ 2 ^ k ∣ A ∧ IsW w' v (digs (A / 2 ^ k)) ∧ FlAt w' g below v (E + k) 53 false ∧ Grown w0 w'
theorem fl_len {A k : Nat} (hA : A ≠ 0) (hk : 2 ^ k ∣ A) : ((((digs (A / 2 ^ k)).length : Nat) : Int) == 0) = false := by
  have h1 : A / 2 ^ k ≠ 0 := by
    intro e
    have := Nat.div_mul_cancel hk
    rw [e, Nat.zero_mul] at this
    exact hA this.symm
  have := digs_len_pos h1
  rw [beq_eq_false_iff_ne]; omega
theorem set_c {g A : Nat} {v v0 : Value} {E E0 : Int} {b0 far0 below : Bool} {w0 w : World} (hg0 : Grown w0 w) (hsz : w0.heap.size ≤ g) (hT : TabAt w0) (htab : 1 < w0.heap.size) (hz : FlAt w g b0 v0 E0 53 far0)
    (h : IsW w v (digs A)) (hA : A ≠ 0) (hbl : bl A ≤ 53) (hE1 : -1000000 ≤ E) (hE2 : E ≤ 1000000) :
    Calls Tryd.prog 59 #[.pointer (some ⟨g, 0, none⟩), .bool below, v, .int .i64 E, .bool false] w (RetFl g A below E w0 w) := by
  have H := Lib.hid h
  have HS := Lib.hid (digs_sm A)
  have HW := Lib.hid (wv_digs A)
  have hc3 := hz.c3
  obtain ⟨n, hn⟩ : ∃ n, bl A = n := ⟨_, rfl⟩
  have hn53 : n ≤ 53 := by omega
  have HN := Lib.hid hn
  have hd : decide ((0 : Int) < (n : Int) - 53) = false := decide_eq_false (by omega)
  have hf : ∀ j, w.frozen? ⟨g, j, none⟩ = false := fun j => Row.free hg0 hsz
  have HK : RowKit.Hid (∀ k : Nat, 2 ^ k ∣ A → k ≤ 53) := Lib.hid (fun k hk => by
    have h1 := Nat.le_of_dvd (Nat.pos_of_ne_zero hA) hk
    have h2 := bl_lt A
    have h3 := (Nat.pow_lt_pow_iff_right (show 1 < 2 by decide)).1 (Nat.lt_of_le_of_lt h1 h2)
    omega)
  have HA0 := Lib.hid hA
  have HG0 := Lib.hid hg0
  have HT := Lib.hid hT
  have HZ := Lib.hid hz
  have HF := Lib.hid hf
  clear hn hbl hA hg0 h hT hz hf
  go_enter Tryd.func59, Tryd.ntmps59
  go_upto_region 2 with (first
    | (go_at_call 89; (with_reducible refine (trim_c H.out HS.out).mono ?_); rw [HW.out]; rintro e w' ⟨v1, n1, rfl, hv1, rfl⟩; have HV1 := Lib.hid (isW_undrew hv1); clear hv1)
    | fail)
  go_cut [2, 11] (fun s2 s11 wx => IsW w s2 (digs A) ∧ s11 = .int .i64 ((n : Int) - 53) ∧ ∃ m, wx = w.drewN m)
  case first =>
    go_region_with (first
      | (go_at_call 90; (with_reducible refine (bitLen_c (HV1.out.drewN _)).mono ?_); rw [HN.out]; rintro e w1 ⟨n2, rfl, rfl⟩)
      | fail)
    all_goals
      go_wp2_with fail
      go_meet
      exact ⟨HV1.out, congrArg (Value.int .i64) (IntWalk.i64_in _ ⟨by omega, by omega⟩), _, by first | rfl | (rw [World.drewN_drewN])⟩
  case rest =>
    obtain ⟨hv1, rfl, m, rfl⟩ := hcut
    have HV1 := Lib.hid hv1
    clear hv1
    go_upto_region 12 with (first
      | (go_at_call 95; (with_reducible refine (zeros_c (HV1.out.drewN _) (tab_drew _ (gr_tab HG0.out HT.out htab))).mono ?_); rintro e w2 ⟨k, n3, rfl, hk, _, rfl⟩; have HKK := Lib.hid hk; have hk53 := HK.out k hk; have hl := fl_len HA0.out hk; clear hk)
      | (go_at_call 92; (with_reducible refine (downW_c k (HV1.out.drewN _) (by omega)).mono ?_); rintro e w3 ⟨v2, rfl, hv2, hg2⟩; have HV2 := Lib.hid hv2; have HG2 := Lib.hid (gr_trans (gr_drewN _ (Grown.refl w)) hg2); clear hv2 hg2)
      | (go_at_call 96; (with_reducible refine (copied_new HV2.out).mono ?_); rintro e w4 ⟨rfl, hv3, hg3, hs3⟩; have HV3 := Lib.hid hv3; have HG3 := Lib.hid (gr_trans HG2.out hg3); have HS3 := Lib.hid hs3; clear hv3 hg3 hs3; have hz4 := HZ.out.grown HG3.out; have z0 := hz4.c0; have z1 := hz4.c1; have z2 := hz4.c2; have z4 := hz4.c4; have HF4 : RowKit.Hid (∀ j, w4.frozen? ⟨g, j, none⟩ = false) := Lib.hid (fun j => Row.free (gr_trans HG0.out HG3.out) hsz); have f0 := HF4.out 0; have f1 := HF4.out 1; have f2 := HF4.out 2; have f4 := HF4.out 4; clear hz4)
      | fail)
    go_wp2_with fail
    go_ret
    have hne : w3.heap.size ≠ g := by have h1 := HZ.out.lt; have h2 := HG2.out.2.2; omega
    exact ⟨k, _, rfl, HKK.out, isW_setNe _ (isW_setNe _ (isW_setNe _ (isW_setNe _ HV3.out hne) hne) hne) hne, ((((HZ.out.grown HG3.out).s1 _).s2 _).s0 _).s4 _, ((((gr_trans HG0.out HG3.out).setCell hsz _).setCell hsz _).setCell hsz _).setCell hsz _⟩
end Go.Proofs.YtcfkhhnkboealaaDoor
namespace Go.Proofs.YtcfkhhnkboealaaDoor
open Go.RowKit
set_option linter.unusedVariables false
set_option linter.unusedSimpArgs false
set_option maxRecDepth 100000
set_option maxHeartbeats 4000000
/-- a float's figures and their power. -/
structure FlIs (f A : Nat) (E : Int) : Prop where
  ne : A ≠ 0
  bl : bl A ≤ 53
  lo : -1100 ≤ E
  hi : E ≤ 1100
  val : ∀ t, rndE A (E + 1074 + t) = rndE (mval (rung f)) t
theorem mant_bits (r : Nat) (h : r < 18446744073709551616) : bits .and .u64 (r : Int) 4503599627370495 = ((r % 4503599627370496 : Nat) : Int) := by
  have := u64_and_nat r 4503599627370495 h (by decide)
  rw [show (4503599627370495 : Nat) = 2 ^ 52 - 1 from rfl, Nat.and_two_pow_sub_one_eq_mod] at this
  exact this
theorem lead_bits (m : Nat) (h : m < 4503599627370496) : bits .or .u64 (m : Int) 4503599627370496 = ((4503599627370496 + m : Nat) : Int) := by
  have := u64_or_nat m 4503599627370496 (by omega) (by decide)
  rw [Nat.or_comm, nat_join 52 4503599627370496 m (by decide) h] at this
  exact this
theorem bl_le_of {A n : Nat} (h : A < 2 ^ n) : bl A ≤ n := by
  by_cases h0 : A = 0
  · subst h0; rw [bl_zero]; exact Nat.zero_le _
  · have h1 := bl_ge h0
    have h3 := (Nat.pow_lt_pow_iff_right (show 1 < 2 by decide)).1 (Nat.lt_of_le_of_lt h1 h)
    omega
theorem flIs_of {f m k e : Nat} (hm : m ≠ 0) (hb : m < 9007199254740992) (hk : 2 ^ k ∣ m) (hv : mval (rung f) = m * 2 ^ e) (he : e ≤ 2045) : FlIs f (m / 2 ^ k) ((e : Int) - 1074 + k) := by
  have hd := Nat.div_mul_cancel hk
  have h0 : m / 2 ^ k ≠ 0 := by intro e; rw [e, Nat.zero_mul] at hd; exact hm hd.symm
  have hk53 : k ≤ 53 := by
    have h1 := Nat.le_of_dvd (Nat.pos_of_ne_zero hm) hk
    have h3 := (Nat.pow_lt_pow_iff_right (show 1 < 2 by decide)).1 (Nat.lt_of_le_of_lt h1 (show m < 2 ^ 53 from hb))
    omega
  refine ⟨h0, bl_le_of (Nat.lt_of_le_of_lt (Nat.div_le_self _ _) hb), by omega, by omega, fun t => ?_⟩
  rw [hv, rndE_shift, ← hd, rndE_shift, hd]
  congr 1; omega
theorem flIs_shift {f A k : Nat} {E n : Int} (h : FlIs f A E) (hk : 2 ^ k ∣ A) (t : Int) : rndE (A / 2 ^ k) (E + n + k + 1074 + t) = rndE (mval (rung f)) (n + t) := by
  have hd := Nat.div_mul_cancel hk
  rw [← h.val, ← hd, rndE_shift, hd]
  congr 1; omega
def RetSF (f g : Nat) (w0 w : World) (e : Ending) (w' : World) : Prop :=
  ∃ (A : Nat) (E : Int) (v : Value), e = .returned (.pointer (some ⟨g, 0, none⟩)) ∧ FlIs f A E ∧ IsW w' v (digs A) ∧ FlAt w' g (sgn f) v E 53 false ∧ Grown w0 w'
theorem setFloat_c {g f : Nat} {v0 : Value} {E0 : Int} {b0 far0 : Bool} {w0 w : World} (hg0 : Grown w0 w) (hsz : w0.heap.size ≤ g) (hT : TabAt w0) (htab : 1 < w0.heap.size) (hz : FlAt w g b0 v0 E0 0 far0)
    (hl : f < 18446744073709551616) (hf : fin f = true) (h0 : rung f ≠ 0) :
    Calls Tryd.prog 55 #[.pointer (some ⟨g, 0, none⟩), .float .f64 f] w (RetSF f g w0 w) := by
  have hc3 := hz.c3
  have hf3 : w.frozen? ⟨g, 3, none⟩ = false := Row.free hg0 hsz
  have h1 := exp_bits f hl
  have h2 := mant_bits f hl
  have hs : (((f : Int) / 9223372036854775808) == 1) = sgn f := shr_sign f hl
  have hz2 := hz.s3 53
  have hg2 := hg0.setCell (a := ⟨g, 3, none⟩) hsz (.int .i64 53)
  have HZ := Lib.hid hz2
  have HG := Lib.hid hg2
  have HT := Lib.hid hT
  have hr : rung f / 4503599627370496 = f / 4503599627370496 % 2048 := (exp_field hl).symm
  have hm : rung f % 4503599627370496 = f % 4503599627370496 := (mant_field f).symm
  have hfr := fin_rung hf
  have hv : mval (rung f) = if rung f < 4503599627370496 then rung f else (4503599627370496 + rung f % 4503599627370496) * 2 ^ (rung f / 4503599627370496 - 1) := rfl
  obtain ⟨e, he⟩ : ∃ e, f / 4503599627370496 % 2048 = e := ⟨_, rfl⟩
  obtain ⟨m, hm2⟩ : ∃ m, f % 4503599627370496 = m := ⟨_, rfl⟩
  rw [he] at h1 hr
  rw [hm2] at h2 hm
  have hmb : m < 4503599627370496 := by omega
  have he2 : e < 2047 := by omega
  have HB1 := Lib.hid h1
  have HB2 := Lib.hid h2
  have HS := Lib.hid hs
  by_cases he0 : e = 0
  · subst he0
    have hrm : rung f = m := by omega
    have HV : RowKit.Hid (mval (rung f) = m * 2 ^ 0) := Lib.hid (by rw [hv, if_pos (by omega), hrm, Nat.pow_zero, Nat.mul_one])
    have HM0 := Lib.hid (show m ≠ 0 by omega)
    have HMB := Lib.hid hmb
    clear h1 h2 hs hr hm hfr hv he hm2 hrm hz hz2 hg0 hg2 hT hf h0 hmb he2
    go_enter Tryd.func55, Tryd.ntmps55
    go_wp2_with (first
      | (go_at_call 86; simp only [HB2.out, HS.out]; go_loud ((with_reducible refine (fromUint_c m (Nat.lt_trans HMB.out (by decide)) _).mono ?_); rintro e1 w1 ⟨v1, rfl, hv1, hg1⟩; have HV1 := Lib.hid hv1; have HG1 := Lib.hid hg1; clear hv1 hg1))
      | (go_at_call 59; go_loud ((with_reducible refine (set_c (gr_trans HG.out HG1.out) hsz HT.out htab (HZ.out.grown HG1.out) HV1.out HM0.out (bl_le_of (Nat.lt_trans HMB.out (by decide))) (by omega) (by omega)).mono ?_); rintro e2 w2 ⟨k, v2, rfl, hk, hv2, hz2, hg2⟩))
      | (simp only [HB1.out, HB2.out])
      | fail)
    go_ret
    exact ⟨m / 2 ^ k, -1074 + k, v2, rfl, by rw [show (-1074 : Int) + k = ((0 : Nat) : Int) - 1074 + k by omega]; exact flIs_of HM0.out (Nat.lt_trans HMB.out (by decide)) hk HV.out (by decide), hv2, by first | exact hz2 | (rw [← HS.out]; exact hz2), hg2⟩
  · obtain ⟨M, hM⟩ : ∃ M, 4503599627370496 + m = M := ⟨_, rfl⟩
    have HV : RowKit.Hid (mval (rung f) = M * 2 ^ (e - 1)) := Lib.hid (by rw [hv, if_neg (by omega), hm, hr, hM])
    have HMB := Lib.hid hmb
    have HB3 : RowKit.Hid (bits .or .u64 (m : Int) 4503599627370496 = (M : Int)) := Lib.hid (by rw [lead_bits m hmb, hM])
    have HMM := Lib.hid (show 4503599627370496 ≤ M ∧ M < 9007199254740992 by omega)
    have HE2 := Lib.hid he2
    have g1 : ((e : Int) == 2047) = false := by rw [beq_eq_false_iff_ne]; omega
    have g2 : (0 : Int) < (e : Int) := by omega
    have g3 : (e : Int) ≤ 2046 := by omega
    clear h1 h2 hs hr hm hfr hv he hm2 hz hz2 hg0 hg2 hT hf h0 hmb he2 he0 hM
    go_enter Tryd.func55, Tryd.ntmps55
    go_wp2_with (first
      | (go_at_call 86; simp only [HB2.out, HB3.out, HS.out]; go_loud ((with_reducible refine (fromUint_c M (Nat.lt_trans HMM.out.2 (by decide)) _).mono ?_); rintro e1 w1 ⟨v1, rfl, hv1, hg1⟩; have HV1 := Lib.hid hv1; have HG1 := Lib.hid hg1; clear hv1 hg1))
      | (go_at_call 59; go_loud ((with_reducible refine (set_c (gr_trans HG.out HG1.out) hsz HT.out htab (HZ.out.grown HG1.out) HV1.out (by have := HMM.out; omega) (bl_le_of (show M < 2 ^ 53 from HMM.out.2)) (by omega) (by omega)).mono ?_); rintro e2 w2 ⟨k, v2, rfl, hk, hv2, hz2, hg2⟩))
      | (simp only [HB1.out, HB2.out, HB3.out])
      | fail)
    go_ret
    exact ⟨M / 2 ^ k, (e : Int) - 1075 + k, v2, rfl, by rw [show (e : Int) - 1075 + k = ((e - 1 : Nat) : Int) - 1074 + k by omega]; exact flIs_of (by have := HMM.out; omega) HMM.out.2 hk HV.out (by have := HE2.out; omega), hv2, by first | exact hz2 | (rw [← HS.out]; exact hz2), hg2⟩
theorem wide_c {g : Nat} {b far : Bool} {v : Value} {E : Int} {w : World} (hz : FlAt w g b v E 53 far) : Calls Tryd.prog 56 #[.pointer (some ⟨g, 0, none⟩), .pointer (some ⟨g, 0, none⟩), .pointer (some ⟨g, 0, none⟩)] w (fun e w' => e = .returned (.tuple #[]) ∧ w' = w) := by
  have hc3 := hz.c3
  clear hz
  go_enter Tryd.func56, Tryd.ntmps56
  go_wp2_with fail
  go_end0
  exact ⟨rfl, rfl⟩
theorem setMant_c {g A : Nat} {v : Value} {E n : Int} {b : Bool} {w0 w : World} (hg0 : Grown w0 w) (hsz : w0.heap.size ≤ g) (hT : TabAt w0) (htab : 1 < w0.heap.size) (hz : FlAt w g b v E 53 false)
    (h : IsW w v (digs A)) (hA : A ≠ 0) (hbl : bl A ≤ 53) (hE1 : -100000 ≤ E) (hE2 : E ≤ 100000) (hn1 : -100000 ≤ n) (hn2 : n ≤ 100000) :
    Calls Tryd.prog 28 #[.pointer (some ⟨g, 0, none⟩), .pointer (some ⟨g, 0, none⟩), .int .i64 n] w (RetFl g A b (E + n) w0 w) := by
  have hc0 := hz.c0
  have hc1 := hz.c1
  have hc2 := hz.c2
  have hc4 := hz.c4
  have HZ := Lib.hid hz
  have HG := Lib.hid hg0
  have HT := Lib.hid hT
  have H := Lib.hid h
  have HA := Lib.hid hA
  have HB := Lib.hid hbl
  clear hz hg0 hT h hA hbl
  go_enter Tryd.func28, Tryd.ntmps28
  go_upto_region 2 with (first
    | (go_at_call 56; go_loud ((with_reducible refine (wide_c HZ.out).mono ?_); rintro e1 w1 ⟨rfl, rfl⟩))
    | fail)
  go_still_tail 19, (by kernel_rfl)
  change wpList _ _ _ _ _ w1.drew
  have HGd := Lib.hid (gr_drew1 HG.out)
  have HZd := Lib.hid (HZ.out.grown (gr_drew1 (Grown.refl _)))
  have Hd := Lib.hid (H.out.grown (gr_drew1 (Grown.refl w1)))
  generalize w1.drew = w2 at *
  go_wp2_with (first
    | (go_at_call 59; go_loud ((with_reducible refine (set_c HGd.out hsz HT.out htab HZd.out Hd.out HA.out HB.out (by omega) (by omega)).mono ?_); rintro e2 w3 ⟨k, v2, rfl, h2⟩))
    | fail)
  go_ret
  exact ⟨k, v2, rfl, h2⟩
theorem digs_len_pow {A k m : Nat} (h : bl A + k ≤ 32 * m) : (digs (A * 2 ^ k)).length ≤ m := by
  apply digs_len_le
  rw [show (4294967296 : Nat) = 2 ^ 32 by decide, ← Nat.pow_mul]
  exact Nat.lt_of_lt_of_le (Nat.mul_lt_mul_of_pos_right (bl_lt A) (Nat.two_pow_pos k)) (by rw [← Nat.pow_add]; exact Nat.pow_le_pow_right (by decide) h)
theorem sgn_ite {b : Bool} {x : Nat} (h : x ≤ 9218868437227405312) : (if b = true then fneg x else x) = wd b x := by
  have h1 := wd_neg (s := false) h
  rw [wd_false', Bool.not_false] at h1
  cases b
  · rw [wd_false', if_neg (by decide)]
  · rw [if_pos rfl, h1]
/-- hands back a float and a whole number; the world has grown. -/
def RetFG2 (f : Nat) (w : World) (e : Ending) (w' : World) : Prop := ∃ r, e = .returned (.tuple #[.float .f64 r, .int .i64 0]) ∧ Rep r f ∧ Grown w w'
theorem float64_c {g A : Nat} {v : Value} {E : Int} {b : Bool} {w0 w : World} (hz : FlAt w g b v E 53 false) (h : IsW w v (digs A)) (hA : A ≠ 0) (hbl : bl A ≤ 53) (hE1 : -10000 ≤ E) (hE2 : E ≤ 10000) :
    Calls Tryd.prog 40 #[.pointer (some ⟨g, 0, none⟩)] w (RetFG2 (wd b (rndE A (E + 1074))) w) := by
  have hc0 := hz.c0
  have hc1 := hz.c1
  have hc2 := hz.c2
  have hc4 := hz.c4
  have HZ := Lib.hid hz
  have H := Lib.hid h
  have HA := Lib.hid hA
  obtain ⟨P, hP⟩ : ∃ P : Nat, (if E < 0 then (0 : Int) else E) = (P : Int) := ⟨E.toNat, by split <;> omega⟩
  obtain ⟨Q, hQ⟩ : ∃ Q : Nat, (if -E < 0 then (0 : Int) else -E) = (Q : Int) := ⟨(-E).toNat, by split <;> omega⟩
  have hPQ : (P : Int) - (Q : Int) = E := by rw [← hP, ← hQ]; split <;> split <;> omega
  have hP2 : P ≤ 10000 := by have : (P : Int) ≤ 10000 := by rw [← hP]; split <;> omega
                             omega
  have hQ2 : Q ≤ 10000 := by have : (Q : Int) ≤ 10000 := by rw [← hQ]; split <;> omega
                             omega
  have hP2' : P ≤ 100000 := by omega
  have hQ2' : Q ≤ 100000 := by omega
  have HP := Lib.hid hP
  have HQ := Lib.hid hQ
  have hl1 : (digs A).length ≤ 1000000 := Nat.le_trans (by have := digs_len_pow (A := A) (k := 0) (m := 2) (by omega); rwa [Nat.pow_zero, Nat.mul_one] at this) (show 2 ≤ 1000000 by decide)
  have hl2 : (digs (A * 2 ^ P)).length ≤ 500 := Nat.le_trans (digs_len_pow (A := A) (k := P) (m := 400) (by omega)) (by decide)
  have hl3 : (digs (1 * 2 ^ Q)).length ≤ 500 := Nat.le_trans (digs_len_pow (A := 1) (k := Q) (m := 400) (by have : bl 1 = 1 := rfl; omega)) (by decide)
  have hA2 : A * 2 ^ P ≠ 0 := Nat.mul_ne_zero hA (Nat.ne_of_gt (Nat.two_pow_pos _))
  have hD2 : 1 * 2 ^ Q ≠ 0 := Nat.mul_ne_zero (by decide) (Nat.ne_of_gt (Nat.two_pow_pos _))
  have HR : RowKit.Hid (scaleF (ofInt (nrN (A * 2 ^ P) (1 * 2 ^ Q))) (nrV (A * 2 ^ P) (1 * 2 ^ Q)) = rndE A (E + 1074)) := Lib.hid (by
    rw [scale_ofInt (nrN_le hA2 hD2), Nat.one_mul]
    obtain ⟨k, hk, hk2⟩ := near_pow (j := Q) hA2
    rw [hk, hk2, rndE_shift]
    congr 1; omega)
  have HL1 := Lib.hid hl1
  have HL2 := Lib.hid hl2
  have HL3 := Lib.hid hl3
  have HA2 := Lib.hid hA2
  have HD2 := Lib.hid hD2
  have hw : IntKind.i64.wrap (-E) = -E := IntWalk.i64_in (-E) ⟨by omega, by omega⟩
  have hQ3 : (if 0 < E then (0 : Int) else -E) = (Q : Int) := by rw [← hQ]; split <;> split <;> omega
  have HQ3 := Lib.hid hQ3
  clear hz h hA hbl hPQ hl1 hl2 hl3 hA2 hD2
  go_enter Tryd.func40, Tryd.ntmps40
  go_upto_region 4 with fail
  have hs0 := HZ.out.grown ((Grown.refl w).alloc #[.int .u32 1] 71)
  have d0 := hs0.c0
  have d1 := hs0.c1
  have d2 := hs0.c2
  have HG0 := Lib.hid (gr_drew1 ((Grown.refl w).alloc #[.int .u32 1] 71))
  have HD1 : RowKit.Hid (IsW (w.alloc (.cells #[.int .u32 1] 71)).drew (.slice (some ⟨w.heap.size, 0, none⟩) 1 1) (digs 1)) := Lib.hid ((isW_new1 w 1 71).grown (gr_drew1 (Grown.refl _)))
  clear hs0
  go_region_held3 (fun w' => w'.cell? ⟨g, 0, none⟩ = some (.bool b) ∧ w'.cell? ⟨g, 1, none⟩ = some v ∧ w'.cell? ⟨g, 2, none⟩ = some (.int .i64 E)) (first | exact ⟨by assumption, by assumption, by assumption⟩ | go_keep) (first
    | (go_at_call_of 80 v; (try rw [HP.out]); ((with_reducible refine (upW_c P (H.out.grown HG0.out) hP2' HL1.out).mono ?_); rintro e w2 ⟨va, rfl, hva, hga⟩; have HVA := Lib.hid hva; have HGA := Lib.hid hga; have hs2 := HZ.out.grown (gr_trans HG0.out hga); have q0 := hs2.c0; have q1 := hs2.c1; have q2 := hs2.c2; clear hs2 hva hga))
    | (go_at_call 80; (try rw [IntWalk.i64_in (-E) ⟨by omega, by omega⟩]); (try rw [HQ.out]); (try rw [HQ3.out]); ((with_reducible refine (upW_c Q (HD1.out.grown HGA.out) hQ2' (by decide)).mono ?_); rintro e w3 ⟨vb, rfl, hvb, hgb⟩; have HVB := Lib.hid hvb; have HGB := Lib.hid hgb; have hs3 := HZ.out.grown (gr_trans (gr_trans HG0.out HGA.out) hgb); have p0 := hs3.c0; have p1 := hs3.c1; have p2 := hs3.c2; clear hs3 hvb hgb))
    | (go_at_call 79; ((with_reducible refine (nearest_c b (HVA.out.grown HGB.out) HVB.out HA2.out HD2.out HL2.out HL3.out).mono ?_); rintro e w4 ⟨r, c, rfl, hr, hgc⟩; have HRr := Lib.hid hr; have HGC := Lib.hid (gr_trans (gr_trans (gr_trans HG0.out HGA.out) HGB.out) hgc); have hs4 := HZ.out.grown HGC.out; have o0 := hs4.c0; have o1 := hs4.c1; have o2 := hs4.c2; clear hs4 hr hgc))
    | fail)
  all_goals
    go_wp2_with fail
    go_ret2
    refine ⟨r, rfl, ?_, HGC.out⟩
    have hr := HRr.out
    rw [HR.out] at hr
    rw [← sgn_ite (rndE_le A (E + 1074))]; exact hr
end Go.Proofs.YtcfkhhnkboealaaDoor
namespace Go.Proofs.YtcfkhhnkboealaaDoor
open Go.RowKit
set_option linter.unusedVariables false
set_option linter.unusedSimpArgs false
set_option maxRecDepth 100000
set_option maxHeartbeats 4000000
/-- hands back a float; the world has grown. -/
def RetFG (f : Nat) (w : World) (e : Ending) (w' : World) : Prop := ∃ r, e = .returned (.float .f64 r) ∧ Rep r f ∧ Grown w w'
theorem flNew (w : World) (t : TypeId) : FlAt (w.alloc (.cells #[.bool false, .slice none 0 0, .int .i64 0, .int .i64 0, .bool false] t)) w.heap.size false (.slice none 0 0) 0 0 false :=
  ⟨World.cell?_alloc_new .., World.cell?_alloc_new .., World.cell?_alloc_new .., World.cell?_alloc_new .., World.cell?_alloc_new .., by rw [size_alloc]; exact Nat.lt_succ_self _⟩
theorem clamp_min (n : Int) : (if -5000 < (if n < 5000 then n else 5000) then (if n < 5000 then n else 5000) else -5000) = clampN n := rfl
theorem clamp_bd (n : Int) : -5000 ≤ clampN n ∧ clampN n ≤ 5000 := by unfold clampN; split <;> split <;> omega
theorem div_ok {A k : Nat} (hA : A ≠ 0) (hb : bl A ≤ 53) (hk : 2 ^ k ∣ A) : A / 2 ^ k ≠ 0 ∧ bl (A / 2 ^ k) ≤ 53 ∧ k ≤ 53 := by
  have hd := Nat.div_mul_cancel hk
  have hlt := Nat.lt_of_lt_of_le (bl_lt A) (Nat.pow_le_pow_right (show 0 < 2 by decide) hb)
  refine ⟨fun e => ?_, bl_le_of (Nat.lt_of_le_of_lt (Nat.div_le_self _ _) hlt), ?_⟩
  · rw [e, Nat.zero_mul] at hd; exact hA hd.symm
  · have h1 := Nat.le_of_dvd (Nat.pos_of_ne_zero hA) hk
    have h3 := (Nat.pow_lt_pow_iff_right (show 1 < 2 by decide)).1 (Nat.lt_of_le_of_lt h1 hlt)
    omega
end Go.Proofs.YtcfkhhnkboealaaDoor
