/- Whole numbers by powers of two: set, and what builds on it. -/
import Derived.Test.YtndknkdfbjfjcaaDoorBigV
namespace Go.Proofs.YtndknkdfbjfjcaaDoor
open Go.RowKit
set_option linter.unusedVariables false
set_option linter.unusedSimpArgs false
set_option maxRecDepth 100000
set_option maxHeartbeats 4000000
/-- the fields of a number. -/
structure FlAt (w : World) (g : Nat) (b : Bool) (v : Value) (E most : Int) (far : Bool) : Prop where
  c0 : w.cell? ⟨g, 0, none⟩ = some (.bool b)
  c1 : w.cell? ⟨g, 1, none⟩ = some v
  c2 : w.cell? ⟨g, 2, none⟩ = some (.int .i64 E)
  c3 : w.cell? ⟨g, 3, none⟩ = some (.int .i64 most)
  c4 : w.cell? ⟨g, 4, none⟩ = some (.bool far)
  lt : g < w.heap.size
theorem FlAt.grown {w w' : World} {g : Nat} {b : Bool} {v : Value} {E most : Int} {far : Bool} (h : FlAt w g b v E most far) (k : Grown w w') : FlAt w' g b v E most far :=
  ⟨by rw [grown_cell k h.lt]; exact h.c0, by rw [grown_cell k h.lt]; exact h.c1, by rw [grown_cell k h.lt]; exact h.c2, by rw [grown_cell k h.lt]; exact h.c3, by rw [grown_cell k h.lt]; exact h.c4, Nat.lt_of_lt_of_le h.lt k.2.2⟩
theorem isW_setNe {w : World} {b off n cap g i : Nat} {l : List Nat} (x : Value) (h : IsW w (.slice (some ⟨b, off, none⟩) n cap) l) (hne : b ≠ g) : IsW (w.setCell ⟨g, i, none⟩ x) (.slice (some ⟨b, off, none⟩) n cap) l := by
  obtain ⟨s, c, e, h1, h2, h3⟩ := h
  injection e with e1 e2 e3
  subst e1; subst e2; subst e3
  refine ⟨_, _, rfl, h1, h2, fun hl => ?_⟩
  obtain ⟨b', off', e, hb, hc⟩ := h3 hl
  injection e with e
  injection e with e1 e2
  subst e1; subst e2
  refine ⟨_, _, rfl, by rw [size_setCell]; exact hb, fun j hj => ?_⟩
  rw [World.cell?_setCell_other _ _ _ _ (by intro e; injection e with e1 e2; exact hne e1.symm)]
  exact hc j hj
theorem FlAt.s0 {w : World} {g : Nat} {b : Bool} {v : Value} {E most : Int} {far : Bool} (h : FlAt w g b v E most far) (b' : Bool) : FlAt (w.setCell ⟨g, 0, none⟩ (.bool b')) g b' v E most far :=
  ⟨World.cell?_setCell_same _ _ _ h.c0, (World.cell?_setCell_other _ _ _ _ (by intro e; injection e with e1 e2; cases e2)).trans h.c1, (World.cell?_setCell_other _ _ _ _ (by intro e; injection e with e1 e2; cases e2)).trans h.c2, (World.cell?_setCell_other _ _ _ _ (by intro e; injection e with e1 e2; cases e2)).trans h.c3, (World.cell?_setCell_other _ _ _ _ (by intro e; injection e with e1 e2; cases e2)).trans h.c4, by rw [size_setCell]; exact h.lt⟩
theorem FlAt.s1 {w : World} {g : Nat} {b : Bool} {v : Value} {E most : Int} {far : Bool} (h : FlAt w g b v E most far) (v' : Value) : FlAt (w.setCell ⟨g, 1, none⟩ (v')) g b v' E most far :=
  ⟨(World.cell?_setCell_other _ _ _ _ (by intro e; injection e with e1 e2; cases e2)).trans h.c0, World.cell?_setCell_same _ _ _ h.c1, (World.cell?_setCell_other _ _ _ _ (by intro e; injection e with e1 e2; cases e2)).trans h.c2, (World.cell?_setCell_other _ _ _ _ (by intro e; injection e with e1 e2; cases e2)).trans h.c3, (World.cell?_setCell_other _ _ _ _ (by intro e; injection e with e1 e2; cases e2)).trans h.c4, by rw [size_setCell]; exact h.lt⟩
theorem FlAt.s2 {w : World} {g : Nat} {b : Bool} {v : Value} {E most : Int} {far : Bool} (h : FlAt w g b v E most far) (E' : Int) : FlAt (w.setCell ⟨g, 2, none⟩ (.int .i64 E')) g b v E' most far :=
  ⟨(World.cell?_setCell_other _ _ _ _ (by intro e; injection e with e1 e2; cases e2)).trans h.c0, (World.cell?_setCell_other _ _ _ _ (by intro e; injection e with e1 e2; cases e2)).trans h.c1, World.cell?_setCell_same _ _ _ h.c2, (World.cell?_setCell_other _ _ _ _ (by intro e; injection e with e1 e2; cases e2)).trans h.c3, (World.cell?_setCell_other _ _ _ _ (by intro e; injection e with e1 e2; cases e2)).trans h.c4, by rw [size_setCell]; exact h.lt⟩
theorem FlAt.s3 {w : World} {g : Nat} {b : Bool} {v : Value} {E most : Int} {far : Bool} (h : FlAt w g b v E most far) (most' : Int) : FlAt (w.setCell ⟨g, 3, none⟩ (.int .i64 most')) g b v E most' far :=
  ⟨(World.cell?_setCell_other _ _ _ _ (by intro e; injection e with e1 e2; cases e2)).trans h.c0, (World.cell?_setCell_other _ _ _ _ (by intro e; injection e with e1 e2; cases e2)).trans h.c1, (World.cell?_setCell_other _ _ _ _ (by intro e; injection e with e1 e2; cases e2)).trans h.c2, World.cell?_setCell_same _ _ _ h.c3, (World.cell?_setCell_other _ _ _ _ (by intro e; injection e with e1 e2; cases e2)).trans h.c4, by rw [size_setCell]; exact h.lt⟩
theorem FlAt.s4 {w : World} {g : Nat} {b : Bool} {v : Value} {E most : Int} {far : Bool} (h : FlAt w g b v E most far) (far' : Bool) : FlAt (w.setCell ⟨g, 4, none⟩ (.bool far')) g b v E most far' :=
  ⟨(World.cell?_setCell_other _ _ _ _ (by intro e; injection e with e1 e2; cases e2)).trans h.c0, (World.cell?_setCell_other _ _ _ _ (by intro e; injection e with e1 e2; cases e2)).trans h.c1, (World.cell?_setCell_other _ _ _ _ (by intro e; injection e with e1 e2; cases e2)).trans h.c2, (World.cell?_setCell_other _ _ _ _ (by intro e; injection e with e1 e2; cases e2)).trans h.c3, World.cell?_setCell_same _ _ _ h.c4, by rw [size_setCell]; exact h.lt⟩
def RetFl (g A : Nat) (below : Bool) (E : Int) (w0 w : World) (e : Ending) (w' : World) : Prop :=
  ∃ (k : Nat) (v : Value), e = .returned (.pointer (some ⟨g, 0, none⟩)) ∧ 2 ^ k ∣ A ∧ IsW w' v (digs (A / 2 ^ k)) ∧ FlAt w' g below v (E + k) 53 false ∧ Grown w0 w'
theorem fl_len {A k : Nat} (hA : A ≠ 0) (hk : 2 ^ k ∣ A) : ((((digs (A / 2 ^ k)).length : Nat) : Int) == 0) = false := by
  have h1 : A / 2 ^ k ≠ 0 := by
    intro e
    have := Nat.div_mul_cancel hk
    rw [e, Nat.zero_mul] at this
    exact hA this.symm
  have := digs_len_pos h1
  rw [beq_eq_false_iff_ne]; omega
theorem set_c {g A : Nat} {v v0 : Value} {E E0 : Int} {b0 far0 below : Bool} {w0 w : World} (hg0 : Grown w0 w) (hsz : w0.heap.size ≤ g) (hT : TabAt w0) (htab : 1 < w0.heap.size) (hz : FlAt w g b0 v0 E0 53 far0)
    (h : IsW w v (digs A)) (hA : A ≠ 0) (hbl : bl A ≤ 53) (hE1 : -1000000 ≤ E) (hE2 : E ≤ 1000000) :
    Calls Tryd.prog 116 #[.pointer (some ⟨g, 0, none⟩), .bool below, v, .int .i64 E, .bool false] w (RetFl g A below E w0 w) := by
  have H := Lib.hid h
  have HS := Lib.hid (digs_sm A)
  have HW := Lib.hid (wv_digs A)
  have hc3 := hz.c3
  obtain ⟨n, hn⟩ : ∃ n, bl A = n := ⟨_, rfl⟩
  have hn53 : n ≤ 53 := by omega
  have HN := Lib.hid hn
  have hd : decide ((0 : Int) < (n : Int) - 53) = false := decide_eq_false (by omega)
  have hf : ∀ j, w.frozen? ⟨g, j, none⟩ = false := fun j => Row.free hg0 hsz
  have HK : RowKit.Hid (∀ k : Nat, 2 ^ k ∣ A → k ≤ 53) := Lib.hid (fun k hk => by
    have h1 := Nat.le_of_dvd (Nat.pos_of_ne_zero hA) hk
    have h2 := bl_lt A
    have h3 := (Nat.pow_lt_pow_iff_right (show 1 < 2 by decide)).1 (Nat.lt_of_le_of_lt h1 h2)
    omega)
  have HA0 := Lib.hid hA
  have HG0 := Lib.hid hg0
  have HT := Lib.hid hT
  have HZ := Lib.hid hz
  have HF := Lib.hid hf
  clear hn hbl hA hg0 h hT hz hf
  go_enter Tryd.func116, Tryd.ntmps116
  go_upto_region 2 with (first
    | (go_at_call 142; (with_reducible refine (trim_c H.out HS.out).mono ?_); rw [HW.out]; rintro e w' ⟨v1, n1, rfl, hv1, rfl⟩; have HV1 := Lib.hid (isW_undrew hv1); clear hv1)
    | fail)
  go_cut [2, 11] (fun s2 s11 wx => IsW w s2 (digs A) ∧ s11 = .int .i64 ((n : Int) - 53) ∧ ∃ m, wx = w.drewN m)
  case first =>
    go_region_with (first
      | (go_at_call 143; (with_reducible refine (bitLen_c (HV1.out.drewN _)).mono ?_); rw [HN.out]; rintro e w1 ⟨n2, rfl, rfl⟩)
      | fail)
    all_goals
      go_wp2_with fail
      go_meet
      exact ⟨HV1.out, congrArg (Value.int .i64) (IntWalk.i64_in _ ⟨by omega, by omega⟩), _, by first | rfl | (rw [World.drewN_drewN])⟩
  case rest =>
    obtain ⟨hv1, rfl, m, rfl⟩ := hcut
    have HV1 := Lib.hid hv1
    clear hv1
    go_upto_region 12 with (first
      | (go_at_call 148; (with_reducible refine (zeros_c (HV1.out.drewN _) (tab_drew _ (gr_tab HG0.out HT.out htab))).mono ?_); rintro e w2 ⟨k, n3, rfl, hk, _, rfl⟩; have HKK := Lib.hid hk; have hk53 := HK.out k hk; have hl := fl_len HA0.out hk; clear hk)
      | (go_at_call 145; (with_reducible refine (downW_c k (HV1.out.drewN _) (by omega)).mono ?_); rintro e w3 ⟨v2, rfl, hv2, hg2⟩; have HV2 := Lib.hid hv2; have HG2 := Lib.hid (gr_trans (gr_drewN _ (Grown.refl w)) hg2); clear hv2 hg2)
      | (go_at_call 149; (with_reducible refine (copied_new HV2.out).mono ?_); rintro e w4 ⟨rfl, hv3, hg3, hs3⟩; have HV3 := Lib.hid hv3; have HG3 := Lib.hid (gr_trans HG2.out hg3); have HS3 := Lib.hid hs3; clear hv3 hg3 hs3; have hz4 := HZ.out.grown HG3.out; have z0 := hz4.c0; have z1 := hz4.c1; have z2 := hz4.c2; have z4 := hz4.c4; have HF4 : RowKit.Hid (∀ j, w4.frozen? ⟨g, j, none⟩ = false) := Lib.hid (fun j => Row.free (gr_trans HG0.out HG3.out) hsz); have f0 := HF4.out 0; have f1 := HF4.out 1; have f2 := HF4.out 2; have f4 := HF4.out 4; clear hz4)
      | fail)
    go_wp2_with fail
    go_ret
    have hne : w3.heap.size ≠ g := by have h1 := HZ.out.lt; have h2 := HG2.out.2.2; omega
    exact ⟨k, _, rfl, HKK.out, isW_setNe _ (isW_setNe _ (isW_setNe _ (isW_setNe _ HV3.out hne) hne) hne) hne, ((((HZ.out.grown HG3.out).s1 _).s2 _).s0 _).s4 _, ((((gr_trans HG0.out HG3.out).setCell hsz _).setCell hsz _).setCell hsz _).setCell hsz _⟩
end Go.Proofs.YtndknkdfbjfjcaaDoor
