/- Whole numbers and fractions in memory: set, and what stays. Fractions: of floats, sums, products, quotients, how they compare, and the float of one. Fractions: of floats, sums, products, quotients, how they compare, and the float of one. Fractions: of floats, and how they compare. -/
import Derived.Test.YtcfkhhnkboealaaCwf
import Derived.Deep.RegionHeld3
import Derived.StillTailTactics
import Derived.Test.YtcfkhhnkboealaaWde
namespace Go.Proofs.Ytcfkhhnkboealaa
open Go.RowKit
set_option linter.unusedVariables false
set_option linter.unusedSimpArgs false
set_option maxRecDepth 100000
set_option maxHeartbeats 4000000
/-- w' is w with new blocks, and the block g may have turned. -/
def GrB (g : Nat) (w w' : World) : Prop := w.keptBut w' (fun p => ∃ j, p = .cell g j) ∧ (∀ a, w'.frozen? a = w.frozen? a) ∧ w.heap.size ≤ w'.heap.size
theorem GrB.of {g : Nat} {w w' : World} (h : Grown w w') : GrB g w w' := ⟨World.keptBut_mono (fun _ f => f.elim) h.1, h.2.1, h.2.2⟩
theorem GrB.refl (g : Nat) (w : World) : GrB g w w := GrB.of (Grown.refl w)
theorem GrB.trans {g : Nat} {a b c : World} (h : GrB g a b) (k : GrB g b c) : GrB g a c := ⟨World.keptBut_trans h.1 k.1, fun x => (k.2.1 x).trans (h.2.1 x), Nat.le_trans h.2.2 k.2.2⟩
theorem GrB.drewN {g : Nat} {w w' : World} (n : Nat) (h : GrB g w w') : GrB g w (w'.drewN n) := h
theorem GrB.cell {g : Nat} {w w' : World} (h : GrB g w w') {b i : Nat} (hb : b < w.heap.size) (hne : b ≠ g) : w'.cell? ⟨b, i, none⟩ = w.cell? ⟨b, i, none⟩ :=
  h.1.cell hb (by rintro ⟨j, e⟩; injection e with e1 e2; exact hne e1)
theorem GrB.set {g : Nat} {w w' : World} (h : GrB g w w') (i : Nat) (v : Value) : GrB g w (w'.setCell ⟨g, i, none⟩ v) :=
  ⟨World.keptBut_trans h.1 (World.keptBut_setCell w' _ v ⟨i, rfl⟩), fun a => (World.frozen?_setCell _ _ _ _).trans (h.2.1 a), by rw [size_setCell]; exact h.2.2⟩
theorem GrB.grown {g : Nat} {w0 w w' : World} (h : GrB g w w') (h0 : Grown w0 w) (hg : w0.heap.size ≤ g) : Grown w0 w' := by
  have k := World.keptBut_trans (World.keptBut_mono (fun _ f => f.elim) h0.1) h.1
  refine ⟨⟨k.1, k.2.1, fun i hi => ?_⟩, fun a => (h.2.1 a).trans (h0.2.1 a), Nat.le_trans h0.2.2 h.2.2⟩
  have k3 := k.2.2 i hi
  cases h1 : w0.heap[i]? with
  | none => rw [h1] at k3; cases h2 : w'.heap[i]? <;> rw [h2] at k3 <;> simp at k3 ⊢
  | some o =>
    cases h2 : w'.heap[i]? with
    | none => rw [h1, h2] at k3; cases o <;> simp at k3
    | some o' =>
      rw [h1, h2] at k3
      cases o <;> cases o' <;> simp at k3 ⊢ <;> try exact k3
      obtain ⟨a1, a2, a3, a4⟩ := k3
      exact ⟨a1, a2, a3, fun j => a4 j (fun e => by omega)⟩
/-- no word lies in the block. -/
def NoInt (w : World) (g : Nat) : Prop := ∀ (j : Nat) (x : Int), w.cell? ⟨g, j, none⟩ ≠ some (.int .u32 x)
theorem NoInt.grown {w w' : World} {g : Nat} (h : NoInt w g) (k : Grown w w') (hg : g < w.heap.size) : NoInt w' g := fun j x => by rw [grown_cell k hg]; exact h j x
theorem NoInt.kept {w w' : World} {g g' : Nat} (h : NoInt w g) (k : GrB g' w w') (hg : g < w.heap.size) (hne : g ≠ g') : NoInt w' g := fun j x => by rw [k.cell hg hne]; exact h j x
theorem NoInt.set {w : World} {g i : Nat} {v : Value} (h : NoInt w g) (hv : ∀ x, v ≠ .int .u32 x) : NoInt (w.setCell ⟨g, i, none⟩ v) g := fun j x => by
  by_cases e : j = i
  · subst e
    cases hc : w.cell? ⟨g, j, none⟩ with
    | none =>
      intro h2
      have : (w.setCell ⟨g, j, none⟩ v).cell? ⟨g, j, none⟩ = none := by
        unfold World.cell? at hc ⊢
        simp only [World.setCell, Array.getElem?_modify, if_true] at hc ⊢
        cases hh : w.heap[g]? with
        | none => rfl
        | some o =>
          rw [hh] at hc
          cases o <;> simp at hc ⊢
          exact hc
      rw [this] at h2; cases h2
    | some u => rw [World.cell?_setCell_same _ _ _ hc]; intro h2; injection h2 with h2; exact hv x h2
  · rw [World.cell?_setCell_other _ _ _ _ (by intro h; injection h with _ h2; exact e h2.symm)]; exact h j x
theorem IsW.apart {w : World} {v : Value} {l : List Nat} {g : Nat} (h : IsW w v l) (hn : NoInt w g) : ∃ s cap, v = .slice s l.length cap ∧ l.length ≤ cap ∧ cap ≤ 1000000000 ∧ (l ≠ [] → ∃ b off, s = some ⟨b, off, none⟩ ∧ b ≠ g ∧ b < w.heap.size ∧ ∀ j, j < l.length → w.cell? ⟨b, off + j, none⟩ = some (.int .u32 ((l.getD j 0 : Nat) : Int))) := by
  obtain ⟨s, cap, e, h1, h2, h3⟩ := h
  refine ⟨s, cap, e, h1, h2, fun hl => ?_⟩
  obtain ⟨b, off, e1, hb, hc⟩ := h3 hl
  refine ⟨b, off, e1, ?_, hb, hc⟩
  rintro rfl
  exact hn _ _ (hc 0 (List.length_pos_iff.2 hl))
theorem IsW.kept {w w' : World} {v : Value} {l : List Nat} {g : Nat} (h : IsW w v l) (k : GrB g w w') (hn : NoInt w g) : IsW w' v l := by
  obtain ⟨s, cap, e, h1, h2, h3⟩ := h.apart hn
  refine ⟨s, cap, e, h1, h2, fun hl => ?_⟩
  obtain ⟨b, off, e1, hne, hb, hc⟩ := h3 hl
  exact ⟨b, off, e1, Nat.lt_of_lt_of_le hb k.2.2, fun j hj => by rw [k.cell hb hne]; exact hc j hj⟩
/-- a whole number's cells. -/
structure IntC (w : World) (g : Nat) (b : Bool) (v : Value) : Prop where
  c0 : w.cell? ⟨g, 0, none⟩ = some (.bool b)
  c1 : w.cell? ⟨g, 1, none⟩ = some v
  no : NoInt w g
  lt : g < w.heap.size
  fz : ∀ j, w.frozen? ⟨g, j, none⟩ = false
theorem IntC.grown {w w' : World} {g : Nat} {b : Bool} {v : Value} (h : IntC w g b v) (k : Grown w w') : IntC w' g b v :=
  ⟨by rw [grown_cell k h.lt]; exact h.c0, by rw [grown_cell k h.lt]; exact h.c1, h.no.grown k h.lt, Nat.lt_of_lt_of_le h.lt k.2.2, fun j => (k.2.1 _).trans (h.fz j)⟩
theorem IntC.kept {w w' : World} {g g' : Nat} {b : Bool} {v : Value} (h : IntC w g b v) (k : GrB g' w w') (hne : g ≠ g') : IntC w' g b v :=
  ⟨by rw [k.cell h.lt hne]; exact h.c0, by rw [k.cell h.lt hne]; exact h.c1, h.no.kept k h.lt hne, Nat.lt_of_lt_of_le h.lt k.2.2, fun j => (k.2.1 _).trans (h.fz j)⟩
theorem IntC.s0 {w : World} {g : Nat} {b : Bool} {v : Value} (h : IntC w g b v) (b' : Bool) : IntC (w.setCell ⟨g, 0, none⟩ (.bool b')) g b' v :=
  ⟨World.cell?_setCell_same _ _ _ h.c0, (World.cell?_setCell_other _ _ _ _ (by intro e; injection e with e1 e2; cases e2)).trans h.c1, h.no.set (by intro x e; cases e), by rw [size_setCell]; exact h.lt, fun j => (World.frozen?_setCell _ _ _ _).trans (h.fz j)⟩
theorem IntC.s1 {w : World} {g : Nat} {b : Bool} {v : Value} (h : IntC w g b v) (v' : Value) (hv : ∀ x, v' ≠ .int .u32 x) : IntC (w.setCell ⟨g, 1, none⟩ v') g b v' :=
  ⟨(World.cell?_setCell_other _ _ _ _ (by intro e; injection e with e1 e2; cases e2)).trans h.c0, World.cell?_setCell_same _ _ _ h.c1, h.no.set hv, by rw [size_setCell]; exact h.lt, fun j => (World.frozen?_setCell _ _ _ _).trans (h.fz j)⟩
/-- set a whole number. -/
def RetI2 (g : Nat) (below : Bool) (A : Nat) (w : World) (e : Ending) (w' : World) : Prop :=
  ∃ v, e = .returned (.pointer (some ⟨g, 0, none⟩)) ∧ IsW w' v (digs A) ∧ IntC w' g (below && decide (A ≠ 0)) v ∧ GrB g w w' ∧ ∀ j, 2 ≤ j → w'.cell? ⟨g, j, none⟩ = w.cell? ⟨g, j, none⟩
theorem iset_c {g : Nat} {b0 below : Bool} {v0 v : Value} {l : List Nat} {A : Nat} {w : World} (hI : IntC w g b0 v0) (h : IsW w v l) (hs : Sm l) (hA : wv l = A) :
    Calls Try.prog 100 #[.pointer (some ⟨g, 0, none⟩), .bool below, v] w (RetI2 g below A w) := by
  have H := Lib.hid h
  have HS := Lib.hid hs
  have HA := Lib.hid hA
  have HI := Lib.hid hI
  have c0 := hI.c0
  have c1 := hI.c1
  have f0 := hI.fz 0
  have f1 := hI.fz 1
  have HP : RowKit.Hid (A = 0 ∨ 0 < (digs A).length) := Lib.hid (by
    by_cases e : A = 0
    · exact .inl e
    · exact .inr (digs_len_pos e))
  clear hs hA hI h
  have HF : RowKit.Hid (∀ (s : Option Addr) (c n : Nat), IsW w (.slice s (digs A).length c) (digs A) → ∀ b', b' = (below && decide (A ≠ 0)) →
      RetI2 g below A w (.returned (.pointer (some ⟨g, 0, none⟩))) (((w.drewN n).setCell ⟨g, 1, none⟩ (.slice s (digs A).length c)).setCell ⟨g, 0, none⟩ (.bool b'))) := Lib.hid (by
    intro s c n hv b' hb'
    have G := (((GrB.refl g w).drewN n).set 1 (.slice s (digs A).length c)).set 0 (.bool b')
    have I1 := (IntC.s1 (HI.out.grown (gr_drewN n (Grown.refl w))) (.slice s (digs A).length c) (by intro x e; cases e)).s0 b'
    rw [hb'] at I1 G ⊢
    refine ⟨_, rfl, hv.kept G HI.out.no, I1, G, fun j hj => ?_⟩
    rw [World.cell?_setCell_other _ _ _ _ (by intro e; injection e with e1 e2; omega), World.cell?_setCell_other _ _ _ _ (by intro e; injection e with e1 e2; omega)]
    rfl)
  rcases HP.out with hz | hz
  · subst hz
    have hl : (digs 0).length = 0 := rfl
    cases below
    all_goals
      go_enter Try.func100, Try.ntmps100
      go_wp2_with (first
        | (go_at_call 145; (with_reducible refine (trim_c H.out HS.out).mono ?_); rw [HA.out]; rintro e w' ⟨v', n', rfl, hv, rfl⟩; obtain ⟨s', c', rfl, _, _, _⟩ := id hv; have HV := Lib.hid hv; clear hv)
        | fail)
      go_ret
      exact HF.out _ _ _ HV.out _ rfl
  · have hne : A ≠ 0 := by intro e; subst e; simp [digs_zero] at hz
    have HNE := Lib.hid hne
    have hl : (0 : Int) < ((digs A).length : Int) := by omega
    clear hne
    cases below
    all_goals
      go_enter Try.func100, Try.ntmps100
      go_wp2_with (first
        | (go_at_call 145; (with_reducible refine (trim_c H.out HS.out).mono ?_); rw [HA.out]; rintro e w' ⟨v', n', rfl, hv, rfl⟩; obtain ⟨s', c', rfl, _, _, _⟩ := id hv; have HV := Lib.hid hv; clear hv)
        | fail)
      go_ret
      exact HF.out _ _ _ HV.out _ (by have := HNE.out; simp [this])
/-- a fraction's cells. -/
structure RatC (w : World) (g : Nat) (b : Bool) (v1 v2 : Value) : Prop where
  i : IntC w g b v1
  c2 : w.cell? ⟨g, 2, none⟩ = some v2
theorem RatC.grown {w w' : World} {g : Nat} {b : Bool} {v1 v2 : Value} (h : RatC w g b v1 v2) (k : Grown w w') : RatC w' g b v1 v2 := ⟨h.i.grown k, by rw [grown_cell k h.i.lt]; exact h.c2⟩
theorem RatC.kept {w w' : World} {g g' : Nat} {b : Bool} {v1 v2 : Value} (h : RatC w g b v1 v2) (k : GrB g' w w') (hne : g ≠ g') : RatC w' g b v1 v2 := ⟨h.i.kept k hne, by rw [k.cell h.i.lt hne]; exact h.c2⟩
theorem RatC.s2 {w : World} {g : Nat} {b : Bool} {v1 v2 : Value} (h : RatC w g b v1 v2) (v : Value) (hv : ∀ x, v ≠ .int .u32 x) : RatC (w.setCell ⟨g, 2, none⟩ v) g b v1 v :=
  ⟨⟨(World.cell?_setCell_other _ _ _ _ (by intro e; injection e with e1 e2; cases e2)).trans h.i.c0, (World.cell?_setCell_other _ _ _ _ (by intro e; injection e with e1 e2; cases e2)).trans h.i.c1, h.i.no.set hv, by rw [size_setCell]; exact h.i.lt, fun j => (World.frozen?_setCell _ _ _ _).trans (h.i.fz j)⟩, World.cell?_setCell_same _ _ _ h.c2⟩
/-- a number below the line: none is 1. -/
def dd (D : Nat) : Nat := if D = 0 then 1 else D
theorem dd_ne (D : Nat) : dd D ≠ 0 := by unfold dd; split <;> omega
def sg (b : Bool) (N : Nat) : Int := if b then -(N : Int) else N
/-- the fraction in the block g is n / d, and d and n are so many times its parts. -/
structure RatV (n : Int) (d : Nat) (b : Bool) (N D : Nat) : Prop where
  ex : ∃ k : Nat, k ≠ 0 ∧ d = k * dd D ∧ n = k * sg b N
  nz : N = 0 → b = false
def RatAt (w : World) (g : Nat) (n : Int) (d : Nat) : Prop :=
  ∃ b v1 v2 N D, RatC w g b v1 v2 ∧ IsW w v1 (digs N) ∧ IsW w v2 (digs D) ∧ RatV n d b N D
theorem RatAt.grown {w w' : World} {g d : Nat} {n : Int} (h : RatAt w g n d) (k : Grown w w') : RatAt w' g n d := by
  obtain ⟨b, v1, v2, N, D, h1, h2, h3, h4⟩ := h
  exact ⟨b, v1, v2, N, D, h1.grown k, h2.grown k, h3.grown k, h4⟩
theorem RatAt.kept {w w' : World} {g g' d : Nat} {n : Int} (h : RatAt w g n d) (k : GrB g' w w') (hne : g ≠ g') (hn : NoInt w g') : RatAt w' g n d := by
  obtain ⟨b, v1, v2, N, D, h1, h2, h3, h4⟩ := h
  exact ⟨b, v1, v2, N, D, h1.kept k hne, h2.kept k hn, h3.kept k hn, h4⟩
/-- a block that may be set. -/
def RatZ (w : World) (g : Nat) : Prop := ∃ b v1 v2, RatC w g b v1 v2
theorem RatAt.z {w : World} {g d : Nat} {n : Int} (h : RatAt w g n d) : RatZ w g := by obtain ⟨b, v1, v2, _, _, h, _⟩ := h; exact ⟨b, v1, v2, h⟩
theorem RatZ.grown {w w' : World} {g : Nat} (h : RatZ w g) (k : Grown w w') : RatZ w' g := by obtain ⟨b, v1, v2, h⟩ := h; exact ⟨b, v1, v2, h.grown k⟩
theorem RatZ.kept {w w' : World} {g g' : Nat} (h : RatZ w g) (k : GrB g' w w') (hne : g ≠ g') : RatZ w' g := by obtain ⟨b, v1, v2, h⟩ := h; exact ⟨b, v1, v2, h.kept k hne⟩
theorem RatZ.no {w : World} {g : Nat} (h : RatZ w g) : NoInt w g := by obtain ⟨b, v1, v2, h⟩ := h; exact h.i.no
theorem RatZ.lt {w : World} {g : Nat} (h : RatZ w g) : g < w.heap.size := by obtain ⟨b, v1, v2, h⟩ := h; exact h.i.lt
def RetR (g : Nat) (n : Int) (d : Nat) (w : World) (e : Ending) (w' : World) : Prop := e = .returned (.pointer (some ⟨g, 0, none⟩)) ∧ RatAt w' g n d ∧ GrB g w w'
theorem RatV.mk' {A D G : Nat} {b : Bool} (hG : G ≠ 0) (h1 : G ∣ A) (h2 : G ∣ D) (hA : A ≠ 0) (hD : D ≠ 0) : RatV (sg b A) D (b && decide (A / G ≠ 0)) (A / G) (D / G) := by
  obtain ⟨x, rfl⟩ := h1
  obtain ⟨y, rfl⟩ := h2
  have hx : x ≠ 0 := by rintro rfl; simp at hA
  have hy : y ≠ 0 := by rintro rfl; simp at hD
  rw [Nat.mul_div_cancel_left _ (Nat.pos_of_ne_zero hG), Nat.mul_div_cancel_left _ (Nat.pos_of_ne_zero hG)]
  refine ⟨⟨G, hG, ?_, ?_⟩, fun e => absurd e hx⟩
  · unfold dd; rw [if_neg hy]
  · have : (b && decide (x ≠ 0)) = b := by simp [hx]
    rw [this]; unfold sg; cases b <;> simp [Int.mul_neg]
theorem RatV.whole {A D : Nat} {b : Bool} (hA : A ≠ 0) (hD : D ≠ 0) : RatV (sg b A) D (b && decide (A ≠ 0)) A D := by
  have := RatV.mk' (b := b) (G := 1) (by decide) (Nat.one_dvd A) (Nat.one_dvd D) hA hD
  rwa [Nat.div_one, Nat.div_one] at this
theorem rat_fin {g A D X Y : Nat} {minus : Bool} {w w3 : World} {v3 u2 vD : Value} (hi : IntC w3 g (minus && decide (X ≠ 0)) v3) (hv : IsW w3 v3 (digs X)) (hd : IsW w3 vD (digs Y)) (hc : w3.cell? ⟨g, 2, none⟩ = some u2) (hg : GrB g w w3)
    (hV : RatV (sg minus A) D (minus && decide (X ≠ 0)) X Y) : RetR g (sg minus A) D w (.returned (.pointer (some ⟨g, 0, none⟩))) (w3.setCell ⟨g, 2, none⟩ vD) := by
  have hs : ∀ x, vD ≠ .int .u32 x := by obtain ⟨s, c, e, _⟩ := hd; intro x h; rw [e] at h; cases h
  have hR : RatC w3 g (minus && decide (X ≠ 0)) v3 u2 := ⟨hi, hc⟩
  have k := (GrB.refl g w3).set 2 vD
  exact ⟨rfl, ⟨_, v3, vD, X, Y, hR.s2 _ hs, hv.kept k hi.no, hd.kept k hi.no, hV⟩, hg.set 2 vD⟩
theorem wcase (X : Nat) : X = 1 ∨ (X ≠ 1 ∧ X < 4294967296) ∨ 4294967296 ≤ X := by omega
theorem IsW.first {w : World} {s : Option Addr} {n c X : Nat} (h : IsW w (.slice s n c) (digs X)) (h0 : X ≠ 0) (h1 : X < 4294967296) : n = 1 ∧ ∃ b off, s = some ⟨b, off, none⟩ ∧ b < w.heap.size ∧ w.cell? ⟨b, off, none⟩ = some (.int .u32 (X : Int)) := by
  have e := digs_one h1 h0
  obtain ⟨h2, _, _⟩ := h.opn
  obtain ⟨b, off, e1, hb, hc⟩ := h.word (i := 0) (by rw [e]; exact Nat.one_pos)
  rw [e] at hc h2
  exact ⟨h2, b, off, e1, hb, by simpa using hc⟩
theorem len_ne1 {X : Nat} (h : 4294967296 ≤ X) : (digs X).length ≠ 1 := by
  intro e
  have h0 : X ≠ 0 := by omega
  have := digs_lt X
  rw [e] at this
  omega
theorem rset_c {g : Nat} {minus : Bool} {v1 v2 : Value} {A D : Nat} {w : World} (hZ : RatZ w g) (h1 : IsW w v1 (digs A)) (h2 : IsW w v2 (digs D)) (hD : D ≠ 0) (lA : (digs A).length ≤ 50000) (lD : (digs D).length ≤ 50000) :
    Calls Try.prog 103 #[.pointer (some ⟨g, 0, none⟩), .bool minus, v1, v2] w (RetR g (sg minus A) D w) := by
  obtain ⟨b0, u1, u2, hC⟩ := hZ
  have HC := Lib.hid hC
  have H1 := Lib.hid h1
  have H2 := Lib.hid h2
  have HS := Lib.hid digs_sm
  have HW := Lib.hid wv_digs
  have f2 := hC.i.fz 2
  have c2 := hC.c2
  have HG := Lib.hid (Grown.refl w)
  clear hC h1 h2
  by_cases hA0 : A = 0
  · subst hA0
    have hl0 : (digs 0).length = 0 := rfl
    go_enter Try.func103, Try.ntmps103
    go_wp2_with (first
      | (go_at_call_of 145 v1; (with_reducible refine (trim_c H1.out (HS.out _)).mono ?_); rw [HW.out]; rintro e w' ⟨v', n1, rfl, hv, rfl⟩; obtain ⟨s', c', rfl, _, _, _⟩ := id hv; have HV1 := Lib.hid hv; clear hv)
      | (go_at_call_of 145 v2; (with_reducible refine (trim_c (H2.out.drewN _) (HS.out _)).mono ?_); rw [HW.out]; rintro e w' ⟨v'', n2, rfl, hv2, rfl⟩)
      | (go_at_call 100; go_loud ((with_reducible refine (iset_c (l := []) (A := 0) (HC.out.i.grown (gr_drewN _ (Grown.refl w))) (IsW.nil _) sm_nil rfl).mono ?_)); rintro e w3 ⟨v3, rfl, hv3, hi3, hg3, hk3⟩; have hc3 := (hk3 2 (Nat.le_refl _)).trans c2; have hf3 := hi3.fz 2; have HV3 := Lib.hid hv3; have HI3 := Lib.hid hi3; have HG3 := Lib.hid (GrB.trans ((GrB.refl g w).drewN _) hg3); clear hv3 hi3 hg3 hk3)
      | fail)
    go_ret
    have hR : RatC w3 g false v3 u2 := ⟨by have := HI3.out; simpa using this, hc3⟩
    have G := HG3.out.set 2 (.slice none 0 0)
    refine ⟨rfl, ⟨false, v3, .slice none 0 0, 0, 0, hR.s2 _ (by intro x e; cases e), HV3.out.kept ((GrB.refl g w3).set 2 _) hR.i.no, IsW.nil _, ⟨⟨D, hD, ?_, ?_⟩, fun _ => rfl⟩⟩, G⟩
    · simp [dd]
    · cases minus <;> simp [sg]
  · have HA0 := Lib.hid hA0
    have HD0 := Lib.hid hD
    have hlA : (digs A).length ≠ 0 := by have := digs_len_pos hA0; omega
    have hlAi : (((digs A).length : Int) == 0) = false := by rw [beq_eq_false_iff_ne]; omega
    go_enter Try.func103, Try.ntmps103
    go_upto_region 7 with (first
      | (go_at_call_of 145 v1; (with_reducible refine (trim_c H1.out (HS.out _)).mono ?_); rw [HW.out]; rintro e w' ⟨v', n1, rfl, hv, rfl⟩; obtain ⟨s1, k1, rfl, _, _, _⟩ := id hv; have HV1 := Lib.hid (isW_undrew hv); clear hv)
      | (go_at_call_of 145 v2; (with_reducible refine (trim_c (H2.out.drewN _) (HS.out _)).mono ?_); rw [HW.out]; rintro e w' ⟨v'', n2, rfl, hv2, rfl⟩; obtain ⟨s2, k2, rfl, _, _, _⟩ := id hv2; have HV2 := Lib.hid (isW_undrew (isW_undrew hv2)); clear hv2)
      | fail)
    obtain ⟨nD, hnD⟩ : ∃ n, (digs D).length = n := ⟨_, rfl⟩
    rw [hnD] at HV2 ⊢
    have hD' : (D = 1 ∧ nD = 1 ∧ ∃ b2 o2, s2 = some ⟨b2, o2, none⟩ ∧ ∀ m, (w.drewN m).cell? ⟨b2, o2, none⟩ = some (.int .u32 1)) ∨ (nD = 1 ∧ ∃ b2 o2, s2 = some ⟨b2, o2, none⟩ ∧ (((D : Int)) != 1) = true ∧ D < 4294967296 ∧ ∀ m, (w.drewN m).cell? ⟨b2, o2, none⟩ = some (.int .u32 (D : Int))) ∨ (((nD : Int)) != 1) = true := by
      rcases wcase D with h | ⟨h1, h2⟩ | h2
      · subst h
        obtain ⟨e1, b2, o2, e2, hb2, hcl⟩ := HV2.out.first hD (by decide)
        exact .inl ⟨rfl, e1, b2, o2, e2, fun m => hcl⟩
      · obtain ⟨e1, b2, o2, e2, hb2, hcl⟩ := HV2.out.first hD h2
        exact .inr (.inl ⟨e1, b2, o2, e2, by rw [bne_iff_ne]; omega, h2, fun m => hcl⟩)
      · have := len_ne1 h2
        exact .inr (.inr (by rw [bne_iff_ne]; omega))
    rcases hD' with ⟨rfl, rfl, b2, o2, rfl, hcl⟩ | hD2
    · go_wp2_with (first
        | (go_at_call 100; go_loud ((with_reducible refine (iset_c (HC.out.i.grown (gr_drewN _ (Grown.refl w))) (HV1.out.drewN _) (HS.out _) (HW.out _)).mono ?_); rintro e w3 ⟨v3, rfl, hv3, hi3, hg3, hk3⟩; have hc3 := (hk3 2 (Nat.le_refl _)).trans c2; have hf3 := hi3.fz 2; have HV3 := Lib.hid hv3; have HI3 := Lib.hid hi3; have HG3 := Lib.hid hg3; clear hv3 hi3 hg3 hk3))
        | fail)
      go_ret
      exact rat_fin HI3.out HV3.out ((HV2.out.drewN _).kept HG3.out HC.out.i.no) hc3 HG3.out (RatV.whole HA0.out HD0.out)
    · rcases hD2 with ⟨rfl, b2, o2, rfl, hD1, hD2, hcl⟩ | hD1
      all_goals
        have HCM := Lib.hid (fun m => common_c (HV1.out.drewN m) (HV2.out.drewN m) (.inl hA0) lA lD)
        go_upto_region 9 with (first
          | (go_at_call 149; (with_reducible refine (HCM.out _).mono ?_); rintro e w2 ⟨G, vg, rfl, hvg, hgg, hg1, hg2, hg0⟩; obtain ⟨s4, k4, rfl, _, _, _⟩ := id hvg; have HVG := Lib.hid hvg; have HGG := Lib.hid (gr_trans (gr_drewN _ (Grown.refl w)) hgg); have HG1 := Lib.hid hg1; have HG2 := Lib.hid hg2; have HG0 := Lib.hid hg0; clear hvg hgg hg1 hg2)
          | fail)
        obtain ⟨nG, hnG⟩ : ∃ n, (digs G).length = n := ⟨_, rfl⟩
        rw [hnG] at HVG ⊢
        have hG' : (G = 1 ∧ nG = 1 ∧ ∃ b4 o4, s4 = some ⟨b4, o4, none⟩ ∧ ∀ m, (w2.drewN m).cell? ⟨b4, o4, none⟩ = some (.int .u32 1)) ∨ (nG = 1 ∧ ∃ b4 o4, s4 = some ⟨b4, o4, none⟩ ∧ (((G : Int)) != 1) = true ∧ G < 4294967296 ∧ ∀ m, (w2.drewN m).cell? ⟨b4, o4, none⟩ = some (.int .u32 (G : Int))) ∨ (((nG : Int)) != 1) = true := by
          rcases wcase G with h | ⟨h1, h2⟩ | h2
          · subst h
            obtain ⟨e1, b2, o2, e2, hb2, hcl⟩ := HVG.out.first hg0 (by decide)
            exact .inl ⟨rfl, e1, b2, o2, e2, fun m => hcl⟩
          · obtain ⟨e1, b2, o2, e2, hb2, hcl⟩ := HVG.out.first hg0 h2
            exact .inr (.inl ⟨e1, b2, o2, e2, by rw [bne_iff_ne]; omega, h2, fun m => hcl⟩)
          · have := len_ne1 h2
            exact .inr (.inr (by rw [bne_iff_ne]; omega))
        have c2' := HC.out.grown HGG.out |>.c2
        have HIG := Lib.hid (HC.out.i.grown HGG.out)
        have HV1G := Lib.hid (HV1.out.grown HGG.out)
        have HV2G := Lib.hid (HV2.out.grown HGG.out)
        rcases hG' with ⟨rfl, rfl, b4, o4, rfl, hcg⟩ | hG2
        · have hcg0 := hcg 0
          simp only [World.drewN_zero] at hcg0
          go_wp2_with (first
            | (go_at_call 100; go_loud ((with_reducible refine (iset_c HIG.out HV1G.out (HS.out _) (HW.out _)).mono ?_); rintro e w3 ⟨v3, rfl, hv3, hi3, hg3, hk3⟩; have hc3 := (hk3 2 (Nat.le_refl _)).trans c2'; have hf3 := hi3.fz 2; have HV3 := Lib.hid hv3; have HI3 := Lib.hid hi3; have HG3 := Lib.hid hg3; clear hv3 hi3 hg3 hk3))
            | fail)
          go_ret
          have h1 := rat_fin (A := A) (D := D) HI3.out HV3.out (HV2G.out.kept HG3.out HIG.out.no) hc3 ((GrB.of HGG.out).trans HG3.out) (RatV.whole HA0.out HD0.out)
          exact h1
        · rcases hG2 with ⟨rfl, b4, o4, rfl, hG1, hG2, hcg⟩ | hG1
          all_goals
            have HQ1 := Lib.hid (fun (W : World) (h : Grown w2 W) => div_c (HV1G.out.grown h) (HVG.out.grown h) hg0 (Nat.le_trans lA (by decide)))
            have HQ2 := Lib.hid (fun (W : World) (h : Grown w2 W) => div_c (HV2G.out.grown h) (HVG.out.grown h) hg0 (Nat.le_trans lD (by decide)))
            first
              | (have hcg0 := hcg 0; simp only [World.drewN_zero] at hcg0)
              | skip
            go_wp2_with (first
              | (go_at_call 150; (with_reducible refine (HQ1.out _ (Grown.refl _)).mono ?_); rintro e w5 ⟨q1, r1, rfl, hq1, hr1, hg5⟩; have HX1 := Lib.hid hq1; have HG5 := Lib.hid hg5; clear hq1 hr1 hg5)
              | (go_at_call 150; (with_reducible refine (HQ2.out _ HG5.out).mono ?_); rintro e w6 ⟨q2, r2, rfl, hq2, hr2, hg6⟩; obtain ⟨s7, k7, rfl, _, _, _⟩ := id hq2; have HX2 := Lib.hid hq2; have HG6 := Lib.hid (gr_trans HG5.out hg6); have HX1' := Lib.hid (HX1.out.grown hg6); have c26 := ((HC.out.grown HGG.out).grown HG6.out).c2; have HI6 := Lib.hid (HIG.out.grown HG6.out); clear hq2 hr2 hg6)
              | (go_at_call 100; go_loud ((with_reducible refine (iset_c HI6.out HX1'.out (HS.out _) (HW.out _)).mono ?_); rintro e w3 ⟨v3, rfl, hv3, hi3, hg3, hk3⟩; have hc3 := (hk3 2 (Nat.le_refl _)).trans c26; have hf3 := hi3.fz 2; have HV3 := Lib.hid hv3; have HI3 := Lib.hid hi3; have HG3 := Lib.hid hg3; clear hv3 hi3 hg3 hk3))
              | fail)
            go_ret
            have h1 := rat_fin (A := A) (D := D) HI3.out HV3.out (HX2.out.kept HG3.out HI6.out.no) hc3 ((GrB.of (gr_trans HGG.out HG6.out)).trans HG3.out) (RatV.mk' HG0.out HG1.out HG2.out HA0.out HD0.out)
            exact h1
end Go.Proofs.Ytcfkhhnkboealaa
namespace Go.Proofs.Ytcfkhhnkboealaa
open Go.RowKit
set_option linter.unusedVariables false
set_option linter.unusedSimpArgs false
set_option maxRecDepth 100000
set_option maxHeartbeats 4000000
theorem RatV.scale {n : Int} {d N D c : Nat} {b : Bool} (h : RatV n d b N D) (hc : c ≠ 0) : RatV (n * c) (d * c) b N D := by
  obtain ⟨k, h0, h1, h2⟩ := h.ex
  refine ⟨⟨k * c, Nat.mul_ne_zero h0 hc, by rw [h1]; ac_rfl, by rw [h2, Int.natCast_mul]; ac_rfl⟩, h.nz⟩
theorem RatAt.scale {w : World} {g d : Nat} {n : Int} (h : RatAt w g n d) {c : Nat} (hc : c ≠ 0) : RatAt w g (n * c) (d * c) := by
  obtain ⟨b, v1, v2, N, D, h1, h2, h3, h4⟩ := h
  exact ⟨b, v1, v2, N, D, h1, h2, h3, h4.scale hc⟩
theorem RetR.scale {g d : Nat} {n : Int} {w w' : World} {e : Ending} (h : RetR g n d w e w') {c : Nat} (hc : c ≠ 0) : RetR g (n * c) (d * c) w e w' := ⟨h.1, h.2.1.scale hc, h.2.2⟩
theorem RetR.eq {g d d' : Nat} {n n' : Int} {w w' : World} {e : Ending} (h : RetR g n d w e w') (h1 : n = n') (h2 : d = d') : RetR g n' d' w e w' := by subst h1 h2; exact h
theorem sg_natAbs (b : Bool) (N : Nat) : (sg b N).natAbs = N := by unfold sg; cases b <;> simp
theorem sg_neg (b : Bool) (N : Nat) : decide (sg b N < 0) = (b && decide (N ≠ 0)) := by
  unfold sg; cases b
  · simp
  · have : decide (-(N : Int) < 0) = decide (N ≠ 0) := by rw [decide_eq_decide]; omega
    simpa using this
theorem RatV.le {n : Int} {d N D : Nat} {b : Bool} (h : RatV n d b N D) : N ≤ n.natAbs ∧ dd D ≤ d := by
  obtain ⟨k, h0, h1, h2⟩ := h.ex
  constructor
  · rw [h2, Int.natAbs_mul, sg_natAbs, Int.natAbs_natCast]; exact Nat.le_mul_of_pos_left _ (Nat.pos_of_ne_zero h0)
  · rw [h1]; exact Nat.le_mul_of_pos_left _ (Nat.pos_of_ne_zero h0)
theorem RatV.dne {n : Int} {d N D : Nat} {b : Bool} (h : RatV n d b N D) : d ≠ 0 := by
  obtain ⟨k, h0, h1, h2⟩ := h.ex
  rw [h1]; exact Nat.mul_ne_zero h0 (dd_ne D)
theorem digs_len_mul (A B : Nat) : (digs (A * B)).length ≤ (digs A).length + (digs B).length := by
  apply digs_len_le
  rw [Nat.pow_add]
  by_cases h : B = 0
  · subst h; rw [Nat.mul_zero]; exact Nat.mul_pos (Nat.pow_pos (by decide)) (Nat.pow_pos (by decide))
  · exact Nat.lt_of_lt_of_le (Nat.mul_lt_mul_of_pos_right (digs_lt A) (Nat.pos_of_ne_zero h)) (Nat.mul_le_mul_left _ (Nat.le_of_lt (digs_lt B)))
theorem digs_len_add (A B : Nat) {n : Nat} (h1 : (digs A).length ≤ n) (h2 : (digs B).length ≤ n) : (digs (A + B)).length ≤ n + 1 := by
  apply digs_len_le
  have a := digs_lt A
  have b := digs_lt B
  have a2 : 4294967296 ^ (digs A).length ≤ 4294967296 ^ n := Nat.pow_le_pow_right (by decide) h1
  have b2 : 4294967296 ^ (digs B).length ≤ 4294967296 ^ n := Nat.pow_le_pow_right (by decide) h2
  rw [Nat.pow_succ]
  omega
theorem below_c {g D : Nat} {b : Bool} {v1 v2 : Value} {w : World} (h : RatC w g b v1 v2) (hd : IsW w v2 (digs D)) : Calls Try.prog 97 #[.pointer (some ⟨g, 0, none⟩)] w (RetW (dd D) w) := by
  have c2 := h.c2
  have HD := Lib.hid hd
  obtain ⟨s, c, rfl, _, _, _⟩ := hd
  by_cases hz : D = 0
  · subst hz
    have hl : (digs 0).length = 0 := rfl
    go_enter Try.func97, Try.ntmps97
    go_wp2
    go_ret
    exact ⟨_, rfl, isW_new1 _ 1 _, (Grown.refl w).alloc _ _⟩
  · have h0 := digs_len_pos hz
    have hl : (((digs D).length : Int) == 0) = false := by rw [beq_eq_false_iff_ne]; omega
    have HE := Lib.hid (show dd D = D from by unfold dd; rw [if_neg hz])
    go_enter Try.func97, Try.ntmps97
    go_wp2
    go_ret
    exact ⟨_, rfl, by rw [HE.out]; exact HD.out, Grown.refl w⟩
theorem isign_c {g N : Nat} {b : Bool} {v : Value} {w : World} (h : IntC w g b v) (hd : IsW w v (digs N)) (hz : N = 0 → b = false) : Calls Try.prog 109 #[.pointer (some ⟨g, 0, none⟩)] w (RetZ (if sg b N < 0 then -1 else if 0 < sg b N then 1 else 0) w) := by
  have c0 := h.c0
  have c1 := h.c1
  obtain ⟨r, hr⟩ : ∃ r : Int, (if sg b N < 0 then -1 else if 0 < sg b N then 1 else 0) = r := ⟨_, rfl⟩
  rw [hr]
  have HR := Lib.hid hr
  clear hr
  obtain ⟨s, c, rfl, _, _, _⟩ := hd
  by_cases h0 : N = 0
  · subst h0
    have hb := hz rfl
    subst hb
    have hl : (digs 0).length = 0 := rfl
    go_enter Try.func109, Try.ntmps109
    go_wp2
    go_ret
    exact RetZ.mk0 (by rw [← HR.out]; rfl)
  · have h1 := digs_len_pos h0
    have hl : (((digs N).length : Int) == 0) = false := by rw [beq_eq_false_iff_ne]; omega
    have H0 := Lib.hid h0
    cases b
    all_goals
      go_enter Try.func109, Try.ntmps109
      go_wp2
      go_ret
      have := H0.out
      exact RetZ.mk0 (by rw [← HR.out]; unfold sg; simp; omega)
theorem rsign_c {g d : Nat} {n : Int} {w : World} (h : RatAt w g n d) : Calls Try.prog 43 #[.pointer (some ⟨g, 0, none⟩)] w (RetZ (if n < 0 then -1 else if 0 < n then 1 else 0) w) := by
  obtain ⟨b, v1, v2, N, D, h1, h2, h3, h4⟩ := h
  have HS := Lib.hid (isign_c h1.i h2 h4.nz)
  have HE : RowKit.Hid ((if sg b N < 0 then (-1 : Int) else if 0 < sg b N then 1 else 0) = (if n < 0 then -1 else if 0 < n then 1 else 0)) := Lib.hid (by
    obtain ⟨k, k0, _, e⟩ := h4.ex
    have k1 : (0 : Int) < k := by omega
    rw [e]
    rcases Int.lt_trichotomy (sg b N) 0 with p | p | p
    · have := Int.mul_neg_of_pos_of_neg k1 p
      rw [if_pos p, if_pos this]
    · rw [p, Int.mul_zero]
    · have := Int.mul_pos k1 p
      rw [if_neg (by omega), if_pos p, if_neg (by omega), if_pos this])
  obtain ⟨r, hr⟩ : ∃ r : Int, (if n < 0 then -1 else if 0 < n then 1 else 0) = r := ⟨_, rfl⟩
  rw [hr] at HE ⊢
  clear h1 h2 h3 h4 hr
  go_enter Try.func43, Try.ntmps43
  go_wp2_with (first
    | (go_at_call 109; (with_reducible refine HS.out.mono ?_); rw [HE.out]; rintro e w' ⟨n1, rfl, rfl⟩)
    | fail)
  go_ret
  exact RetZ.mk _ rfl
/-- a whole number, set. -/
def RetIS (g : Nat) (S : Int) (w : World) (e : Ending) (w' : World) : Prop :=
  ∃ v, e = .returned (.pointer (some ⟨g, 0, none⟩)) ∧ IsW w' v (digs S.natAbs) ∧ IntC w' g (decide (S < 0)) v ∧ GrB g w w' ∧ ∀ j, 2 ≤ j → w'.cell? ⟨g, j, none⟩ = w.cell? ⟨g, j, none⟩
theorem RetI2.to {g A : Nat} {below : Bool} {S : Int} {w w' : World} {e : Ending} (h : RetI2 g below A w e w') (hS : S = sg below A) : RetIS g S w e w' := by
  obtain ⟨v, h1, h2, h3, h4, h5⟩ := h
  subst hS
  exact ⟨v, h1, by rw [sg_natAbs]; exact h2, by rw [sg_neg]; exact h3, h4, h5⟩
theorem iadded_c {g A B : Nat} {b0 below other : Bool} {v0 va vb : Value} {w : World} (hI : IntC w g b0 v0) (ha : IsW w va (digs A)) (hb : IsW w vb (digs B)) (lA : (digs A).length ≤ 100000) (lB : (digs B).length ≤ 100000) :
    Calls Try.prog 169 #[.pointer (some ⟨g, 0, none⟩), va, .bool below, vb, .bool other] w (RetIS g (sg below A + sg other B) w) := by
  have HI := Lib.hid hI
  have HA := Lib.hid ha
  have HB := Lib.hid hb
  have HS := Lib.hid digs_sm
  have HW := Lib.hid wv_digs
  by_cases hbo : below = other
  · subst hbo
    have HAD := Lib.hid (addW_c ha hb (by omega) (by omega))
    have HE := Lib.hid (show sg below A + sg below B = sg below (A + B) from by unfold sg; cases below <;> simp <;> omega)
    clear hI ha hb
    cases below
    all_goals
      go_enter Try.func169, Try.ntmps169
      go_wp2_with (first
        | (go_at_call 182; (with_reducible refine HAD.out.mono ?_); rintro e w1 ⟨v1, rfl, hv1, hg1⟩; have HV1 := Lib.hid hv1; have HG1 := Lib.hid hg1; clear hv1 hg1)
        | (go_at_call 100; (with_reducible refine (iset_c (HI.out.grown HG1.out) HV1.out (HS.out _) (HW.out _)).mono ?_); rintro e w2 ⟨v2, rfl, hv2, hi2, hg2, hk2⟩)
        | fail)
      go_ret
      exact RetI2.to ⟨v2, rfl, hv2, hi2, (GrB.of HG1.out).trans hg2, fun j hj => (hk2 j hj).trans (grown_cell HG1.out HI.out.lt)⟩ HE.out
  · have hbo2 : (below == other) = false := by simpa using hbo
    by_cases hle : B ≤ A
    · have HSB := Lib.hid (fun n => subW_c (ha.drewN n) (hb.drewN n) hle (by omega))
      have HE := Lib.hid (show sg below A + sg other B = sg below (A - B) from by unfold sg; cases below <;> cases other <;> simp at hbo ⊢ <;> omega)
      have HCM := Lib.hid (cmp_c ha hb)
      have HC := Lib.hid (cmpI_ge' hle)
      clear hI ha hb
      obtain ⟨c, hc⟩ : ∃ c, cmpI A B = c := ⟨_, rfl⟩
      have HCC := Lib.hid hc
      have hc0 : (0 : Int) ≤ c := by rw [← hc]; rcases HC.out with e | e <;> rw [e] <;> decide
      have hc1 : c ≤ 1 := by rw [← hc]; rcases HC.out with e | e <;> rw [e] <;> decide
      clear hc
      cases below <;> cases other <;> simp at hbo
      all_goals
        go_enter Try.func169, Try.ntmps169
        go_wp2_with (first
          | (go_at_call 95; (with_reducible refine HCM.out.mono ?_); rw [HCC.out]; rintro e w0 ⟨n0, rfl, rfl⟩)
          | (go_at_call 183; (with_reducible refine (HSB.out _).mono ?_); rintro e w1 ⟨v1, rfl, hv1, hg1⟩; have HV1 := Lib.hid hv1; have HG1 := Lib.hid (gr_trans (gr_drewN _ (Grown.refl w)) hg1); clear hv1 hg1)
          | (go_at_call 100; (with_reducible refine (iset_c (HI.out.grown HG1.out) HV1.out (HS.out _) (HW.out _)).mono ?_); rintro e w2 ⟨v2, rfl, hv2, hi2, hg2, hk2⟩)
          | fail)
        go_ret
        exact RetI2.to ⟨v2, rfl, hv2, hi2, (GrB.of HG1.out).trans hg2, fun j hj => (hk2 j hj).trans (grown_cell HG1.out HI.out.lt)⟩ HE.out
    · have HSB := Lib.hid (fun n => subW_c (hb.drewN n) (ha.drewN n) (by omega) (by omega))
      have HE := Lib.hid (show sg below A + sg other B = sg other (B - A) from by unfold sg; cases below <;> cases other <;> simp at hbo ⊢ <;> omega)
      have HCM := Lib.hid (cmp_c ha hb)
      have HC := Lib.hid (cmpI_lt (A := A) (B := B) (by omega))
      clear hI ha hb
      cases below <;> cases other <;> simp at hbo
      all_goals
        go_enter Try.func169, Try.ntmps169
        go_wp2_with (first
          | (go_at_call 95; (with_reducible refine HCM.out.mono ?_); rw [HC.out]; rintro e w0 ⟨n0, rfl, rfl⟩)
          | (go_at_call 183; (with_reducible refine (HSB.out _).mono ?_); rintro e w1 ⟨v1, rfl, hv1, hg1⟩; have HV1 := Lib.hid hv1; have HG1 := Lib.hid (gr_trans (gr_drewN _ (Grown.refl w)) hg1); clear hv1 hg1)
          | (go_at_call 100; (with_reducible refine (iset_c (HI.out.grown HG1.out) HV1.out (HS.out _) (HW.out _)).mono ?_); rintro e w2 ⟨v2, rfl, hv2, hi2, hg2, hk2⟩)
          | fail)
        go_ret
        exact RetI2.to ⟨v2, rfl, hv2, hi2, (GrB.of HG1.out).trans hg2, fun j hj => (hk2 j hj).trans (grown_cell HG1.out HI.out.lt)⟩ HE.out
theorem iadd_c {g gx gy A B : Nat} {b0 bx by' : Bool} {v0 vx vy : Value} {w : World} (hI : IntC w g b0 v0) (hx : IntC w gx bx vx) (hy : IntC w gy by' vy) (ha : IsW w vx (digs A)) (hb : IsW w vy (digs B)) (lA : (digs A).length ≤ 100000) (lB : (digs B).length ≤ 100000) :
    Calls Try.prog 144 #[.pointer (some ⟨g, 0, none⟩), .pointer (some ⟨gx, 0, none⟩), .pointer (some ⟨gy, 0, none⟩)] w (RetIS g (sg bx A + sg by' B) w) := by
  have x0 := hx.c0
  have x1 := hx.c1
  have y0 := hy.c0
  have y1 := hy.c1
  have HAD := Lib.hid (fun (W : World) (hg : Grown w W) => iadded_c (below := bx) (other := by') (hI.grown hg) (ha.grown hg) (hb.grown hg) lA lB)
  clear hI hx hy ha hb
  go_enter Try.func144, Try.ntmps144
  go_upto_region 1 with fail
  go_region_with (first
    | (go_at_call 169; (with_reducible refine (HAD.out _ (gr_drew1 (Grown.refl w))).mono ?_); rintro e w1 ⟨v1, rfl, hv1, hi1, hg1, hk1⟩)
    | fail)
  all_goals
    go_wp2_with fail
    go_ret
    exact ⟨v1, rfl, hv1, hi1, hg1, hk1⟩
end Go.Proofs.Ytcfkhhnkboealaa
namespace Go.Proofs.Ytcfkhhnkboealaa
open Go.RowKit
set_option linter.unusedVariables false
set_option linter.unusedSimpArgs false
set_option maxRecDepth 100000
set_option maxHeartbeats 4000000
theorem intNew {w0 w : World} (h : Grown w0 w) (t : TypeId) : IntC (w.alloc (.cells #[.bool false, .slice none 0 0] t)) w.heap.size false (.slice none 0 0) := by
  refine ⟨World.cell?_alloc_new .., World.cell?_alloc_new .., fun j x e => ?_, by rw [size_alloc]; exact Nat.lt_succ_self _, fun j => Row.free ((Grown.refl w).alloc _ _) (Nat.le_refl _)⟩
  rw [World.cell?_alloc_new] at e
  match j, e with
  | 0, e => simp at e
  | 1, e => simp at e
  | k + 2, e => simp at e
theorem sg_of (S : Int) : sg (decide (S < 0)) S.natAbs = S := by
  unfold sg
  by_cases h : S < 0
  · rw [if_pos (by simpa using h)]; omega
  · rw [if_neg (by simpa using h)]; omega
theorem bne_eq (a b : Bool) : (!a == b) = (a != b) := by cases a <;> cases b <;> rfl
theorem sg_and (b : Bool) (N : Nat) : sg (b && decide (N ≠ 0)) N = sg b N := by
  by_cases h : N = 0
  · subst h; cases b <;> rfl
  · simp [h]
theorem radded_c {g gx gy d1 d2 : Nat} {n1 n2 m2 : Int} {turned : Bool} {w : World} (hm : (if turned then -n2 else n2) = m2) (hz : RatZ w g) (hx : RatAt w gx n1 d1) (hy : RatAt w gy n2 d2)
    (ln1 : (digs n1.natAbs).length ≤ 10000) (ld1 : (digs d1).length ≤ 10000) (ln2 : (digs n2.natAbs).length ≤ 10000) (ld2 : (digs d2).length ≤ 10000) :
    Calls Try.prog 93 #[.pointer (some ⟨g, 0, none⟩), .pointer (some ⟨gx, 0, none⟩), .pointer (some ⟨gy, 0, none⟩), .bool turned] w (fun e w' => ∃ w1, Grown w w1 ∧ RetR g (n1 * d2 + m2 * d1) (d1 * d2) w1 e w') := by
  obtain ⟨bx, vx1, vx2, Nx, Dx, hx1, hx2, hx3, hx4⟩ := hx
  obtain ⟨by', vy1, vy2, Ny, Dy, hy1, hy2, hy3, hy4⟩ := hy
  have lNx : (digs Nx).length ≤ 10000 := Nat.le_trans (digs_mono hx4.le.1) ln1
  have lDx : (digs (dd Dx)).length ≤ 10000 := Nat.le_trans (digs_mono hx4.le.2) ld1
  have lNy : (digs Ny).length ≤ 10000 := Nat.le_trans (digs_mono hy4.le.1) ln2
  have lDy : (digs (dd Dy)).length ≤ 10000 := Nat.le_trans (digs_mono hy4.le.2) ld2
  have lA : (digs (Nx * dd Dy)).length ≤ 20000 := Nat.le_trans (digs_len_mul _ _) (by omega)
  have lB : (digs (Ny * dd Dx)).length ≤ 20000 := Nat.le_trans (digs_len_mul _ _) (by omega)
  have lD : (digs (dd Dx * dd Dy)).length ≤ 20000 := Nat.le_trans (digs_len_mul _ _) (by omega)
  have hlt : ∀ x, x < w.heap.size → x ≠ w.heap.size := fun x h => by omega
  have HZ := Lib.hid hz
  have HX1 := Lib.hid hx1
  have HX2 := Lib.hid hx2
  have HX3 := Lib.hid hx3
  have HY1 := Lib.hid hy1
  have HY2 := Lib.hid hy2
  have HY3 := Lib.hid hy3
  have HS := Lib.hid digs_sm
  have HW := Lib.hid wv_digs
  obtain ⟨S, hS⟩ : ∃ S : Int, sg bx (Nx * dd Dy) + sg (by' != turned) (Ny * dd Dx) = S := ⟨_, rfl⟩
  have HSS := Lib.hid hS
  have lS : (digs S.natAbs).length ≤ 20001 := by
    rw [← hS]
    refine Nat.le_trans (digs_mono (Int.natAbs_add_le _ _)) ?_
    rw [sg_natAbs, sg_natAbs]
    exact digs_len_add _ _ lA lB
  have HV : RowKit.Hid (∃ c : Nat, c ≠ 0 ∧ n1 * d2 + m2 * d1 = S * c ∧ d1 * d2 = dd Dx * dd Dy * c) := Lib.hid (by
    obtain ⟨k, k0, e1, e2⟩ := hx4.ex
    obtain ⟨m, m0, f1, f2⟩ := hy4.ex
    refine ⟨k * m, Nat.mul_ne_zero k0 m0, ?_, by rw [e1, f1]; ac_rfl⟩
    rw [← hS, ← hm, e1, e2, f1, f2]
    unfold sg
    cases bx <;> cases by' <;> cases turned <;> simp <;> grind)
  have x0 := hx1.i.c0
  have x1 := hx1.i.c1
  have HLT := Lib.hid (And.intro hx1.i.lt (And.intro hy1.i.lt hz.lt))
  clear hz hx1 hx2 hx3 hx4 hy1 hy2 hy3 hy4 hS hm
  go_enter Try.func93, Try.ntmps93
  go_upto_region 3 with fail
  obtain ⟨W, eW⟩ : ∃ W, ((w.alloc (.cells #[.bool false, .slice none 0 0] 38)).alloc (.cells #[.bool false, .slice none 0 0] 38)) = W := ⟨_, rfl⟩
  rw [eW]
  have HG : RowKit.Hid (Grown w W) := Lib.hid (by rw [← eW]; exact ((Grown.refl w).alloc _ _).alloc _ _)
  have HIA : RowKit.Hid (IntC W w.heap.size false (.slice none 0 0)) := Lib.hid (by
    rw [← eW]; exact (intNew (Grown.refl w) _).grown ((Grown.refl _).alloc _ _))
  have HIB : RowKit.Hid (IntC W (w.heap.size + 1) false (.slice none 0 0)) := Lib.hid (by
    have := intNew (Grown.refl (w.alloc (.cells #[.bool false, .slice none 0 0] 38))) 38
    rw [size_alloc] at this
    rw [← eW]; exact this)
  clear eW
  have x0 := (HX1.out.grown HG.out).i.c0
  have x1 := (HX1.out.grown HG.out).i.c1
  go_region_held3 (fun w' => w'.cell? ⟨gx, 0, none⟩ = some (.bool bx) ∧ w'.cell? ⟨gx, 1, none⟩ = some vx1) (first | exact ⟨by assumption, by assumption⟩ | go_keep) (first
    | (go_at_call 97; (with_reducible refine (below_c (HY1.out.grown (gr_drew1 HG.out)) (HY3.out.grown (gr_drew1 HG.out))).mono ?_); rintro e W1 ⟨u1, rfl, hv, hg⟩; have HU1 := Lib.hid hv; have HG1 := Lib.hid (gr_trans (gr_drew1 (Grown.refl W)) hg); have y0 := (HX1.out.grown (gr_trans HG.out HG1.out)).i.c0; have y1 := (HX1.out.grown (gr_trans HG.out HG1.out)).i.c1; clear hv hg)
    | (go_at_call 96; (with_reducible refine (mulW_c (HX2.out.grown (gr_trans HG.out HG1.out)) HU1.out (Nat.le_trans lNx (by decide)) (Nat.le_trans lDy (by decide))).mono ?_); rintro e W2 ⟨u2, rfl, hv, hg⟩; have HU2 := Lib.hid hv; have HG2 := Lib.hid (gr_trans HG1.out hg); have z0 := (HX1.out.grown (gr_trans HG.out HG2.out)).i.c0; have z1 := (HX1.out.grown (gr_trans HG.out HG2.out)).i.c1; clear hv hg)
    | (go_at_call 100; (with_reducible refine (iset_c (HIA.out.grown HG2.out) HU2.out (HS.out _) (HW.out _)).mono ?_); rintro e W3 ⟨va, rfl, hv, hi, hg, _⟩; have HVA := Lib.hid hv; have HIA3 := Lib.hid hi; have HG3 := Lib.hid (hg.grown (gr_trans HG.out HG2.out) (Nat.le_refl _)); have HIB3 := Lib.hid ((HIB.out.grown HG2.out).kept hg (by omega)); have t0 := (HX1.out.grown HG3.out).i.c0; have t1 := (HX1.out.grown HG3.out).i.c1; clear hv hi hg)
    | fail)
  go_upto_region 4 with fail
  have p0 := (HY1.out.grown HG3.out).i.c0
  have p1 := (HY1.out.grown HG3.out).i.c1
  go_region_held3 (fun w' => w'.cell? ⟨gy, 0, none⟩ = some (.bool by') ∧ w'.cell? ⟨gy, 1, none⟩ = some vy1) (first | exact ⟨by assumption, by assumption⟩ | go_keep) (first
    | (go_at_call 97; (with_reducible refine (below_c (HX1.out.grown (gr_drew1 HG3.out)) (HX3.out.grown (gr_drew1 HG3.out))).mono ?_); rintro e W4 ⟨u3, rfl, hv, hg⟩; have HU3 := Lib.hid hv; have HG4 := Lib.hid (gr_trans (gr_drew1 (Grown.refl W3)) hg); have y0 := (HY1.out.grown (gr_trans HG3.out HG4.out)).i.c0; have y1 := (HY1.out.grown (gr_trans HG3.out HG4.out)).i.c1; clear hv hg)
    | (go_at_call 96; (with_reducible refine (mulW_c (HY2.out.grown (gr_trans HG3.out HG4.out)) HU3.out (Nat.le_trans lNy (by decide)) (Nat.le_trans lDx (by decide))).mono ?_); rintro e W5 ⟨u4, rfl, hv, hg⟩; have HU4 := Lib.hid hv; have HG5 := Lib.hid (gr_trans HG4.out hg); have z0 := (HY1.out.grown (gr_trans HG3.out HG5.out)).i.c0; have z1 := (HY1.out.grown (gr_trans HG3.out HG5.out)).i.c1; clear hv hg)
    | (go_at_call 100; (with_reducible refine (iset_c (HIB3.out.grown HG5.out) HU4.out (HS.out _) (HW.out _)).mono ?_); rintro e W6 ⟨vb, rfl, hv, hi, hg, _⟩; have HVB := Lib.hid hv; have HIB6 := Lib.hid hi; have HG6 := Lib.hid (hg.grown (gr_trans HG3.out HG5.out) (Nat.le_succ _)); have HIA6 := Lib.hid ((HIA3.out.grown HG5.out).kept hg (by omega)); have HVA6 := Lib.hid ((HVA.out.grown HG5.out).kept hg (HIB3.out.grown HG5.out).no); have t0 := (HY1.out.grown HG6.out).i.c0; have t1 := (HY1.out.grown HG6.out).i.c1; clear hv hi hg)
    | fail)
  have HSE := HSS.out
  have HL := HLT.out
  go_upto_region 7 with (first
    | (go_at_call_of 97 (Value.pointer (some (Addr.mk gx 0 none))); (with_reducible refine (below_c (HX1.out.grown HG6.out) (HX3.out.grown HG6.out)).mono ?_); rintro e W7 ⟨u5, rfl, hv, hg⟩; have HU5 := Lib.hid hv; have HG7 := Lib.hid hg; clear hv hg)
    | (go_at_call 97; (with_reducible refine (below_c (HY1.out.grown (gr_trans HG6.out HG7.out)) (HY3.out.grown (gr_trans HG6.out HG7.out))).mono ?_); rintro e W8 ⟨u6, rfl, hv, hg⟩; have HU6 := Lib.hid hv; have HU5' := Lib.hid (HU5.out.grown hg); have HG8 := Lib.hid (gr_trans HG7.out hg); clear hv hg)
    | (go_at_call 96; (with_reducible refine (mulW_c HU5'.out HU6.out (Nat.le_trans lDx (by decide)) (Nat.le_trans lDy (by decide))).mono ?_); rintro e W9 ⟨ud, rfl, hv, hg⟩; have HUD := Lib.hid hv; have HG9 := Lib.hid (gr_trans HG8.out hg); clear hv hg)
    | (go_at_call 144; (with_reducible refine (iadd_c (HIA6.out.grown HG9.out) (HIA6.out.grown HG9.out) (HIB6.out.grown HG9.out) (HVA6.out.grown HG9.out) (HVB.out.grown HG9.out) (Nat.le_trans lA (by decide)) (Nat.le_trans lB (by decide))).mono ?_); rw [sg_and, sg_and, bne_eq, HSE]; rintro e W10 ⟨vs, rfl, hv, hi, hg, _⟩; have HVS := Lib.hid hv; have HIS := Lib.hid hi; have HUDX := Lib.hid (HUD.out.kept hg (HIA6.out.grown HG9.out).no); have HG10 := Lib.hid (hg.grown (gr_trans HG6.out HG9.out) (Nat.le_refl _)); clear hv hi hg)
    | fail)
  have a0 := HIS.out.c0
  have a1 := HIS.out.c1
  have hga : w.heap.size ≠ g := by have := HL.2.2; omega
  go_region_held3 (fun w' => w'.cell? ⟨w.heap.size, 0, none⟩ = some (.bool (decide (S < 0))) ∧ w'.cell? ⟨w.heap.size, 1, none⟩ = some vs) (first | exact ⟨by assumption, by assumption⟩ | go_keep) (first
    | (go_at_call 103; (with_reducible refine (rset_c (HZ.out.grown (gr_drew1 HG10.out)) (HVS.out.grown (gr_drew1 (Grown.refl W10))) (HUDX.out.grown (gr_drew1 (Grown.refl W10))) (Nat.mul_ne_zero (dd_ne Dx) (dd_ne Dy)) (Nat.le_trans lS (by decide)) (Nat.le_trans lD (by decide))).mono ?_); rw [sg_of]; rintro e W11 ⟨rfl, hr, hg⟩; have HR := Lib.hid hr; have HG11 := Lib.hid hg; have q0 := (hg.cell (i := 0) HIS.out.lt hga).trans a0; have q1 := (hg.cell (i := 1) HIS.out.lt hga).trans a1; clear hr hg)
    | fail)
  go_wp2_with fail
  go_ret
  obtain ⟨c, hc, e1, e2⟩ := HV.out
  refine ⟨W10, HG10.out, rfl, ?_, HG11.out⟩
  rw [e1, e2]
  exact HR.out.scale hc
theorem rAdd_c {g gx gy d1 d2 : Nat} {n1 n2 : Int} {w : World} (hz : RatZ w g) (hx : RatAt w gx n1 d1) (hy : RatAt w gy n2 d2)
    (ln1 : (digs n1.natAbs).length ≤ 10000) (ld1 : (digs d1).length ≤ 10000) (ln2 : (digs n2.natAbs).length ≤ 10000) (ld2 : (digs d2).length ≤ 10000) :
    Calls Try.prog 21 #[.pointer (some ⟨g, 0, none⟩), .pointer (some ⟨gx, 0, none⟩), .pointer (some ⟨gy, 0, none⟩)] w (fun e w' => ∃ w1, Grown w w1 ∧ RetR g (n1 * d2 + n2 * d1) (d1 * d2) w1 e w') := by
  have H := Lib.hid (radded_c (turned := false) rfl hz hx hy ln1 ld1 ln2 ld2)
  clear hz hx hy
  go_enter Try.func21, Try.ntmps21
  go_wp2_with (first
    | (go_at_call 93; (with_reducible refine H.out.mono ?_); rintro e w' ⟨w1, hg1, rfl, hr, hg⟩)
    | fail)
  go_ret
  exact ⟨w1, hg1, rfl, hr, hg⟩
theorem rSub_c {g gx gy d1 d2 : Nat} {n1 n2 : Int} {w : World} (hz : RatZ w g) (hx : RatAt w gx n1 d1) (hy : RatAt w gy n2 d2)
    (ln1 : (digs n1.natAbs).length ≤ 10000) (ld1 : (digs d1).length ≤ 10000) (ln2 : (digs n2.natAbs).length ≤ 10000) (ld2 : (digs d2).length ≤ 10000) :
    Calls Try.prog 45 #[.pointer (some ⟨g, 0, none⟩), .pointer (some ⟨gx, 0, none⟩), .pointer (some ⟨gy, 0, none⟩)] w (fun e w' => ∃ w1, Grown w w1 ∧ RetR g (n1 * d2 + (-n2) * d1) (d1 * d2) w1 e w') := by
  have H := Lib.hid (radded_c (turned := true) rfl hz hx hy ln1 ld1 ln2 ld2)
  clear hz hx hy
  go_enter Try.func45, Try.ntmps45
  go_wp2_with (first
    | (go_at_call 93; (with_reducible refine H.out.mono ?_); rintro e w' ⟨w1, hg1, rfl, hr, hg⟩)
    | fail)
  go_ret
  exact ⟨w1, hg1, rfl, hr, hg⟩
theorem pow2_split : ∀ (K k y : Nat), k * y = 2 ^ K → ∃ j, j ≤ K ∧ y = 2 ^ j ∧ k = 2 ^ (K - j)
  | 0, k, y, h => by
    have h1 : k * y = 1 := h
    have h2 := Nat.eq_one_of_mul_eq_one_left h1
    have h3 := Nat.eq_one_of_mul_eq_one_right h1
    first
      | exact ⟨0, Nat.le_refl _, h2, h3⟩
      | exact ⟨0, Nat.le_refl _, h3, h2⟩
  | K + 1, k, y, h => by
    rw [Nat.pow_succ] at h
    rcases Nat.mod_two_eq_zero_or_one y with e | e
    · obtain ⟨z, rfl⟩ : ∃ z, y = 2 * z := ⟨y / 2, by omega⟩
      obtain ⟨j, h1, h2, h3⟩ := pow2_split K k z (by
        have : 2 * (k * z) = 2 * 2 ^ K := by rw [Nat.mul_left_comm] at h; omega
        omega)
      exact ⟨j + 1, by omega, by rw [h2, Nat.pow_succ, Nat.mul_comm], by rw [h3]; congr 1; omega⟩
    · rcases Nat.mod_two_eq_zero_or_one k with f | f
      · obtain ⟨z, rfl⟩ : ∃ z, k = 2 * z := ⟨k / 2, by omega⟩
        obtain ⟨j, h1, h2, h3⟩ := pow2_split K z y (by rw [Nat.mul_assoc] at h; omega)
        have hj : j = 0 := by
          rcases Nat.eq_zero_or_pos j with q | q
          · exact q
          · obtain ⟨i, rfl⟩ : ∃ i, j = i + 1 := ⟨j - 1, by omega⟩
            rw [Nat.pow_succ] at h2
            omega
        subst hj
        exact ⟨0, by omega, h2, by rw [h3, Nat.sub_zero, Nat.sub_zero, Nat.pow_succ, Nat.mul_comm]⟩
      · exfalso
        have : (k * y) % 2 = 1 := by rw [Nat.mul_mod, e, f]
        rw [h] at this
        omega
theorem ratV_pow {n : Int} {K N D : Nat} {b : Bool} (h : RatV n (2 ^ K) b N D) (hn : n ≠ 0) : N ≠ 0 ∧ b = decide (n < 0) ∧ ∃ j : Nat, dd D = 2 ^ j ∧ rndE N (1074 - (j : Int)) = rndE n.natAbs (1074 - (K : Int)) := by
  obtain ⟨k, h0, h1, h2⟩ := h.ex
  obtain ⟨j, hj, e1, e2⟩ := pow2_split K k (dd D) h1.symm
  have hN : N ≠ 0 := by
    rintro rfl
    apply hn
    rw [h2]
    unfold sg
    cases b <;> simp
  refine ⟨hN, ?_, j, e1, ?_⟩
  · rw [h2]
    have k0 : (0 : Int) < k := by omega
    have n0 : (0 : Int) < N := by omega
    have p := Int.mul_pos k0 n0
    unfold sg
    cases b
    · simp; omega
    · simp [Int.mul_neg]; omega
  · have e3 : n.natAbs = N * 2 ^ (K - j) := by rw [h2, Int.natAbs_mul, sg_natAbs, Int.natAbs_natCast, e2, Nat.mul_comm]
    rw [e3, rndE_shift]
    congr 1
    omega
theorem nearest0_c {v1 v2 : Value} {w : World} (b : Bool) (h1 : IsW w v1 (digs 0)) : Calls Try.prog 143 #[.bool b, v1, v2] w (RetNr 0 w) := by
  have hl : (digs 0).length = 0 := rfl
  obtain ⟨s, c, rfl, _, _, _⟩ := h1
  go_enter Try.func143, Try.ntmps143
  go_wp2_with fail
  go_ret2
  exact ⟨_, _, rfl, Rep.c0, Grown.refl w⟩
theorem rfloat_c {g K : Nat} {n : Int} {w : World} (h : RatAt w g n (2 ^ K)) (ln : (digs n.natAbs).length ≤ 500) (lK : K ≤ 10000) :
    Calls Try.prog 91 #[.pointer (some ⟨g, 0, none⟩)] w (RetNr (if n = 0 then 0 else wd (decide (n < 0)) (rndE n.natAbs (1074 - (K : Int)))) w) := by
  obtain ⟨b, v1, v2, N, D, h1, h2, h3, h4⟩ := h
  have c0 := h1.i.c0
  have c1 := h1.i.c1
  have H1 := Lib.hid h1
  have H2 := Lib.hid h2
  have H3 := Lib.hid h3
  have lN : (digs N).length ≤ 500 := Nat.le_trans (digs_mono h4.le.1) ln
  have lD : (digs (dd D)).length ≤ 500 := Nat.le_trans (digs_mono h4.le.2) (by
    have := digs_len_pow (A := 1) (k := K) (m := 500) (by have : bl 1 = 1 := rfl; omega)
    rwa [Nat.one_mul] at this)
  have HNr : RowKit.Hid (∀ (W : World) (v3 : Value), Grown w W → IsW W v3 (digs (dd D)) → Calls Try.prog 143 #[.bool b, v1, v3] W (RetNr (if n = 0 then 0 else wd (decide (n < 0)) (rndE n.natAbs (1074 - (K : Int)))) W)) := Lib.hid (by
    intro W v3 hg hv
    by_cases hn : n = 0
    · rw [if_pos hn]
      obtain ⟨k, k0, _, e2⟩ := h4.ex
      have hN : N = 0 := by
        rw [hn] at e2
        have : sg b N = 0 := by
          rcases Int.mul_eq_zero.1 e2.symm with q | q
          · omega
          · exact q
        have := congrArg Int.natAbs this
        rwa [sg_natAbs] at this
      rw [hN] at h2
      exact nearest0_c b (h2.grown hg)
    · rw [if_neg hn]
      obtain ⟨hN, hb, j, hj, e⟩ := ratV_pow h4 hn
      have := nearest_c b (h2.grown hg) hv hN (dd_ne D) lN lD
      rw [hj, scale_ofInt (nrN_le hN (by rw [← hj]; exact dd_ne D))] at this
      obtain ⟨q, q1, q2⟩ := near_pow (j := j) hN
      rw [q1, q2, e, sgn_ite (rndE_le _ _), hb] at this
      rw [← hb] at this ⊢
      exact this)
  generalize (if n = 0 then 0 else wd (decide (n < 0)) (rndE n.natAbs (1074 - (K : Int)))) = F at *
  clear h1 h2 h3 h4
  go_enter Try.func91, Try.ntmps91
  go_upto_region 1 with fail
  go_region_held3 (fun w' => w'.cell? ⟨g, 0, none⟩ = some (.bool b) ∧ w'.cell? ⟨g, 1, none⟩ = some v1) (first | exact ⟨by assumption, by assumption⟩ | go_keep) (first
    | (go_at_call 97; (with_reducible refine (below_c (H1.out.grown (gr_drew1 (Grown.refl w))) (H3.out.grown (gr_drew1 (Grown.refl w)))).mono ?_); rintro e W1 ⟨u1, rfl, hv, hg⟩; have HU1 := Lib.hid hv; have HG1 := Lib.hid (gr_trans (gr_drew1 (Grown.refl w)) hg); have y0 := (H1.out.grown HG1.out).i.c0; have y1 := (H1.out.grown HG1.out).i.c1; clear hv hg)
    | (go_at_call 143; (with_reducible refine (HNr.out _ _ HG1.out HU1.out).mono ?_); rintro e W2 ⟨r, c, rfl, hr, hg⟩; have HR := Lib.hid hr; have HG2 := Lib.hid (gr_trans HG1.out hg); have z0 := (H1.out.grown HG2.out).i.c0; have z1 := (H1.out.grown HG2.out).i.c1; clear hr hg)
    | fail)
  go_wp2_with fail
  go_ret2
  exact ⟨r, c, rfl, HR.out, HG2.out⟩
end Go.Proofs.Ytcfkhhnkboealaa
namespace Go.Proofs.Ytcfkhhnkboealaa
open Go.RowKit
set_option linter.unusedVariables false
set_option linter.unusedSimpArgs false
set_option maxRecDepth 100000
set_option maxHeartbeats 4000000
theorem U_split {e : Nat} (h : e ≤ 1074) : U = 2 ^ (1074 - e) * 2 ^ e := by
  rw [← Nat.pow_add, show 1074 - e + e = e1 by rw [e1_eq]; omega]; rfl
theorem isW_one (w : World) (t : TypeId) : IsW (w.alloc (.cells #[.int .u32 1] t)) (.slice (some ⟨w.heap.size, 0, none⟩) 1 1) (digs 1) := isW_new1 w 1 t
theorem one_len : (digs 1).length ≤ 50000 := by decide
theorem one_ne : (1 : Nat) ≠ 0 := by decide
theorem rsetf_c {g f : Nat} {w : World} (hz : RatZ w g) (hl : f < 18446744073709551616) (hf : fin f = true) :
    Calls Try.prog 90 #[.pointer (some ⟨g, 0, none⟩), .float .f64 f] w (fun e w' => ∃ w1, Grown w w1 ∧ RetR g (sval f) U w1 e w') := by
  have HZ := Lib.hid hz
  have h1 := exp_bits f hl
  have h2 := mant_bits f hl
  have hs : (((f : Int) / 9223372036854775808) == 1) = sgn f := shr_sign f hl
  have hr : rung f / 4503599627370496 = f / 4503599627370496 % 2048 := (exp_field hl).symm
  have hm : rung f % 4503599627370496 = f % 4503599627370496 := (mant_field f).symm
  have hfr := fin_rung hf
  have hv : mval (rung f) = if rung f < 4503599627370496 then rung f else (4503599627370496 + rung f % 4503599627370496) * 2 ^ (rung f / 4503599627370496 - 1) := rfl
  have hsv : sval f = sg (sgn f) (mval (rung f)) := by unfold sval sg; rfl
  obtain ⟨E, he⟩ : ∃ e, f / 4503599627370496 % 2048 = e := ⟨_, rfl⟩
  obtain ⟨m, hm2⟩ : ∃ m, f % 4503599627370496 = m := ⟨_, rfl⟩
  rw [he] at h1 hr
  rw [hm2] at h2 hm
  have hmb : m < 4503599627370496 := by omega
  have he2 : E < 2047 := by omega
  have HB1 := Lib.hid h1
  have HB2 := Lib.hid h2
  have HS := Lib.hid hs
  -- the figures and their power
  obtain ⟨M, e, hM, hMe, he3, hval⟩ : ∃ M e : Nat, M < 18014398509481984 ∧ (E = 0 ∧ M = m ∧ e = 0 ∨ E ≠ 0 ∧ M = 4503599627370496 + m ∧ e + 1 = E) ∧ e ≤ 2045 ∧ mval (rung f) = M * 2 ^ e := by
    by_cases h0 : E = 0
    · exact ⟨m, 0, by omega, .inl ⟨h0, rfl, rfl⟩, by omega, by rw [hv, if_pos (by omega), Nat.pow_zero, Nat.mul_one]; omega⟩
    · exact ⟨4503599627370496 + m, E - 1, by omega, .inr ⟨h0, rfl, by omega⟩, by omega, by rw [hv, if_neg (by omega), hm, hr]⟩
  have HB3 : RowKit.Hid (bits .or .u64 (m : Int) 4503599627370496 = ((4503599627370496 + m : Nat) : Int)) := Lib.hid (lead_bits m hmb)
  have HX : RowKit.Hid (∀ (e' : Ending) (w1 w' : World), (1074 ≤ e → RetR g (sg (sgn f) (M * 2 ^ (e - 1074))) 1 w1 e' w' → RetR g (sval f) U w1 e' w') ∧ (∀ K, K + e = 1074 → RetR g (sg (sgn f) M) (1 * 2 ^ K) w1 e' w' → RetR g (sval f) U w1 e' w')) := Lib.hid (by
    intro e' w1 w'
    constructor
    · intro h k
      refine (k.scale (c := U) (Nat.ne_of_gt U_pos)).eq ?_ (Nat.one_mul _)
      rw [hsv, hval]
      have : M * 2 ^ (e - 1074) * U = M * 2 ^ e := by rw [U_pow, Nat.mul_assoc, ← Nat.pow_add, e1_eq, show e - 1074 + 1074 = e by omega]
      rw [← this]
      unfold sg
      cases sgn f <;> simp [Int.natCast_mul, Int.neg_mul]
    · intro K h k
      refine (k.scale (c := 2 ^ e) (Nat.ne_of_gt (Nat.two_pow_pos e))).eq ?_ ?_
      · rw [hsv, hval]
        unfold sg
        cases sgn f <;> simp [Int.natCast_mul, Int.neg_mul]
      · rw [Nat.one_mul, U_split (e := e) (by omega), show 1074 - e = K by omega])
  have lM : (digs M).length ≤ 2 := digs_len_le (by rw [show (4294967296 : Nat) ^ 2 = 18446744073709551616 by decide]; omega)
  have HMU := Lib.hid (fun W => fromUint_c M (by omega) W)
  clear h1 h2 hs hr hm hfr hv hsv hm2 hval hz hl hf he
  have hM64 : M < 18446744073709551616 := by omega
  rcases (show (E = 0 ∧ M = m ∧ e = 0) ∨ (E ≠ 0 ∧ M = 4503599627370496 + m ∧ e + 1 = E ∧ e < 1074) ∨ (E ≠ 0 ∧ M = 4503599627370496 + m ∧ e + 1 = E ∧ 1074 ≤ e) by omega) with ⟨rfl, rfl, rfl⟩ | ⟨hE, hMm, hE1, he4⟩ | ⟨hE, hMm, hE1, he4⟩
  · obtain ⟨K, hK⟩ : ∃ K : Nat, K = 1074 := ⟨1074, rfl⟩
    have hKi : (1074 : Int) = (K : Int) := by omega
    have HKI := Lib.hid hKi
    have HXK := Lib.hid (fun e' w1 w' => (HX.out e' w1 w').2 K (by omega))
    have HD1 := Lib.hid (show (1 : Nat) * 2 ^ K ≠ 0 from Nat.mul_ne_zero (by decide) (Nat.ne_of_gt (Nat.two_pow_pos _)))
    have HLD := Lib.hid (show (digs (1 * 2 ^ K)).length ≤ 50000 from Nat.le_trans (digs_len_pow (A := 1) (k := K) (m := 40) (by have : bl 1 = 1 := rfl; omega)) (by decide))
    have hK2 : K ≤ 100000 := by omega
    clear hKi hK HX
    go_enter Try.func90, Try.ntmps90
    go_wp2_with (first
      | (simp only [HB1.out, HB2.out])
      | (go_at_call 142; (with_reducible refine (HMU.out _).mono ?_); rintro e1 w1 ⟨v1, rfl, hv1, hg1⟩; have HV1 := Lib.hid hv1; have HG1 := Lib.hid hg1; clear hv1 hg1)
      | (go_at_call 101; go_loud (rw [HKI.out]; (with_reducible refine (upW_c (A := 1) K (isW_one w1 _) hK2 (by decide)).mono ?_)); rintro e2 w2 ⟨v2, rfl, hv2, hg2⟩; have HV2 := Lib.hid hv2; have HG2 := Lib.hid (gr_trans ((Grown.refl w1).alloc _ _) hg2); clear hv2 hg2)
      | (go_at_call 103; go_loud ((with_reducible refine (rset_c (HZ.out.grown (gr_trans HG1.out HG2.out)) (HV1.out.grown HG2.out) HV2.out HD1.out (Nat.le_trans lM (by decide)) HLD.out).mono ?_); rintro e4 w4 ⟨rfl, hr, hg⟩))
      | fail)
    go_ret
    rw [HS.out] at hr
    exact ⟨w2, gr_trans HG1.out HG2.out, HXK.out _ _ _ ⟨rfl, hr, hg⟩⟩
  · obtain ⟨K, hK⟩ : ∃ K : Nat, K + e = 1074 := ⟨1074 - e, by omega⟩
    have HKI := Lib.hid (show (1075 : Int) - (E : Int) = (K : Int) from by omega)
    have HXK := Lib.hid (fun e' w1 w' => (HX.out e' w1 w').2 K hK)
    have HD1 := Lib.hid (show (1 : Nat) * 2 ^ K ≠ 0 from Nat.mul_ne_zero (by decide) (Nat.ne_of_gt (Nat.two_pow_pos _)))
    have HLD := Lib.hid (show (digs (1 * 2 ^ K)).length ≤ 50000 from Nat.le_trans (digs_len_pow (A := 1) (k := K) (m := 40) (by have : bl 1 = 1 := rfl; omega)) (by decide))
    have hK2 : K ≤ 100000 := by omega
    rw [← hMm] at HB3
    have hE2 : (0 : Int) < (E : Int) := by omega
    have hE3 : ¬ (1075 : Int) ≤ (E : Int) := by omega
    clear hK HX hMm
    go_enter Try.func90, Try.ntmps90
    go_wp2_with (first
      | (simp only [HB1.out, HB2.out, HB3.out])
      | (go_at_call 142; (with_reducible refine (HMU.out _).mono ?_); rintro e1 w1 ⟨v1, rfl, hv1, hg1⟩; have HV1 := Lib.hid hv1; have HG1 := Lib.hid hg1; clear hv1 hg1)
      | (go_at_call 101; go_loud (rw [HKI.out]; (with_reducible refine (upW_c (A := 1) K (isW_one w1 _) hK2 (by decide)).mono ?_)); rintro e2 w2 ⟨v2, rfl, hv2, hg2⟩; have HV2 := Lib.hid hv2; have HG2 := Lib.hid (gr_trans ((Grown.refl w1).alloc _ _) hg2); clear hv2 hg2)
      | (go_at_call 103; go_loud ((with_reducible refine (rset_c (HZ.out.grown (gr_trans HG1.out HG2.out)) (HV1.out.grown HG2.out) HV2.out HD1.out (Nat.le_trans lM (by decide)) HLD.out).mono ?_); rintro e4 w4 ⟨rfl, hr, hg⟩))
      | fail)
    go_ret
    rw [HS.out] at hr
    exact ⟨w2, gr_trans HG1.out HG2.out, HXK.out _ _ _ ⟨rfl, hr, hg⟩⟩
  · obtain ⟨K, hK⟩ : ∃ K : Nat, K = e - 1074 := ⟨e - 1074, rfl⟩
    have HKI := Lib.hid (show (E : Int) - 1075 = (K : Int) from by omega)
    have HXK := Lib.hid (fun e' w1 w' => (HX.out e' w1 w').1 he4)
    rw [← hK] at HXK
    have HLD := Lib.hid (show (digs (M * 2 ^ K)).length ≤ 50000 from Nat.le_trans (digs_len_shift _ _) (by omega))
    have hK2 : K ≤ 100000 := by omega
    rw [← hMm] at HB3
    have hE2 : (0 : Int) < (E : Int) := by omega
    have hE3 : (1075 : Int) ≤ (E : Int) := by omega
    clear hK HX hMm
    go_enter Try.func90, Try.ntmps90
    go_wp2_with (first
      | (simp only [HB1.out, HB2.out, HB3.out])
      | (go_at_call 142; (with_reducible refine (HMU.out _).mono ?_); rintro e1 w1 ⟨v1, rfl, hv1, hg1⟩; have HV1 := Lib.hid hv1; have HG1 := Lib.hid hg1; clear hv1 hg1)
      | (go_at_call 101; rw [HKI.out]; (with_reducible refine (upW_c K (HV1.out.grown ((Grown.refl w1).alloc _ _)) hK2 (Nat.le_trans lM (by decide))).mono ?_); rintro e2 w2 ⟨v2, rfl, hv2, hg2⟩; have HV2 := Lib.hid hv2; have HG2 := Lib.hid (gr_trans ((Grown.refl w1).alloc _ _) hg2); have HD1 := Lib.hid ((isW_one w1 153).grown hg2); clear hv2 hg2)
      | (go_at_call 103; go_loud ((with_reducible refine (rset_c (HZ.out.grown (gr_trans HG1.out HG2.out)) HV2.out HD1.out one_ne HLD.out one_len).mono ?_); rintro e4 w4 ⟨rfl, hr, hg⟩))
      | fail)
    go_ret
    rw [HS.out] at hr
    exact ⟨w2, gr_trans HG1.out HG2.out, HXK.out _ _ _ ⟨rfl, hr, hg⟩⟩
def RetIG (i : Int) (w : World) (e : Ending) (w' : World) : Prop := e = .returned (.int .i64 i) ∧ Grown w w'
/-- how two fractions compare. -/
def cmpQ (n1 : Int) (d1 : Nat) (n2 : Int) (d2 : Nat) : Int := if n1 * d2 < n2 * d1 then -1 else if n2 * d1 < n1 * d2 then 1 else 0
def sgI (n : Int) : Int := if n < 0 then -1 else if 0 < n then 1 else 0
theorem cmpQ_sign {n1 n2 : Int} {d1 d2 : Nat} (h1 : d1 ≠ 0) (h2 : d2 ≠ 0) (h : sgI n1 ≠ sgI n2 ∨ sgI n1 = 0) : cmpQ n1 d1 n2 d2 = (if sgI n1 < sgI n2 then -1 else if sgI n2 < sgI n1 then 1 else 0) := by
  have k1 : (0 : Int) < d1 := by omega
  have k2 : (0 : Int) < d2 := by omega
  unfold cmpQ
  unfold sgI at *
  rcases Int.lt_trichotomy n1 0 with a | a | a <;> rcases Int.lt_trichotomy n2 0 with b | b | b
  · simp [a, b] at h
  · subst b; have := Int.mul_neg_of_neg_of_pos a k2; simp [a, this]
  · have p := Int.mul_neg_of_neg_of_pos a k2; have q := Int.mul_pos b k1
    have e2 : ¬ n2 < 0 := by omega
    have e3 : n1 * d2 < n2 * d1 := by omega
    simp [a, b, e2, e3]
  · subst a; have := Int.mul_neg_of_neg_of_pos b k1; simp [b]; omega
  · subst a b; simp
  · subst a; have := Int.mul_pos b k1; simp [b, this]; omega
  · have p := Int.mul_neg_of_neg_of_pos b k1; have q := Int.mul_pos a k2
    have e1 : ¬ n1 < 0 := by omega
    have e3 : n2 * d1 < n1 * d2 := by omega
    have e4 : ¬ n1 * d2 < n2 * d1 := by omega
    simp [a, b, e1, e3, e4]
  · subst b; have := Int.mul_pos a k2; simp [a, this]; omega
  · have e1 : ¬ n1 < 0 := by omega
    have e2 : ¬ n2 < 0 := by omega
    simp [a, b, e1, e2] at h
theorem cmpQ_abs {n1 n2 : Int} {d1 d2 N1 N2 D1 D2 : Nat} {b1 b2 : Bool} (h1 : RatV n1 d1 b1 N1 D1) (h2 : RatV n2 d2 b2 N2 D2) (h : sgI n1 = sgI n2) (h0 : sgI n1 ≠ 0) : cmpQ n1 d1 n2 d2 = (if b1 then -cmpI (N1 * dd D2) (N2 * dd D1) else cmpI (N1 * dd D2) (N2 * dd D1)) ∧ b1 = decide (n1 < 0) := by
  obtain ⟨k, k0, e1, e2⟩ := h1.ex
  obtain ⟨m, m0, f1, f2⟩ := h2.ex
  have kp : (0 : Int) < k := by omega
  have mp : (0 : Int) < m := by omega
  have km : (0 : Int) < (k : Int) * m := Int.mul_pos kp mp
  have hs1 : b1 = decide (n1 < 0) := by
    rw [e2]
    unfold sg
    cases b1
    · have := Int.mul_nonneg (Int.le_of_lt kp) (show (0 : Int) ≤ N1 by omega)
      simp; omega
    · have : N1 ≠ 0 := fun e => by have := h1.nz e; cases this
      have := Int.mul_pos kp (show (0 : Int) < N1 by omega)
      simp [Int.mul_neg]; omega
  have hs2 : b2 = decide (n2 < 0) := by
    rw [f2]
    unfold sg
    cases b2
    · have := Int.mul_nonneg (Int.le_of_lt mp) (show (0 : Int) ≤ N2 by omega)
      simp; omega
    · have : N2 ≠ 0 := fun e => by have := h2.nz e; cases this
      have := Int.mul_pos mp (show (0 : Int) < N2 by omega)
      simp [Int.mul_neg]; omega
  have hb : b1 = b2 := by
    rw [hs1, hs2]
    unfold sgI at h h0
    by_cases a : n1 < 0 <;> by_cases b : n2 < 0 <;> simp [a, b] at h ⊢
    · split at h <;> omega
    · split at h <;> omega
  refine ⟨?_, hs1⟩
  have g1 : n1 * d2 = (k * m) * (sg b1 N1 * dd D2) := by rw [e2, f1, Int.natCast_mul]; ac_rfl
  have g2 : n2 * d1 = (k * m) * (sg b1 N2 * dd D1) := by rw [f2, e1, hb, Int.natCast_mul]; ac_rfl
  have c1 : ∀ x y : Int, ((k : Int) * m * x < k * m * y) ↔ x < y := fun x y => ⟨fun h => Int.lt_of_mul_lt_mul_left h (Int.le_of_lt km), fun h => Int.mul_lt_mul_of_pos_left h km⟩
  unfold cmpQ
  rw [g1, g2]
  simp only [c1]
  unfold cmpI sg
  have x1 : ((N1 : Int) * (dd D2 : Nat)) = ((N1 * dd D2 : Nat) : Int) := (Int.natCast_mul _ _).symm
  have x2 : ((N2 : Int) * (dd D1 : Nat)) = ((N2 * dd D1 : Nat) : Int) := (Int.natCast_mul _ _).symm
  cases b1
  · simp only [Bool.false_eq_true, if_false, x1, x2, Int.ofNat_lt]
  · simp only [if_true, Int.neg_mul, x1, x2]
    generalize N1 * dd D2 = P
    generalize N2 * dd D1 = R
    split <;> split <;> (try split) <;> (try split) <;> omega
theorem rcmp_c {gx gy d1 d2 : Nat} {n1 n2 : Int} {w : World} (hx : RatAt w gx n1 d1) (hy : RatAt w gy n2 d2)
    (ln1 : (digs n1.natAbs).length ≤ 10000) (ld1 : (digs d1).length ≤ 10000) (ln2 : (digs n2.natAbs).length ≤ 10000) (ld2 : (digs d2).length ≤ 10000) :
    Calls Try.prog 25 #[.pointer (some ⟨gx, 0, none⟩), .pointer (some ⟨gy, 0, none⟩)] w (RetIG (cmpQ n1 d1 n2 d2) w) := by
  have HS1 := Lib.hid (fun (W : World) (hg : Grown w W) => rsign_c (hx.grown hg))
  have HS2 := Lib.hid (fun (W : World) (hg : Grown w W) => rsign_c (hy.grown hg))
  obtain ⟨bx, vx1, vx2, Nx, Dx, hx1, hx2, hx3, hx4⟩ := hx
  obtain ⟨by', vy1, vy2, Ny, Dy, hy1, hy2, hy3, hy4⟩ := hy
  have lNx : (digs Nx).length ≤ 10000 := Nat.le_trans (digs_mono hx4.le.1) ln1
  have lDx : (digs (dd Dx)).length ≤ 10000 := Nat.le_trans (digs_mono hx4.le.2) ld1
  have lNy : (digs Ny).length ≤ 10000 := Nat.le_trans (digs_mono hy4.le.1) ln2
  have lDy : (digs (dd Dy)).length ≤ 10000 := Nat.le_trans (digs_mono hy4.le.2) ld2
  have HX1 := Lib.hid hx1
  have HX2 := Lib.hid hx2
  have HX3 := Lib.hid hx3
  have HY1 := Lib.hid hy1
  have HY2 := Lib.hid hy2
  have HY3 := Lib.hid hy3
  have HD1 := hx4.dne
  have HD2 := hy4.dne
  obtain ⟨s1, hs1⟩ : ∃ s, sgI n1 = s := ⟨_, rfl⟩
  obtain ⟨s2, hs2⟩ : ∃ s, sgI n2 = s := ⟨_, rfl⟩
  have HE1 := Lib.hid hs1
  have HE2 := Lib.hid hs2
  obtain ⟨R, hR⟩ : ∃ R, cmpQ n1 d1 n2 d2 = R := ⟨_, rfl⟩
  rw [hR]
  have b1 : s1 = -1 ∨ s1 = 0 ∨ s1 = 1 := by rw [← hs1]; unfold sgI; split <;> (try split) <;> omega
  have b2 : s2 = -1 ∨ s2 = 0 ∨ s2 = 1 := by rw [← hs2]; unfold sgI; split <;> (try split) <;> omega
  by_cases h : s1 ≠ s2 ∨ s1 = 0
  · have HRR : RowKit.Hid ((if s1 < s2 then -1 else if s2 < s1 then 1 else 0) = R) := Lib.hid (by
      rw [← hR, cmpQ_sign HD1 HD2 (by rw [hs1, hs2]; exact h), hs1, hs2])
    clear hx1 hx2 hx3 hx4 hy1 hy2 hy3 hy4 hs1 hs2 hR HD1 HD2
    rcases b1 with rfl | rfl | rfl <;> rcases b2 with rfl | rfl | rfl <;> simp at h
    all_goals
      go_enter Try.func25, Try.ntmps25
      go_wp2_with (first
        | (go_at_call_of 43 (Value.pointer (some (Addr.mk gx 0 none))); (with_reducible refine (HS1.out _ (by first | exact Grown.refl _ | exact gr_drewN _ (Grown.refl _))).mono ?_); rw [show (if n1 < 0 then (-1 : Int) else if 0 < n1 then 1 else 0) = _ from HE1.out]; rintro e w' ⟨m1, rfl, rfl⟩)
        | (go_at_call 43; (with_reducible refine (HS2.out _ (by first | exact Grown.refl _ | exact gr_drewN _ (Grown.refl _))).mono ?_); rw [show (if n2 < 0 then (-1 : Int) else if 0 < n2 then 1 else 0) = _ from HE2.out]; rintro e w' ⟨m1, rfl, rfl⟩)
        | fail)
      go_ret
      exact ⟨by rw [← HRR.out]; rfl, gr_drewN _ (Grown.refl w)⟩
  · have hss : s1 = s2 := by omega
    have hs0 : s1 ≠ 0 := by omega
    have hq := cmpQ_abs hx4 hy4 (by rw [hs1, hs2]; exact hss) (by rw [hs1]; exact hs0)
    rw [hR] at hq
    have HQ := Lib.hid hq.1
    have hbx : bx = decide (s1 < 0) := by rw [hq.2, ← hs1]; unfold sgI; by_cases a : n1 < 0 <;> simp [a]; split <;> omega
    subst hss
    have hb1 : s1 = -1 ∧ bx = true ∨ s1 = 1 ∧ bx = false := by
      rcases b1 with rfl | rfl | rfl
      · exact .inl ⟨rfl, hbx⟩
      · exact absurd rfl hs0
      · exact .inr ⟨rfl, hbx⟩
    obtain ⟨c, hc⟩ : ∃ c, cmpI (Nx * dd Dy) (Ny * dd Dx) = c := ⟨_, rfl⟩
    have HCC := Lib.hid hc
    have hcb : -1 ≤ c ∧ c ≤ 1 := by rw [← hc]; unfold cmpI; split <;> (try split) <;> omega
    rw [hc] at HQ
    clear hx1 hx2 hx3 hx4 hy1 hy2 hy3 hy4 hs1 hs2 hR HD1 HD2 hq hbx hc h b1 b2
    rcases hb1 with ⟨rfl, rfl⟩ | ⟨rfl, rfl⟩
    all_goals
      go_enter Try.func25, Try.ntmps25
      go_upto_region 7 with (first
        | (go_at_call_of 43 (Value.pointer (some (Addr.mk gx 0 none))); (with_reducible refine (HS1.out _ (by first | exact Grown.refl _ | exact gr_drewN _ (Grown.refl _))).mono ?_); rw [show (if n1 < 0 then (-1 : Int) else if 0 < n1 then 1 else 0) = _ from HE1.out]; rintro e w' ⟨m1, rfl, rfl⟩)
        | (go_at_call 43; (with_reducible refine (HS2.out _ (by first | exact Grown.refl _ | exact gr_drewN _ (Grown.refl _))).mono ?_); rw [show (if n2 < 0 then (-1 : Int) else if 0 < n2 then 1 else 0) = _ from HE2.out]; rintro e w' ⟨m1, rfl, rfl⟩)
        | fail)
      generalize eW : w.drewN _ = W
      have HG : RowKit.Hid (Grown w W.drew) := Lib.hid (by rw [← eW]; exact gr_drew1 (gr_drewN _ (Grown.refl w)))
      clear eW
      have x1 := (HX1.out.grown HG.out).i.c1
      have y1 := (HY1.out.grown HG.out).i.c1
      go_region_held3 (fun w' => w'.cell? ⟨gx, 1, none⟩ = some vx1 ∧ w'.cell? ⟨gy, 1, none⟩ = some vy1) (first | exact ⟨by assumption, by assumption⟩ | go_keep) (first
        | (go_at_call_of 97 (Value.pointer (some (Addr.mk gy 0 none))); (with_reducible refine (below_c (HY1.out.grown HG.out) (HY3.out.grown HG.out)).mono ?_); rintro e W1 ⟨u1, rfl, hv, hg⟩; have HG := Lib.hid (gr_trans HG.out hg); (try have HU1 := Lib.hid (HU1.out.grown hg)); (try have HU2 := Lib.hid (HU2.out.grown hg)); (try have HM1 := Lib.hid (HM1.out.grown hg)); (try have HM2 := Lib.hid (HM2.out.grown hg)); have x1 := (HX1.out.grown HG.out).i.c1; have y1 := (HY1.out.grown HG.out).i.c1; have HU1 := Lib.hid hv; clear hv hg)
        | (go_at_call 97; (with_reducible refine (below_c (HX1.out.grown HG.out) (HX3.out.grown HG.out)).mono ?_); rintro e W1 ⟨u2, rfl, hv, hg⟩; have HG := Lib.hid (gr_trans HG.out hg); (try have HU1 := Lib.hid (HU1.out.grown hg)); (try have HU2 := Lib.hid (HU2.out.grown hg)); (try have HM1 := Lib.hid (HM1.out.grown hg)); (try have HM2 := Lib.hid (HM2.out.grown hg)); have x1 := (HX1.out.grown HG.out).i.c1; have y1 := (HY1.out.grown HG.out).i.c1; have HU2 := Lib.hid hv; clear hv hg)
        | (go_at_call_of 96 vx1; (with_reducible refine (mulW_c (HX2.out.grown HG.out) HU1.out (Nat.le_trans lNx (by decide)) (Nat.le_trans lDy (by decide))).mono ?_); rintro e W1 ⟨p1, rfl, hv, hg⟩; have HG := Lib.hid (gr_trans HG.out hg); (try have HU1 := Lib.hid (HU1.out.grown hg)); (try have HU2 := Lib.hid (HU2.out.grown hg)); (try have HM1 := Lib.hid (HM1.out.grown hg)); (try have HM2 := Lib.hid (HM2.out.grown hg)); have x1 := (HX1.out.grown HG.out).i.c1; have y1 := (HY1.out.grown HG.out).i.c1; have HM1 := Lib.hid hv; clear hv hg)
        | (go_at_call_of 96 vy1; (with_reducible refine (mulW_c (HY2.out.grown HG.out) HU2.out (Nat.le_trans lNy (by decide)) (Nat.le_trans lDx (by decide))).mono ?_); rintro e W1 ⟨p2, rfl, hv, hg⟩; have HG := Lib.hid (gr_trans HG.out hg); (try have HU1 := Lib.hid (HU1.out.grown hg)); (try have HU2 := Lib.hid (HU2.out.grown hg)); (try have HM1 := Lib.hid (HM1.out.grown hg)); (try have HM2 := Lib.hid (HM2.out.grown hg)); have x1 := (HX1.out.grown HG.out).i.c1; have y1 := (HY1.out.grown HG.out).i.c1; have HM2 := Lib.hid hv; clear hv hg)
        | (go_at_call 95; (with_reducible refine (cmp_c HM1.out HM2.out).mono ?_); rw [HCC.out]; rintro e W2 ⟨m9, rfl, rfl⟩; have HG := Lib.hid (gr_drewN m9 HG.out); have x1 := (HX1.out.grown HG.out).i.c1; have y1 := (HY1.out.grown HG.out).i.c1; have x0 := (HX1.out.grown HG.out).i.c0)
        | fail)
      all_goals
        go_wp2_with fail
        go_ret
        exact ⟨by rw [HQ.out]; rfl, HG.out⟩
end Go.Proofs.Ytcfkhhnkboealaa
