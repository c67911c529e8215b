/- Whole numbers and fractions in memory: set, and what stays. -/
import Derived.Test.YtcfkhhnkboealaaCom
import Derived.Deep.RegionHeld3
import Derived.StillTailTactics
namespace Go.Proofs.Ytcfkhhnkboealaa
open Go.RowKit
set_option linter.unusedVariables false
set_option linter.unusedSimpArgs false
set_option maxRecDepth 100000
set_option maxHeartbeats 4000000
/-- w' is w with new blocks, and the block g may have turned. -/
def GrB (g : Nat) (w w' : World) : Prop := w.keptBut w' (fun p => ∃ j, p = .cell g j) ∧ (∀ a, w'.frozen? a = w.frozen? a) ∧ w.heap.size ≤ w'.heap.size
theorem GrB.of {g : Nat} {w w' : World} (h : Grown w w') : GrB g w w' := ⟨World.keptBut_mono (fun _ f => f.elim) h.1, h.2.1, h.2.2⟩
theorem GrB.refl (g : Nat) (w : World) : GrB g w w := GrB.of (Grown.refl w)
theorem GrB.trans {g : Nat} {a b c : World} (h : GrB g a b) (k : GrB g b c) : GrB g a c := ⟨World.keptBut_trans h.1 k.1, fun x => (k.2.1 x).trans (h.2.1 x), Nat.le_trans h.2.2 k.2.2⟩
theorem GrB.drewN {g : Nat} {w w' : World} (n : Nat) (h : GrB g w w') : GrB g w (w'.drewN n) := h
theorem GrB.cell {g : Nat} {w w' : World} (h : GrB g w w') {b i : Nat} (hb : b < w.heap.size) (hne : b ≠ g) : w'.cell? ⟨b, i, none⟩ = w.cell? ⟨b, i, none⟩ :=
  h.1.cell hb (by rintro ⟨j, e⟩; injection e with e1 e2; exact hne e1)
theorem GrB.set {g : Nat} {w w' : World} (h : GrB g w w') (i : Nat) (v : Value) : GrB g w (w'.setCell ⟨g, i, none⟩ v) :=
  ⟨World.keptBut_trans h.1 (World.keptBut_setCell w' _ v ⟨i, rfl⟩), fun a => (World.frozen?_setCell _ _ _ _).trans (h.2.1 a), by rw [size_setCell]; exact h.2.2⟩
theorem GrB.grown {g : Nat} {w0 w w' : World} (h : GrB g w w') (h0 : Grown w0 w) (hg : w0.heap.size ≤ g) : Grown w0 w' := by
  have k := World.keptBut_trans (World.keptBut_mono (fun _ f => f.elim) h0.1) h.1
  refine ⟨⟨k.1, k.2.1, fun i hi => ?_⟩, fun a => (h.2.1 a).trans (h0.2.1 a), Nat.le_trans h0.2.2 h.2.2⟩
  have k3 := k.2.2 i hi
  cases h1 : w0.heap[i]? with
  | none => rw [h1] at k3; cases h2 : w'.heap[i]? <;> rw [h2] at k3 <;> simp at k3 ⊢
  | some o =>
    cases h2 : w'.heap[i]? with
    | none => rw [h1, h2] at k3; cases o <;> simp at k3
    | some o' =>
      rw [h1, h2] at k3
      cases o <;> cases o' <;> simp at k3 ⊢ <;> try exact k3
      obtain ⟨a1, a2, a3, a4⟩ := k3
      exact ⟨a1, a2, a3, fun j => a4 j (fun e => by omega)⟩
/-- no word lies in the block. -/
def NoInt (w : World) (g : Nat) : Prop := ∀ (j : Nat) (x : Int), w.cell? ⟨g, j, none⟩ ≠ some (.int .u32 x)
theorem NoInt.grown {w w' : World} {g : Nat} (h : NoInt w g) (k : Grown w w') (hg : g < w.heap.size) : NoInt w' g := fun j x => by rw [grown_cell k hg]; exact h j x
theorem NoInt.kept {w w' : World} {g g' : Nat} (h : NoInt w g) (k : GrB g' w w') (hg : g < w.heap.size) (hne : g ≠ g') : NoInt w' g := fun j x => by rw [k.cell hg hne]; exact h j x
theorem NoInt.set {w : World} {g i : Nat} {v : Value} (h : NoInt w g) (hv : ∀ x, v ≠ .int .u32 x) : NoInt (w.setCell ⟨g, i, none⟩ v) g := fun j x => by
  by_cases e : j = i
  · subst e
    cases hc : w.cell? ⟨g, j, none⟩ with
    | none =>
      intro h2
      have : (w.setCell ⟨g, j, none⟩ v).cell? ⟨g, j, none⟩ = none := by
        unfold World.cell? at hc ⊢
        simp only [World.setCell, Array.getElem?_modify, if_true] at hc ⊢
        cases hh : w.heap[g]? with
        | none => rfl
        | some o =>
          rw [hh] at hc
          cases o <;> simp at hc ⊢
          exact hc
      rw [this] at h2; cases h2
    | some u => rw [World.cell?_setCell_same _ _ _ hc]; intro h2; injection h2 with h2; exact hv x h2
  · rw [World.cell?_setCell_other _ _ _ _ (by intro h; injection h with _ h2; exact e h2.symm)]; exact h j x
theorem IsW.apart {w : World} {v : Value} {l : List Nat} {g : Nat} (h : IsW w v l) (hn : NoInt w g) : ∃ s cap, v = .slice s l.length cap ∧ l.length ≤ cap ∧ cap ≤ 1000000000 ∧ (l ≠ [] → ∃ b off, s = some ⟨b, off, none⟩ ∧ b ≠ g ∧ b < w.heap.size ∧ ∀ j, j < l.length → w.cell? ⟨b, off + j, none⟩ = some (.int .u32 ((l.getD j 0 : Nat) : Int))) := by
  obtain ⟨s, cap, e, h1, h2, h3⟩ := h
  refine ⟨s, cap, e, h1, h2, fun hl => ?_⟩
  obtain ⟨b, off, e1, hb, hc⟩ := h3 hl
  refine ⟨b, off, e1, ?_, hb, hc⟩
  rintro rfl
  exact hn _ _ (hc 0 (List.length_pos_iff.2 hl))
theorem IsW.kept {w w' : World} {v : Value} {l : List Nat} {g : Nat} (h : IsW w v l) (k : GrB g w w') (hn : NoInt w g) : IsW w' v l := by
  obtain ⟨s, cap, e, h1, h2, h3⟩ := h.apart hn
  refine ⟨s, cap, e, h1, h2, fun hl => ?_⟩
  obtain ⟨b, off, e1, hne, hb, hc⟩ := h3 hl
  exact ⟨b, off, e1, Nat.lt_of_lt_of_le hb k.2.2, fun j hj => by rw [k.cell hb hne]; exact hc j hj⟩
/-- a whole number's cells. -/
structure IntC (w : World) (g : Nat) (b : Bool) (v : Value) : Prop where
  c0 : w.cell? ⟨g, 0, none⟩ = some (.bool b)
  c1 : w.cell? ⟨g, 1, none⟩ = some v
  no : NoInt w g
  lt : g < w.heap.size
  fz : ∀ j, w.frozen? ⟨g, j, none⟩ = false
theorem IntC.grown {w w' : World} {g : Nat} {b : Bool} {v : Value} (h : IntC w g b v) (k : Grown w w') : IntC w' g b v :=
  ⟨by rw [grown_cell k h.lt]; exact h.c0, by rw [grown_cell k h.lt]; exact h.c1, h.no.grown k h.lt, Nat.lt_of_lt_of_le h.lt k.2.2, fun j => (k.2.1 _).trans (h.fz j)⟩
theorem IntC.kept {w w' : World} {g g' : Nat} {b : Bool} {v : Value} (h : IntC w g b v) (k : GrB g' w w') (hne : g ≠ g') : IntC w' g b v :=
  ⟨by rw [k.cell h.lt hne]; exact h.c0, by rw [k.cell h.lt hne]; exact h.c1, h.no.kept k h.lt hne, Nat.lt_of_lt_of_le h.lt k.2.2, fun j => (k.2.1 _).trans (h.fz j)⟩
theorem IntC.s0 {w : World} {g : Nat} {b : Bool} {v : Value} (h : IntC w g b v) (b' : Bool) : IntC (w.setCell ⟨g, 0, none⟩ (.bool b')) g b' v :=
  ⟨World.cell?_setCell_same _ _ _ h.c0, (World.cell?_setCell_other _ _ _ _ (by intro e; injection e with e1 e2; cases e2)).trans h.c1, h.no.set (by intro x e; cases e), by rw [size_setCell]; exact h.lt, fun j => (World.frozen?_setCell _ _ _ _).trans (h.fz j)⟩
theorem IntC.s1 {w : World} {g : Nat} {b : Bool} {v : Value} (h : IntC w g b v) (v' : Value) (hv : ∀ x, v' ≠ .int .u32 x) : IntC (w.setCell ⟨g, 1, none⟩ v') g b v' :=
  ⟨(World.cell?_setCell_other _ _ _ _ (by intro e; injection e with e1 e2; cases e2)).trans h.c0, World.cell?_setCell_same _ _ _ h.c1, h.no.set hv, by rw [size_setCell]; exact h.lt, fun j => (World.frozen?_setCell _ _ _ _).trans (h.fz j)⟩
/-- set a whole number. -/
def RetI2 (g : Nat) (below : Bool) (A : Nat) (w : World) (e : Ending) (w' : World) : Prop :=
  ∃ v, e = .returned (.pointer (some ⟨g, 0, none⟩)) ∧ IsW w' v (digs A) ∧ IntC w' g (below && decide (A ≠ 0)) v ∧ GrB g w w' ∧ ∀ j, 2 ≤ j → w'.cell? ⟨g, j, none⟩ = w.cell? ⟨g, j, none⟩
theorem iset_c {g : Nat} {b0 below : Bool} {v0 v : Value} {l : List Nat} {A : Nat} {w : World} (hI : IntC w g b0 v0) (h : IsW w v l) (hs : Sm l) (hA : wv l = A) :
    Calls Try.prog 100 #[.pointer (some ⟨g, 0, none⟩), .bool below, v] w (RetI2 g below A w) := by
  have H := Lib.hid h
  have HS := Lib.hid hs
  have HA := Lib.hid hA
  have HI := Lib.hid hI
  have c0 := hI.c0
  have c1 := hI.c1
  have f0 := hI.fz 0
  have f1 := hI.fz 1
  have HP : RowKit.Hid (A = 0 ∨ 0 < (digs A).length) := Lib.hid (by
    by_cases e : A = 0
    · exact .inl e
    · exact .inr (digs_len_pos e))
  clear hs hA hI h
  have HF : RowKit.Hid (∀ (s : Option Addr) (c n : Nat), IsW w (.slice s (digs A).length c) (digs A) → ∀ b', b' = (below && decide (A ≠ 0)) →
      RetI2 g below A w (.returned (.pointer (some ⟨g, 0, none⟩))) (((w.drewN n).setCell ⟨g, 1, none⟩ (.slice s (digs A).length c)).setCell ⟨g, 0, none⟩ (.bool b'))) := Lib.hid (by
    intro s c n hv b' hb'
    have G := (((GrB.refl g w).drewN n).set 1 (.slice s (digs A).length c)).set 0 (.bool b')
    have I1 := (IntC.s1 (HI.out.grown (gr_drewN n (Grown.refl w))) (.slice s (digs A).length c) (by intro x e; cases e)).s0 b'
    rw [hb'] at I1 G ⊢
    refine ⟨_, rfl, hv.kept G HI.out.no, I1, G, fun j hj => ?_⟩
    rw [World.cell?_setCell_other _ _ _ _ (by intro e; injection e with e1 e2; omega), World.cell?_setCell_other _ _ _ _ (by intro e; injection e with e1 e2; omega)]
    rfl)
  rcases HP.out with hz | hz
  · subst hz
    have hl : (digs 0).length = 0 := rfl
    cases below
    all_goals
      go_enter Try.func100, Try.ntmps100
      go_wp2_with (first
        | (go_at_call 145; (with_reducible refine (trim_c H.out HS.out).mono ?_); rw [HA.out]; rintro e w' ⟨v', n', rfl, hv, rfl⟩; obtain ⟨s', c', rfl, _, _, _⟩ := id hv; have HV := Lib.hid hv; clear hv)
        | fail)
      go_ret
      exact HF.out _ _ _ HV.out _ rfl
  · have hne : A ≠ 0 := by intro e; subst e; simp [digs_zero] at hz
    have HNE := Lib.hid hne
    have hl : (0 : Int) < ((digs A).length : Int) := by omega
    clear hne
    cases below
    all_goals
      go_enter Try.func100, Try.ntmps100
      go_wp2_with (first
        | (go_at_call 145; (with_reducible refine (trim_c H.out HS.out).mono ?_); rw [HA.out]; rintro e w' ⟨v', n', rfl, hv, rfl⟩; obtain ⟨s', c', rfl, _, _, _⟩ := id hv; have HV := Lib.hid hv; clear hv)
        | fail)
      go_ret
      exact HF.out _ _ _ HV.out _ (by have := HNE.out; simp [this])
/-- a fraction's cells. -/
structure RatC (w : World) (g : Nat) (b : Bool) (v1 v2 : Value) : Prop where
  i : IntC w g b v1
  c2 : w.cell? ⟨g, 2, none⟩ = some v2
theorem RatC.grown {w w' : World} {g : Nat} {b : Bool} {v1 v2 : Value} (h : RatC w g b v1 v2) (k : Grown w w') : RatC w' g b v1 v2 := ⟨h.i.grown k, by rw [grown_cell k h.i.lt]; exact h.c2⟩
theorem RatC.kept {w w' : World} {g g' : Nat} {b : Bool} {v1 v2 : Value} (h : RatC w g b v1 v2) (k : GrB g' w w') (hne : g ≠ g') : RatC w' g b v1 v2 := ⟨h.i.kept k hne, by rw [k.cell h.i.lt hne]; exact h.c2⟩
theorem RatC.s2 {w : World} {g : Nat} {b : Bool} {v1 v2 : Value} (h : RatC w g b v1 v2) (v : Value) (hv : ∀ x, v ≠ .int .u32 x) : RatC (w.setCell ⟨g, 2, none⟩ v) g b v1 v :=
  ⟨⟨(World.cell?_setCell_other _ _ _ _ (by intro e; injection e with e1 e2; cases e2)).trans h.i.c0, (World.cell?_setCell_other _ _ _ _ (by intro e; injection e with e1 e2; cases e2)).trans h.i.c1, h.i.no.set hv, by rw [size_setCell]; exact h.i.lt, fun j => (World.frozen?_setCell _ _ _ _).trans (h.i.fz j)⟩, World.cell?_setCell_same _ _ _ h.c2⟩
/-- a number below the line: none is 1. -/
def dd (D : Nat) : Nat := if D = 0 then 1 else D
theorem dd_ne (D : Nat) : dd D ≠ 0 := by unfold dd; split <;> omega
def sg (b : Bool) (N : Nat) : Int := if b then -(N : Int) else N
/-- the fraction in the block g is n / d, and d and n are so many times its parts. -/
structure RatV (n : Int) (d : Nat) (b : Bool) (N D : Nat) : Prop where
  ex : ∃ k : Nat, k ≠ 0 ∧ d = k * dd D ∧ n = k * sg b N
  nz : N = 0 → b = false
def RatAt (w : World) (g : Nat) (n : Int) (d : Nat) : Prop :=
  ∃ b v1 v2 N D, RatC w g b v1 v2 ∧ IsW w v1 (digs N) ∧ IsW w v2 (digs D) ∧ RatV n d b N D
theorem RatAt.grown {w w' : World} {g d : Nat} {n : Int} (h : RatAt w g n d) (k : Grown w w') : RatAt w' g n d := by
  obtain ⟨b, v1, v2, N, D, h1, h2, h3, h4⟩ := h
  exact ⟨b, v1, v2, N, D, h1.grown k, h2.grown k, h3.grown k, h4⟩
theorem RatAt.kept {w w' : World} {g g' d : Nat} {n : Int} (h : RatAt w g n d) (k : GrB g' w w') (hne : g ≠ g') (hn : NoInt w g') : RatAt w' g n d := by
  obtain ⟨b, v1, v2, N, D, h1, h2, h3, h4⟩ := h
  exact ⟨b, v1, v2, N, D, h1.kept k hne, h2.kept k hn, h3.kept k hn, h4⟩
/-- a block that may be set. -/
def RatZ (w : World) (g : Nat) : Prop := ∃ b v1 v2, RatC w g b v1 v2
theorem RatAt.z {w : World} {g d : Nat} {n : Int} (h : RatAt w g n d) : RatZ w g := by obtain ⟨b, v1, v2, _, _, h, _⟩ := h; exact ⟨b, v1, v2, h⟩
theorem RatZ.grown {w w' : World} {g : Nat} (h : RatZ w g) (k : Grown w w') : RatZ w' g := by obtain ⟨b, v1, v2, h⟩ := h; exact ⟨b, v1, v2, h.grown k⟩
theorem RatZ.kept {w w' : World} {g g' : Nat} (h : RatZ w g) (k : GrB g' w w') (hne : g ≠ g') : RatZ w' g := by obtain ⟨b, v1, v2, h⟩ := h; exact ⟨b, v1, v2, h.kept k hne⟩
theorem RatZ.no {w : World} {g : Nat} (h : RatZ w g) : NoInt w g := by obtain ⟨b, v1, v2, h⟩ := h; exact h.i.no
theorem RatZ.lt {w : World} {g : Nat} (h : RatZ w g) : g < w.heap.size := by obtain ⟨b, v1, v2, h⟩ := h; exact h.i.lt
def RetR (g : Nat) (n : Int) (d : Nat) (w : World) (e : Ending) (w' : World) : Prop := e = .returned (.pointer (some ⟨g, 0, none⟩)) ∧ RatAt w' g n d ∧ GrB g w w'
theorem RatV.mk' {A D G : Nat} {b : Bool} (hG : G ≠ 0) (h1 : G ∣ A) (h2 : G ∣ D) (hA : A ≠ 0) (hD : D ≠ 0) : RatV (sg b A) D (b && decide (A / G ≠ 0)) (A / G) (D / G) := by
  obtain ⟨x, rfl⟩ := h1
  obtain ⟨y, rfl⟩ := h2
  have hx : x ≠ 0 := by rintro rfl; simp at hA
  have hy : y ≠ 0 := by rintro rfl; simp at hD
  rw [Nat.mul_div_cancel_left _ (Nat.pos_of_ne_zero hG), Nat.mul_div_cancel_left _ (Nat.pos_of_ne_zero hG)]
  refine ⟨⟨G, hG, ?_, ?_⟩, fun e => absurd e hx⟩
  · unfold dd; rw [if_neg hy]
  · have : (b && decide (x ≠ 0)) = b := by simp [hx]
    rw [this]; unfold sg; cases b <;> simp [Int.mul_neg]
theorem RatV.whole {A D : Nat} {b : Bool} (hA : A ≠ 0) (hD : D ≠ 0) : RatV (sg b A) D (b && decide (A ≠ 0)) A D := by
  have := RatV.mk' (b := b) (G := 1) (by decide) (Nat.one_dvd A) (Nat.one_dvd D) hA hD
  rwa [Nat.div_one, Nat.div_one] at this
theorem rat_fin {g A D X Y : Nat} {minus : Bool} {w w3 : World} {v3 u2 vD : Value} (hi : IntC w3 g (minus && decide (X ≠ 0)) v3) (hv : IsW w3 v3 (digs X)) (hd : IsW w3 vD (digs Y)) (hc : w3.cell? ⟨g, 2, none⟩ = some u2) (hg : GrB g w w3)
    (hV : RatV (sg minus A) D (minus && decide (X ≠ 0)) X Y) : RetR g (sg minus A) D w (.returned (.pointer (some ⟨g, 0, none⟩))) (w3.setCell ⟨g, 2, none⟩ vD) := by
  have hs : ∀ x, vD ≠ .int .u32 x := by obtain ⟨s, c, e, _⟩ := hd; intro x h; rw [e] at h; cases h
  have hR : RatC w3 g (minus && decide (X ≠ 0)) v3 u2 := ⟨hi, hc⟩
  have k := (GrB.refl g w3).set 2 vD
  exact ⟨rfl, ⟨_, v3, vD, X, Y, hR.s2 _ hs, hv.kept k hi.no, hd.kept k hi.no, hV⟩, hg.set 2 vD⟩
theorem wcase (X : Nat) : X = 1 ∨ (X ≠ 1 ∧ X < 4294967296) ∨ 4294967296 ≤ X := by omega
theorem IsW.first {w : World} {s : Option Addr} {n c X : Nat} (h : IsW w (.slice s n c) (digs X)) (h0 : X ≠ 0) (h1 : X < 4294967296) : n = 1 ∧ ∃ b off, s = some ⟨b, off, none⟩ ∧ b < w.heap.size ∧ w.cell? ⟨b, off, none⟩ = some (.int .u32 (X : Int)) := by
  have e := digs_one h1 h0
  obtain ⟨h2, _, _⟩ := h.opn
  obtain ⟨b, off, e1, hb, hc⟩ := h.word (i := 0) (by rw [e]; exact Nat.one_pos)
  rw [e] at hc h2
  exact ⟨h2, b, off, e1, hb, by simpa using hc⟩
theorem len_ne1 {X : Nat} (h : 4294967296 ≤ X) : (digs X).length ≠ 1 := by
  intro e
  have h0 : X ≠ 0 := by omega
  have := digs_lt X
  rw [e] at this
  omega
theorem rset_c {g : Nat} {minus : Bool} {v1 v2 : Value} {A D : Nat} {w : World} (hZ : RatZ w g) (h1 : IsW w v1 (digs A)) (h2 : IsW w v2 (digs D)) (hD : D ≠ 0) (lA : (digs A).length ≤ 50000) (lD : (digs D).length ≤ 50000) :
    Calls Try.prog 103 #[.pointer (some ⟨g, 0, none⟩), .bool minus, v1, v2] w (RetR g (sg minus A) D w) := by
  obtain ⟨b0, u1, u2, hC⟩ := hZ
  have HC := Lib.hid hC
  have H1 := Lib.hid h1
  have H2 := Lib.hid h2
  have HS := Lib.hid digs_sm
  have HW := Lib.hid wv_digs
  have f2 := hC.i.fz 2
  have c2 := hC.c2
  have HG := Lib.hid (Grown.refl w)
  clear hC h1 h2
  by_cases hA0 : A = 0
  · subst hA0
    have hl0 : (digs 0).length = 0 := rfl
    go_enter Try.func103, Try.ntmps103
    go_wp2_with (first
      | (go_at_call_of 145 v1; (with_reducible refine (trim_c H1.out (HS.out _)).mono ?_); rw [HW.out]; rintro e w' ⟨v', n1, rfl, hv, rfl⟩; obtain ⟨s', c', rfl, _, _, _⟩ := id hv; have HV1 := Lib.hid hv; clear hv)
      | (go_at_call_of 145 v2; (with_reducible refine (trim_c (H2.out.drewN _) (HS.out _)).mono ?_); rw [HW.out]; rintro e w' ⟨v'', n2, rfl, hv2, rfl⟩)
      | (go_at_call 100; go_loud ((with_reducible refine (iset_c (l := []) (A := 0) (HC.out.i.grown (gr_drewN _ (Grown.refl w))) (IsW.nil _) sm_nil rfl).mono ?_)); rintro e w3 ⟨v3, rfl, hv3, hi3, hg3, hk3⟩; have hc3 := (hk3 2 (Nat.le_refl _)).trans c2; have hf3 := hi3.fz 2; have HV3 := Lib.hid hv3; have HI3 := Lib.hid hi3; have HG3 := Lib.hid (GrB.trans ((GrB.refl g w).drewN _) hg3); clear hv3 hi3 hg3 hk3)
      | fail)
    go_ret
    have hR : RatC w3 g false v3 u2 := ⟨by have := HI3.out; simpa using this, hc3⟩
    have G := HG3.out.set 2 (.slice none 0 0)
    refine ⟨rfl, ⟨false, v3, .slice none 0 0, 0, 0, hR.s2 _ (by intro x e; cases e), HV3.out.kept ((GrB.refl g w3).set 2 _) hR.i.no, IsW.nil _, ⟨⟨D, hD, ?_, ?_⟩, fun _ => rfl⟩⟩, G⟩
    · simp [dd]
    · cases minus <;> simp [sg]
  · have HA0 := Lib.hid hA0
    have HD0 := Lib.hid hD
    have hlA : (digs A).length ≠ 0 := by have := digs_len_pos hA0; omega
    have hlAi : (((digs A).length : Int) == 0) = false := by rw [beq_eq_false_iff_ne]; omega
    go_enter Try.func103, Try.ntmps103
    go_upto_region 7 with (first
      | (go_at_call_of 145 v1; (with_reducible refine (trim_c H1.out (HS.out _)).mono ?_); rw [HW.out]; rintro e w' ⟨v', n1, rfl, hv, rfl⟩; obtain ⟨s1, k1, rfl, _, _, _⟩ := id hv; have HV1 := Lib.hid (isW_undrew hv); clear hv)
      | (go_at_call_of 145 v2; (with_reducible refine (trim_c (H2.out.drewN _) (HS.out _)).mono ?_); rw [HW.out]; rintro e w' ⟨v'', n2, rfl, hv2, rfl⟩; obtain ⟨s2, k2, rfl, _, _, _⟩ := id hv2; have HV2 := Lib.hid (isW_undrew (isW_undrew hv2)); clear hv2)
      | fail)
    obtain ⟨nD, hnD⟩ : ∃ n, (digs D).length = n := ⟨_, rfl⟩
    rw [hnD] at HV2 ⊢
    have hD' : (D = 1 ∧ nD = 1 ∧ ∃ b2 o2, s2 = some ⟨b2, o2, none⟩ ∧ ∀ m, (w.drewN m).cell? ⟨b2, o2, none⟩ = some (.int .u32 1)) ∨ (nD = 1 ∧ ∃ b2 o2, s2 = some ⟨b2, o2, none⟩ ∧ (((D : Int)) != 1) = true ∧ D < 4294967296 ∧ ∀ m, (w.drewN m).cell? ⟨b2, o2, none⟩ = some (.int .u32 (D : Int))) ∨ (((nD : Int)) != 1) = true := by
      rcases wcase D with h | ⟨h1, h2⟩ | h2
      · subst h
        obtain ⟨e1, b2, o2, e2, hb2, hcl⟩ := HV2.out.first hD (by decide)
        exact .inl ⟨rfl, e1, b2, o2, e2, fun m => hcl⟩
      · obtain ⟨e1, b2, o2, e2, hb2, hcl⟩ := HV2.out.first hD h2
        exact .inr (.inl ⟨e1, b2, o2, e2, by rw [bne_iff_ne]; omega, h2, fun m => hcl⟩)
      · have := len_ne1 h2
        exact .inr (.inr (by rw [bne_iff_ne]; omega))
    rcases hD' with ⟨rfl, rfl, b2, o2, rfl, hcl⟩ | hD2
    · go_wp2_with (first
        | (go_at_call 100; go_loud ((with_reducible refine (iset_c (HC.out.i.grown (gr_drewN _ (Grown.refl w))) (HV1.out.drewN _) (HS.out _) (HW.out _)).mono ?_); rintro e w3 ⟨v3, rfl, hv3, hi3, hg3, hk3⟩; have hc3 := (hk3 2 (Nat.le_refl _)).trans c2; have hf3 := hi3.fz 2; have HV3 := Lib.hid hv3; have HI3 := Lib.hid hi3; have HG3 := Lib.hid hg3; clear hv3 hi3 hg3 hk3))
        | fail)
      go_ret
      exact rat_fin HI3.out HV3.out ((HV2.out.drewN _).kept HG3.out HC.out.i.no) hc3 HG3.out (RatV.whole HA0.out HD0.out)
    · rcases hD2 with ⟨rfl, b2, o2, rfl, hD1, hD2, hcl⟩ | hD1
      all_goals
        have HCM := Lib.hid (fun m => common_c (HV1.out.drewN m) (HV2.out.drewN m) (.inl hA0) lA lD)
        go_upto_region 9 with (first
          | (go_at_call 149; (with_reducible refine (HCM.out _).mono ?_); rintro e w2 ⟨G, vg, rfl, hvg, hgg, hg1, hg2, hg0⟩; obtain ⟨s4, k4, rfl, _, _, _⟩ := id hvg; have HVG := Lib.hid hvg; have HGG := Lib.hid (gr_trans (gr_drewN _ (Grown.refl w)) hgg); have HG1 := Lib.hid hg1; have HG2 := Lib.hid hg2; have HG0 := Lib.hid hg0; clear hvg hgg hg1 hg2)
          | fail)
        obtain ⟨nG, hnG⟩ : ∃ n, (digs G).length = n := ⟨_, rfl⟩
        rw [hnG] at HVG ⊢
        have hG' : (G = 1 ∧ nG = 1 ∧ ∃ b4 o4, s4 = some ⟨b4, o4, none⟩ ∧ ∀ m, (w2.drewN m).cell? ⟨b4, o4, none⟩ = some (.int .u32 1)) ∨ (nG = 1 ∧ ∃ b4 o4, s4 = some ⟨b4, o4, none⟩ ∧ (((G : Int)) != 1) = true ∧ G < 4294967296 ∧ ∀ m, (w2.drewN m).cell? ⟨b4, o4, none⟩ = some (.int .u32 (G : Int))) ∨ (((nG : Int)) != 1) = true := by
          rcases wcase G with h | ⟨h1, h2⟩ | h2
          · subst h
            obtain ⟨e1, b2, o2, e2, hb2, hcl⟩ := HVG.out.first hg0 (by decide)
            exact .inl ⟨rfl, e1, b2, o2, e2, fun m => hcl⟩
          · obtain ⟨e1, b2, o2, e2, hb2, hcl⟩ := HVG.out.first hg0 h2
            exact .inr (.inl ⟨e1, b2, o2, e2, by rw [bne_iff_ne]; omega, h2, fun m => hcl⟩)
          · have := len_ne1 h2
            exact .inr (.inr (by rw [bne_iff_ne]; omega))
        have c2' := HC.out.grown HGG.out |>.c2
        have HIG := Lib.hid (HC.out.i.grown HGG.out)
        have HV1G := Lib.hid (HV1.out.grown HGG.out)
        have HV2G := Lib.hid (HV2.out.grown HGG.out)
        rcases hG' with ⟨rfl, rfl, b4, o4, rfl, hcg⟩ | hG2
        · have hcg0 := hcg 0
          simp only [World.drewN_zero] at hcg0
          go_wp2_with (first
            | (go_at_call 100; go_loud ((with_reducible refine (iset_c HIG.out HV1G.out (HS.out _) (HW.out _)).mono ?_); rintro e w3 ⟨v3, rfl, hv3, hi3, hg3, hk3⟩; have hc3 := (hk3 2 (Nat.le_refl _)).trans c2'; have hf3 := hi3.fz 2; have HV3 := Lib.hid hv3; have HI3 := Lib.hid hi3; have HG3 := Lib.hid hg3; clear hv3 hi3 hg3 hk3))
            | fail)
          go_ret
          have h1 := rat_fin (A := A) (D := D) HI3.out HV3.out (HV2G.out.kept HG3.out HIG.out.no) hc3 ((GrB.of HGG.out).trans HG3.out) (RatV.whole HA0.out HD0.out)
          exact h1
        · rcases hG2 with ⟨rfl, b4, o4, rfl, hG1, hG2, hcg⟩ | hG1
          all_goals
            have HQ1 := Lib.hid (fun (W : World) (h : Grown w2 W) => div_c (HV1G.out.grown h) (HVG.out.grown h) hg0 (Nat.le_trans lA (by decide)))
            have HQ2 := Lib.hid (fun (W : World) (h : Grown w2 W) => div_c (HV2G.out.grown h) (HVG.out.grown h) hg0 (Nat.le_trans lD (by decide)))
            first
              | (have hcg0 := hcg 0; simp only [World.drewN_zero] at hcg0)
              | skip
            go_wp2_with (first
              | (go_at_call 150; (with_reducible refine (HQ1.out _ (Grown.refl _)).mono ?_); rintro e w5 ⟨q1, r1, rfl, hq1, hr1, hg5⟩; have HX1 := Lib.hid hq1; have HG5 := Lib.hid hg5; clear hq1 hr1 hg5)
              | (go_at_call 150; (with_reducible refine (HQ2.out _ HG5.out).mono ?_); rintro e w6 ⟨q2, r2, rfl, hq2, hr2, hg6⟩; obtain ⟨s7, k7, rfl, _, _, _⟩ := id hq2; have HX2 := Lib.hid hq2; have HG6 := Lib.hid (gr_trans HG5.out hg6); have HX1' := Lib.hid (HX1.out.grown hg6); have c26 := ((HC.out.grown HGG.out).grown HG6.out).c2; have HI6 := Lib.hid (HIG.out.grown HG6.out); clear hq2 hr2 hg6)
              | (go_at_call 100; go_loud ((with_reducible refine (iset_c HI6.out HX1'.out (HS.out _) (HW.out _)).mono ?_); rintro e w3 ⟨v3, rfl, hv3, hi3, hg3, hk3⟩; have hc3 := (hk3 2 (Nat.le_refl _)).trans c26; have hf3 := hi3.fz 2; have HV3 := Lib.hid hv3; have HI3 := Lib.hid hi3; have HG3 := Lib.hid hg3; clear hv3 hi3 hg3 hk3))
              | fail)
            go_ret
            have h1 := rat_fin (A := A) (D := D) HI3.out HV3.out (HX2.out.kept HG3.out HI6.out.no) hc3 ((GrB.of (gr_trans HGG.out HG6.out)).trans HG3.out) (RatV.mk' HG0.out HG1.out HG2.out HA0.out HD0.out)
            exact h1
end Go.Proofs.Ytcfkhhnkboealaa
