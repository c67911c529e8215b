/- Whole numbers and fractions in memory: set, and what stays. Fractions: of floats, sums, products, quotients, how they compare, and the float of one. Fractions: of floats, sums, products, quotients, how they compare, and the float of one. Fractions: of floats, and how they compare. -/
import Derived.Test.YtcfkhhnkboealaaDoorCwf
import Derived.Deep.RegionHeld3
import Derived.StillTailTactics
import Derived.Test.YtcfkhhnkboealaaDoorWde
namespace Go.Proofs.YtcfkhhnkboealaaDoor
open Go.RowKit
set_option linter.unusedVariables false
set_option linter.unusedSimpArgs false
set_option maxRecDepth 100000
set_option maxHeartbeats 4000000
/-- w' is w with new blocks, and the block g may have turned. -/
def GrB (g : Nat) (w w' : World) : Prop := w.keptBut w' (fun p => ∃ j, p = .cell g j) ∧ (∀ a, w'.frozen? a = w.frozen? a) ∧ w.heap.size ≤ w'.heap.size
theorem GrB.of {g : Nat} {w w' : World} (h : Grown w w') : GrB g w w' := ⟨World.keptBut_mono (fun _ f => f.elim) h.1, h.2.1, h.2.2⟩
theorem GrB.refl (g : Nat) (w : World) : GrB g w w := GrB.of (Grown.refl w)
theorem GrB.trans {g : Nat} {a b c : World} (h : GrB g a b) (k : GrB g b c) : GrB g a c := ⟨World.keptBut_trans h.1 k.1, fun x => (k.2.1 x).trans (h.2.1 x), Nat.le_trans h.2.2 k.2.2⟩
theorem GrB.drewN {g : Nat} {w w' : World} (n : Nat) (h : GrB g w w') : GrB g w (w'.drewN n) := h
theorem GrB.cell {g : Nat} {w w' : World} (h : GrB g w w') {b i : Nat} (hb : b < w.heap.size) (hne : b ≠ g) : w'.cell? ⟨b, i, none⟩ = w.cell? ⟨b, i, none⟩ :=
  h.1.cell hb (by rintro ⟨j, e⟩; injection e with e1 e2; exact hne e1)
theorem GrB.set {g : Nat} {w w' : World} (h : GrB g w w') (i : Nat) (v : Value) : GrB g w (w'.setCell ⟨g, i, none⟩ v) :=
  ⟨World.keptBut_trans h.1 (World.keptBut_setCell w' _ v ⟨i, rfl⟩), fun a => (World.frozen?_setCell _ _ _ _).trans (h.2.1 a), by rw [size_setCell]; exact h.2.2⟩
theorem GrB.grown {g : Nat} {w0 w w' : World} (h : GrB g w w') (h0 : Grown w0 w) (hg : w0.heap.size ≤ g) : Grown w0 w' := by
  have k := World.keptBut_trans (World.keptBut_mono (fun _ f => f.elim) h0.1) h.1
  refine ⟨⟨k.1, k.2.1, fun i hi => ?_⟩, fun a => (h.2.1 a).trans (h0.2.1 a), Nat.le_trans h0.2.2 h.2.2⟩
  have k3 := k.2.2 i hi
  cases h1 : w0.heap[i]? with
  | none => rw [h1] at k3; cases h2 : w'.heap[i]? <;> rw [h2] at k3 <;> simp at k3 ⊢
  | some o =>
    cases h2 : w'.heap[i]? with
    | none => rw [h1, h2] at k3; cases o <;> simp at k3
    | some o' =>
      rw [h1, h2] at k3
      cases o <;> cases o' <;> simp at k3 ⊢ <;> try exact k3
      obtain ⟨a1, a2, a3, a4⟩ := k3
      exact ⟨a1, a2, a3, fun j => a4 j (fun e => by omega)⟩
/-- no word lies in the block. -/
def NoInt (w : World) (g : Nat) : Prop := ∀ (j : Nat) (x : Int), w.cell? ⟨g, j, none⟩ ≠ some (.int .u32 x)
theorem NoInt.grown {w w' : World} {g : Nat} (h : NoInt w g) (k : Grown w w') (hg : g < w.heap.size) : NoInt w' g := fun j x => by rw [grown_cell k hg]; exact h j x
theorem NoInt.kept {w w' : World} {g g' : Nat} (h : NoInt w g) (k : GrB g' w w') (hg : g < w.heap.size) (hne : g ≠ g') : NoInt w' g := fun j x => by rw [k.cell hg hne]; exact h j x
theorem NoInt.set {w : World} {g i : Nat} {v : Value} (h : NoInt w g) (hv : ∀ x, v ≠ .int .u32 x) : NoInt (w.setCell ⟨g, i, none⟩ v) g := fun j x => by
  by_cases e : j = i
  · subst e
    cases hc : w.cell? ⟨g, j, none⟩ with
    | none =>
      intro h2
      have : (w.setCell ⟨g, j, none⟩ v).cell? ⟨g, j, none⟩ = none := by
        unfold World.cell? at hc ⊢
        simp only [World.setCell, Array.getElem?_modify, if_true] at hc ⊢
        cases hh : w.heap[g]? with
        | none => rfl
        | some o =>
          rw [hh] at hc
          cases o <;> simp at hc ⊢
          exact hc
      rw [this] at h2; cases h2
    | some u => rw [World.cell?_setCell_same _ _ _ hc]; intro h2; injection h2 with h2; exact hv x h2
  · rw [World.cell?_setCell_other _ _ _ _ (by intro h; injection h with _ h2; exact e h2.symm)]; exact h j x
theorem IsW.apart {w : World} {v : Value} {l : List Nat} {g : Nat} (h : IsW w v l) (hn : NoInt w g) : ∃ s cap, v = .slice s l.length cap ∧ l.length ≤ cap ∧ cap ≤ 1000000000 ∧ (l ≠ [] → ∃ b off, s = some ⟨b, off, none⟩ ∧ b ≠ g ∧ b < w.heap.size ∧ ∀ j, j < l.length → w.cell? ⟨b, off + j, none⟩ = some (.int .u32 ((l.getD j 0 : Nat) : Int))) := by
  obtain ⟨s, cap, e, h1, h2, h3⟩ := h
  refine ⟨s, cap, e, h1, h2, fun hl => ?_⟩
  obtain ⟨b, off, e1, hb, hc⟩ := h3 hl
  refine ⟨b, off, e1, ?_, hb, hc⟩
  rintro rfl
  exact hn _ _ (hc 0 (List.length_pos_iff.2 hl))
theorem IsW.kept {w w' : World} {v : Value} {l : List Nat} {g : Nat} (h : IsW w v l) (k : GrB g w w') (hn : NoInt w g) : IsW w' v l := by
  obtain ⟨s, cap, e, h1, h2, h3⟩ := h.apart hn
  refine ⟨s, cap, e, h1, h2, fun hl => ?_⟩
  obtain ⟨b, off, e1, hne, hb, hc⟩ := h3 hl
  exact ⟨b, off, e1, Nat.lt_of_lt_of_le hb k.2.2, fun j hj => by rw [k.cell hb hne]; exact hc j hj⟩
/-- a whole number's cells. -/
structure IntC (w : World) (g : Nat) (b : Bool) (v : Value) : Prop where
  c0 : w.cell? ⟨g, 0, none⟩ = some (.bool b)
  c1 : w.cell? ⟨g, 1, none⟩ = some v
  no : NoInt w g
  lt : g < w.heap.size
  fz : ∀ j, w.frozen? ⟨g, j, none⟩ = false
theorem IntC.grown {w w' : World} {g : Nat} {b : Bool} {v : Value} (h : IntC w g b v) (k : Grown w w') : IntC w' g b v :=
  ⟨by rw [grown_cell k h.lt]; exact h.c0, by rw [grown_cell k h.lt]; exact h.c1, h.no.grown k h.lt, Nat.lt_of_lt_of_le h.lt k.2.2, fun j => (k.2.1 _).trans (h.fz j)⟩
theorem IntC.kept {w w' : World} {g g' : Nat} {b : Bool} {v : Value} (h : IntC w g b v) (k : GrB g' w w') (hne : g ≠ g') : IntC w' g b v :=
  ⟨by rw [k.cell h.lt hne]; exact h.c0, by rw [k.cell h.lt hne]; exact h.c1, h.no.kept k h.lt hne, Nat.lt_of_lt_of_le h.lt k.2.2, fun j => (k.2.1 _).trans (h.fz j)⟩
theorem IntC.s0 {w : World} {g : Nat} {b : Bool} {v : Value} (h : IntC w g b v) (b' : Bool) : IntC (w.setCell ⟨g, 0, none⟩ (.bool b')) g b' v :=
  ⟨World.cell?_setCell_same _ _ _ h.c0, (World.cell?_setCell_other _ _ _ _ (by intro e; injection e with e1 e2; cases e2)).trans h.c1, h.no.set (by intro x e; cases e), by rw [size_setCell]; exact h.lt, fun j => (World.frozen?_setCell _ _ _ _).trans (h.fz j)⟩
theorem IntC.s1 {w : World} {g : Nat} {b : Bool} {v : Value} (h : IntC w g b v) (v' : Value) (hv : ∀ x, v' ≠ .int .u32 x) : IntC (w.setCell ⟨g, 1, none⟩ v') g b v' :=
  ⟨(World.cell?_setCell_other _ _ _ _ (by intro e; injection e with e1 e2; cases e2)).trans h.c0, World.cell?_setCell_same _ _ _ h.c1, h.no.set hv, by rw [size_setCell]; exact h.lt, fun j => (World.frozen?_setCell _ _ _ _).trans (h.fz j)⟩
/-- set a whole number. -/
def RetI2 (g : Nat) (below : Bool) (A : Nat) (w : World) (e : Ending) (w' : World) : Prop :=
  ∃ v, e = .returned (.pointer (some ⟨g, 0, none⟩)) ∧ IsW w' v (digs A) ∧ IntC w' g (below && decide (A ≠ 0)) v ∧ GrB g w w' ∧ ∀ j, 2 ≤ j → w'.cell? ⟨g, j, none⟩ = w.cell? ⟨g, j, none⟩
theorem iset_c {g : Nat} {b0 below : Bool} {v0 v : Value} {l : List Nat} {A : Nat} {w : World} (hI : IntC w g b0 v0) (h : IsW w v l) (hs : Sm l) (hA : wv l = A) :
    Calls Tryd.prog 87 #[.pointer (some ⟨g, 0, none⟩), .bool below, v] w (RetI2 g below A w) := by
  have H := Lib.hid h
  have HS := Lib.hid hs
  have HA := Lib.hid hA
  have HI := Lib.hid hI
  have c0 := hI.c0
  have c1 := hI.c1
  have f0 := hI.fz 0
  have f1 := hI.fz 1
  have HP : RowKit.Hid (A = 0 ∨ 0 < (digs A).length) := Lib.hid (by
    by_cases e : A = 0
    · exact .inl e
    · exact .inr (digs_len_pos e))
  clear hs hA hI h
  have HF : RowKit.Hid (∀ (s : Option Addr) (c n : Nat), IsW w (.slice s (digs A).length c) (digs A) → ∀ b', b' = (below && decide (A ≠ 0)) →
      RetI2 g below A w (.returned (.pointer (some ⟨g, 0, none⟩))) (((w.drewN n).setCell ⟨g, 1, none⟩ (.slice s (digs A).length c)).setCell ⟨g, 0, none⟩ (.bool b'))) := Lib.hid (by
    intro s c n hv b' hb'
    have G := (((GrB.refl g w).drewN n).set 1 (.slice s (digs A).length c)).set 0 (.bool b')
    have I1 := (IntC.s1 (HI.out.grown (gr_drewN n (Grown.refl w))) (.slice s (digs A).length c) (by intro x e; cases e)).s0 b'
    rw [hb'] at I1 G ⊢
    refine ⟨_, rfl, hv.kept G HI.out.no, I1, G, fun j hj => ?_⟩
    rw [World.cell?_setCell_other _ _ _ _ (by intro e; injection e with e1 e2; omega), World.cell?_setCell_other _ _ _ _ (by intro e; injection e with e1 e2; omega)]
    rfl)
  rcases HP.out with hz | hz
  · subst hz
    have hl : (digs 0).length = 0 := rfl
    cases below
    all_goals
      go_enter Tryd.func87, Tryd.ntmps87
      go_wp2_with (first
        | (go_at_call 89; (with_reducible refine (trim_c H.out HS.out).mono ?_); rw [HA.out]; rintro e w' ⟨v', n', rfl, hv, rfl⟩; obtain ⟨s', c', rfl, _, _, _⟩ := id hv; have HV := Lib.hid hv; clear hv)
        | fail)
      go_ret
      exact HF.out _ _ _ HV.out _ rfl
  · have hne : A ≠ 0 := by intro e; subst e; simp [digs_zero] at hz
    have HNE := Lib.hid hne
    have hl : (0 : Int) < ((digs A).length : Int) := by omega
    clear hne
    cases below
    all_goals
      go_enter Tryd.func87, Tryd.ntmps87
      go_wp2_with (first
        | (go_at_call 89; (with_reducible refine (trim_c H.out HS.out).mono ?_); rw [HA.out]; rintro e w' ⟨v', n', rfl, hv, rfl⟩; obtain ⟨s', c', rfl, _, _, _⟩ := id hv; have HV := Lib.hid hv; clear hv)
        | fail)
      go_ret
      exact HF.out _ _ _ HV.out _ (by have := HNE.out; simp [this])
/-- a fraction's cells. -/
structure RatC (w : World) (g : Nat) (b : Bool) (v1 v2 : Value) : Prop where
  i : IntC w g b v1
  c2 : w.cell? ⟨g, 2, none⟩ = some v2
theorem RatC.grown {w w' : World} {g : Nat} {b : Bool} {v1 v2 : Value} (h : RatC w g b v1 v2) (k : Grown w w') : RatC w' g b v1 v2 := ⟨h.i.grown k, by rw [grown_cell k h.i.lt]; exact h.c2⟩
theorem RatC.kept {w w' : World} {g g' : Nat} {b : Bool} {v1 v2 : Value} (h : RatC w g b v1 v2) (k : GrB g' w w') (hne : g ≠ g') : RatC w' g b v1 v2 := ⟨h.i.kept k hne, by rw [k.cell h.i.lt hne]; exact h.c2⟩
theorem RatC.s2 {w : World} {g : Nat} {b : Bool} {v1 v2 : Value} (h : RatC w g b v1 v2) (v : Value) (hv : ∀ x, v ≠ .int .u32 x) : RatC (w.setCell ⟨g, 2, none⟩ v) g b v1 v :=
  ⟨⟨(World.cell?_setCell_other _ _ _ _ (by intro e; injection e with e1 e2; cases e2)).trans h.i.c0, (World.cell?_setCell_other _ _ _ _ (by intro e; injection e with e1 e2; cases e2)).trans h.i.c1, h.i.no.set hv, by rw [size_setCell]; exact h.i.lt, fun j => (World.frozen?_setCell _ _ _ _).trans (h.i.fz j)⟩, World.cell?_setCell_same _ _ _ h.c2⟩
/-- a number below the line: none is 1. -/
def dd (D : Nat) : Nat := if D = 0 then 1 else D
theorem dd_ne (D : Nat) : dd D ≠ 0 := by unfold dd; split <;> omega
def sg (b : Bool) (N : Nat) : Int := if b then -(N : Int) else N
/-- the fraction in the block g is n / d, and d and n are so many times its parts. -/
structure RatV (n : Int) (d : Nat) (b : Bool) (N D : Nat) : Prop where
  ex : ∃ k : Nat, k ≠ 0 ∧ d = k * dd D ∧ n = k * sg b N
  nz : N = 0 → b = false
def RatAt (w : World) (g : Nat) (n : Int) (d : Nat) : Prop :=
  ∃ b v1 v2 N D, RatC w g b v1 v2 ∧ IsW w v1 (digs N) ∧ IsW w v2 (digs D) ∧ RatV n d b N D
theorem RatAt.grown {w w' : World} {g d : Nat} {n : Int} (h : RatAt w g n d) (k : Grown w w') : RatAt w' g n d := by
  obtain ⟨b, v1, v2, N, D, h1, h2, h3, h4⟩ := h
  exact ⟨b, v1, v2, N, D, h1.grown k, h2.grown k, h3.grown k, h4⟩
theorem RatAt.kept {w w' : World} {g g' d : Nat} {n : Int} (h : RatAt w g n d) (k : GrB g' w w') (hne : g ≠ g') (hn : NoInt w g') : RatAt w' g n d := by
  obtain ⟨b, v1, v2, N, D, h1, h2, h3, h4⟩ := h
  exact ⟨b, v1, v2, N, D, h1.kept k hne, h2.kept k hn, h3.kept k hn, h4⟩
/-- a block that may be set. -/
def RatZ (w : World) (g : Nat) : Prop := ∃ b v1 v2, RatC w g b v1 v2
theorem RatAt.z {w : World} {g d : Nat} {n : Int} (h : RatAt w g n d) : RatZ w g := by obtain ⟨b, v1, v2, _, _, h, _⟩ := h; exact ⟨b, v1, v2, h⟩
theorem RatZ.grown {w w' : World} {g : Nat} (h : RatZ w g) (k : Grown w w') : RatZ w' g := by obtain ⟨b, v1, v2, h⟩ := h; exact ⟨b, v1, v2, h.grown k⟩
theorem RatZ.kept {w w' : World} {g g' : Nat} (h : RatZ w g) (k : GrB g' w w') (hne : g ≠ g') : RatZ w' g := by obtain ⟨b, v1, v2, h⟩ := h; exact ⟨b, v1, v2, h.kept k hne⟩
theorem RatZ.no {w : World} {g : Nat} (h : RatZ w g) : NoInt w g := by obtain ⟨b, v1, v2, h⟩ := h; exact h.i.no
theorem RatZ.lt {w : World} {g : Nat} (h : RatZ w g) : g < w.heap.size := by obtain ⟨b, v1, v2, h⟩ := h; exact h.i.lt
def RetR (g : Nat) (n : Int) (d : Nat) (w : World) (e : Ending) (w' : World) : Prop := e = .returned (.pointer (some ⟨g, 0, none⟩)) ∧ RatAt w' g n d ∧ GrB g w w'
theorem RatV.mk' {A D G : Nat} {b : Bool} (hG : G ≠ 0) (h1 : G ∣ A) (h2 : G ∣ D) (hA : A ≠ 0) (hD : D ≠ 0) : RatV (sg b A) D (b && decide (A / G ≠ 0)) (A / G) (D / G) := by
  obtain ⟨x, rfl⟩ := h1
  obtain ⟨y, rfl⟩ := h2
  have hx : x ≠ 0 := by rintro rfl; simp at hA
  have hy : y ≠ 0 := by rintro rfl; simp at hD
  rw [Nat.mul_div_cancel_left _ (Nat.pos_of_ne_zero hG), Nat.mul_div_cancel_left _ (Nat.pos_of_ne_zero hG)]
  refine ⟨⟨G, hG, ?_, ?_⟩, fun e => absurd e hx⟩
  · unfold dd; rw [if_neg hy]
  · have : (b && decide (x ≠ 0)) = b := by simp [hx]
    rw [this]; unfold sg; cases b <;> simp [Int.mul_neg]
theorem RatV.whole {A D : Nat} {b : Bool} (hA : A ≠ 0) (hD : D ≠ 0) : RatV (sg b A) D (b && decide (A ≠ 0)) A D := by
  have := RatV.mk' (b := b) (G := 1) (by decide) (Nat.one_dvd A) (Nat.one_dvd D) hA hD
  rwa [Nat.div_one, Nat.div_one] at this
theorem rat_fin {g A D X Y : Nat} {minus : Bool} {w w3 : World} {v3 u2 vD : Value} (hi : IntC w3 g (minus && decide (X ≠ 0)) v3) (hv : IsW w3 v3 (digs X)) (hd : IsW w3 vD (digs Y)) (hc : w3.cell? ⟨g, 2, none⟩ = some u2) (hg : GrB g w w3)
    (hV : RatV (sg minus A) D (minus && decide (X ≠ 0)) X Y) : RetR g (sg minus A) D w (.returned (.pointer (some ⟨g, 0, none⟩))) (w3.setCell ⟨g, 2, none⟩ vD) := by
  have hs : ∀ x, vD ≠ .int .u32 x := by obtain ⟨s, c, e, _⟩ := hd; intro x h; rw [e] at h; cases h
  have hR : RatC w3 g (minus && decide (X ≠ 0)) v3 u2 := ⟨hi, hc⟩
  have k := (GrB.refl g w3).set 2 vD
  exact ⟨rfl, ⟨_, v3, vD, X, Y, hR.s2 _ hs, hv.kept k hi.no, hd.kept k hi.no, hV⟩, hg.set 2 vD⟩
theorem wcase (X : Nat) : X = 1 ∨ (X ≠ 1 ∧ X < 4294967296) ∨ 4294967296 ≤ X := by omega
theorem IsW.first {w : World} {s : Option Addr} {n c X : Nat} (h : IsW w (.slice s n c) (digs X)) (h0 : X ≠ 0) (h1 : X < 4294967296) : n = 1 ∧ ∃ b off, s = some ⟨b, off, none⟩ ∧ b < w.heap.size ∧ w.cell? ⟨b, off, none⟩ = some (.int .u32 (X : Int)) := by
  have e := digs_one h1 h0
  obtain ⟨h2, _, _⟩ := h.opn
  obtain ⟨b, off, e1, hb, hc⟩ := h.word (i := 0) (by rw [e]; exact Nat.one_pos)
  rw [e] at hc h2
  exact ⟨h2, b, off, e1, hb, by simpa using hc⟩
theorem len_ne1 {X : Nat} (h : 4294967296 ≤ X) : (digs X).length ≠ 1 := by
  intro e
  have h0 : X ≠ 0 := by omega
  have := digs_lt X
  rw [e] at this
  omega
end Go.Proofs.YtcfkhhnkboealaaDoor
namespace Go.Proofs.YtcfkhhnkboealaaDoor
open Go.RowKit
set_option linter.unusedVariables false
set_option linter.unusedSimpArgs false
set_option maxRecDepth 100000
set_option maxHeartbeats 4000000
theorem RatV.scale {n : Int} {d N D c : Nat} {b : Bool} (h : RatV n d b N D) (hc : c ≠ 0) : RatV (n * c) (d * c) b N D := by
  obtain ⟨k, h0, h1, h2⟩ := h.ex
  refine ⟨⟨k * c, Nat.mul_ne_zero h0 hc, by rw [h1]; ac_rfl, by rw [h2, Int.natCast_mul]; ac_rfl⟩, h.nz⟩
theorem RatAt.scale {w : World} {g d : Nat} {n : Int} (h : RatAt w g n d) {c : Nat} (hc : c ≠ 0) : RatAt w g (n * c) (d * c) := by
  obtain ⟨b, v1, v2, N, D, h1, h2, h3, h4⟩ := h
  exact ⟨b, v1, v2, N, D, h1, h2, h3, h4.scale hc⟩
theorem RetR.scale {g d : Nat} {n : Int} {w w' : World} {e : Ending} (h : RetR g n d w e w') {c : Nat} (hc : c ≠ 0) : RetR g (n * c) (d * c) w e w' := ⟨h.1, h.2.1.scale hc, h.2.2⟩
theorem RetR.eq {g d d' : Nat} {n n' : Int} {w w' : World} {e : Ending} (h : RetR g n d w e w') (h1 : n = n') (h2 : d = d') : RetR g n' d' w e w' := by subst h1 h2; exact h
theorem sg_natAbs (b : Bool) (N : Nat) : (sg b N).natAbs = N := by unfold sg; cases b <;> simp
theorem sg_neg (b : Bool) (N : Nat) : decide (sg b N < 0) = (b && decide (N ≠ 0)) := by
  unfold sg; cases b
  · simp
  · have : decide (-(N : Int) < 0) = decide (N ≠ 0) := by rw [decide_eq_decide]; omega
    simpa using this
theorem RatV.le {n : Int} {d N D : Nat} {b : Bool} (h : RatV n d b N D) : N ≤ n.natAbs ∧ dd D ≤ d := by
  obtain ⟨k, h0, h1, h2⟩ := h.ex
  constructor
  · rw [h2, Int.natAbs_mul, sg_natAbs, Int.natAbs_natCast]; exact Nat.le_mul_of_pos_left _ (Nat.pos_of_ne_zero h0)
  · rw [h1]; exact Nat.le_mul_of_pos_left _ (Nat.pos_of_ne_zero h0)
theorem RatV.dne {n : Int} {d N D : Nat} {b : Bool} (h : RatV n d b N D) : d ≠ 0 := by
  obtain ⟨k, h0, h1, h2⟩ := h.ex
  rw [h1]; exact Nat.mul_ne_zero h0 (dd_ne D)
theorem digs_len_mul (A B : Nat) : (digs (A * B)).length ≤ (digs A).length + (digs B).length := by
  apply digs_len_le
  rw [Nat.pow_add]
  by_cases h : B = 0
  · subst h; rw [Nat.mul_zero]; exact Nat.mul_pos (Nat.pow_pos (by decide)) (Nat.pow_pos (by decide))
  · exact Nat.lt_of_lt_of_le (Nat.mul_lt_mul_of_pos_right (digs_lt A) (Nat.pos_of_ne_zero h)) (Nat.mul_le_mul_left _ (Nat.le_of_lt (digs_lt B)))
theorem digs_len_add (A B : Nat) {n : Nat} (h1 : (digs A).length ≤ n) (h2 : (digs B).length ≤ n) : (digs (A + B)).length ≤ n + 1 := by
  apply digs_len_le
  have a := digs_lt A
  have b := digs_lt B
  have a2 : 4294967296 ^ (digs A).length ≤ 4294967296 ^ n := Nat.pow_le_pow_right (by decide) h1
  have b2 : 4294967296 ^ (digs B).length ≤ 4294967296 ^ n := Nat.pow_le_pow_right (by decide) h2
  rw [Nat.pow_succ]
  omega
/-- a whole number, set. -/
def RetIS (g : Nat) (S : Int) (w : World) (e : Ending) (w' : World) : Prop :=
  ∃ v, e = .returned (.pointer (some ⟨g, 0, none⟩)) ∧ IsW w' v (digs S.natAbs) ∧ IntC w' g (decide (S < 0)) v ∧ GrB g w w' ∧ ∀ j, 2 ≤ j → w'.cell? ⟨g, j, none⟩ = w.cell? ⟨g, j, none⟩
theorem RetI2.to {g A : Nat} {below : Bool} {S : Int} {w w' : World} {e : Ending} (h : RetI2 g below A w e w') (hS : S = sg below A) : RetIS g S w e w' := by
  obtain ⟨v, h1, h2, h3, h4, h5⟩ := h
  subst hS
  exact ⟨v, h1, by rw [sg_natAbs]; exact h2, by rw [sg_neg]; exact h3, h4, h5⟩
theorem iadded_c {g A B : Nat} {b0 below other : Bool} {v0 va vb : Value} {w : World} (hI : IntC w g b0 v0) (ha : IsW w va (digs A)) (hb : IsW w vb (digs B)) (lA : (digs A).length ≤ 100000) (lB : (digs B).length ≤ 100000) :
    Calls Tryd.prog 88 #[.pointer (some ⟨g, 0, none⟩), va, .bool below, vb, .bool other] w (RetIS g (sg below A + sg other B) w) := by
  have HI := Lib.hid hI
  have HA := Lib.hid ha
  have HB := Lib.hid hb
  have HS := Lib.hid digs_sm
  have HW := Lib.hid wv_digs
  by_cases hbo : below = other
  · subst hbo
    have HAD := Lib.hid (addW_c ha hb (by omega) (by omega))
    have HE := Lib.hid (show sg below A + sg below B = sg below (A + B) from by unfold sg; cases below <;> simp <;> omega)
    clear hI ha hb
    cases below
    all_goals
      go_enter Tryd.func88, Tryd.ntmps88
      go_wp2_with (first
        | (go_at_call 94; (with_reducible refine HAD.out.mono ?_); rintro e w1 ⟨v1, rfl, hv1, hg1⟩; have HV1 := Lib.hid hv1; have HG1 := Lib.hid hg1; clear hv1 hg1)
        | (go_at_call 87; (with_reducible refine (iset_c (HI.out.grown HG1.out) HV1.out (HS.out _) (HW.out _)).mono ?_); rintro e w2 ⟨v2, rfl, hv2, hi2, hg2, hk2⟩)
        | fail)
      go_ret
      exact RetI2.to ⟨v2, rfl, hv2, hi2, (GrB.of HG1.out).trans hg2, fun j hj => (hk2 j hj).trans (grown_cell HG1.out HI.out.lt)⟩ HE.out
  · have hbo2 : (below == other) = false := by simpa using hbo
    by_cases hle : B ≤ A
    · have HSB := Lib.hid (fun n => subW_c (ha.drewN n) (hb.drewN n) hle (by omega))
      have HE := Lib.hid (show sg below A + sg other B = sg below (A - B) from by unfold sg; cases below <;> cases other <;> simp at hbo ⊢ <;> omega)
      have HCM := Lib.hid (cmp_c ha hb)
      have HC := Lib.hid (cmpI_ge' hle)
      clear hI ha hb
      obtain ⟨c, hc⟩ : ∃ c, cmpI A B = c := ⟨_, rfl⟩
      have HCC := Lib.hid hc
      have hc0 : (0 : Int) ≤ c := by rw [← hc]; rcases HC.out with e | e <;> rw [e] <;> decide
      have hc1 : c ≤ 1 := by rw [← hc]; rcases HC.out with e | e <;> rw [e] <;> decide
      clear hc
      cases below <;> cases other <;> simp at hbo
      all_goals
        go_enter Tryd.func88, Tryd.ntmps88
        go_wp2_with (first
          | (go_at_call 93; (with_reducible refine HCM.out.mono ?_); rw [HCC.out]; rintro e w0 ⟨n0, rfl, rfl⟩)
          | (go_at_call 91; (with_reducible refine (HSB.out _).mono ?_); rintro e w1 ⟨v1, rfl, hv1, hg1⟩; have HV1 := Lib.hid hv1; have HG1 := Lib.hid (gr_trans (gr_drewN _ (Grown.refl w)) hg1); clear hv1 hg1)
          | (go_at_call 87; (with_reducible refine (iset_c (HI.out.grown HG1.out) HV1.out (HS.out _) (HW.out _)).mono ?_); rintro e w2 ⟨v2, rfl, hv2, hi2, hg2, hk2⟩)
          | fail)
        go_ret
        exact RetI2.to ⟨v2, rfl, hv2, hi2, (GrB.of HG1.out).trans hg2, fun j hj => (hk2 j hj).trans (grown_cell HG1.out HI.out.lt)⟩ HE.out
    · have HSB := Lib.hid (fun n => subW_c (hb.drewN n) (ha.drewN n) (by omega) (by omega))
      have HE := Lib.hid (show sg below A + sg other B = sg other (B - A) from by unfold sg; cases below <;> cases other <;> simp at hbo ⊢ <;> omega)
      have HCM := Lib.hid (cmp_c ha hb)
      have HC := Lib.hid (cmpI_lt (A := A) (B := B) (by omega))
      clear hI ha hb
      cases below <;> cases other <;> simp at hbo
      all_goals
        go_enter Tryd.func88, Tryd.ntmps88
        go_wp2_with (first
          | (go_at_call 93; (with_reducible refine HCM.out.mono ?_); rw [HC.out]; rintro e w0 ⟨n0, rfl, rfl⟩)
          | (go_at_call 91; (with_reducible refine (HSB.out _).mono ?_); rintro e w1 ⟨v1, rfl, hv1, hg1⟩; have HV1 := Lib.hid hv1; have HG1 := Lib.hid (gr_trans (gr_drewN _ (Grown.refl w)) hg1); clear hv1 hg1)
          | (go_at_call 87; (with_reducible refine (iset_c (HI.out.grown HG1.out) HV1.out (HS.out _) (HW.out _)).mono ?_); rintro e w2 ⟨v2, rfl, hv2, hi2, hg2, hk2⟩)
          | fail)
        go_ret
        exact RetI2.to ⟨v2, rfl, hv2, hi2, (GrB.of HG1.out).trans hg2, fun j hj => (hk2 j hj).trans (grown_cell HG1.out HI.out.lt)⟩ HE.out
theorem iadd_c {g gx gy A B : Nat} {b0 bx by' : Bool} {v0 vx vy : Value} {w : World} (hI : IntC w g b0 v0) (hx : IntC w gx bx vx) (hy : IntC w gy by' vy) (ha : IsW w vx (digs A)) (hb : IsW w vy (digs B)) (lA : (digs A).length ≤ 100000) (lB : (digs B).length ≤ 100000) :
    Calls Tryd.prog 58 #[.pointer (some ⟨g, 0, none⟩), .pointer (some ⟨gx, 0, none⟩), .pointer (some ⟨gy, 0, none⟩)] w (RetIS g (sg bx A + sg by' B) w) := by
  have x0 := hx.c0
  have x1 := hx.c1
  have y0 := hy.c0
  have y1 := hy.c1
  have HAD := Lib.hid (fun (W : World) (hg : Grown w W) => iadded_c (below := bx) (other := by') (hI.grown hg) (ha.grown hg) (hb.grown hg) lA lB)
  clear hI hx hy ha hb
  go_enter Tryd.func58, Tryd.ntmps58
  go_upto_region 1 with fail
  go_region_with (first
    | (go_at_call 88; (with_reducible refine (HAD.out _ (gr_drew1 (Grown.refl w))).mono ?_); rintro e w1 ⟨v1, rfl, hv1, hi1, hg1, hk1⟩)
    | fail)
  all_goals
    go_wp2_with fail
    go_ret
    exact ⟨v1, rfl, hv1, hi1, hg1, hk1⟩
end Go.Proofs.YtcfkhhnkboealaaDoor
namespace Go.Proofs.YtcfkhhnkboealaaDoor
open Go.RowKit
set_option linter.unusedVariables false
set_option linter.unusedSimpArgs false
set_option maxRecDepth 100000
set_option maxHeartbeats 4000000
theorem intNew {w0 w : World} (h : Grown w0 w) (t : TypeId) : IntC (w.alloc (.cells #[.bool false, .slice none 0 0] t)) w.heap.size false (.slice none 0 0) := by
  refine ⟨World.cell?_alloc_new .., World.cell?_alloc_new .., fun j x e => ?_, by rw [size_alloc]; exact Nat.lt_succ_self _, fun j => Row.free ((Grown.refl w).alloc _ _) (Nat.le_refl _)⟩
  rw [World.cell?_alloc_new] at e
  match j, e with
  | 0, e => simp at e
  | 1, e => simp at e
  | k + 2, e => simp at e
theorem sg_of (S : Int) : sg (decide (S < 0)) S.natAbs = S := by
  unfold sg
  by_cases h : S < 0
  · rw [if_pos (by simpa using h)]; omega
  · rw [if_neg (by simpa using h)]; omega
theorem bne_eq (a b : Bool) : (!a == b) = (a != b) := by cases a <;> cases b <;> rfl
theorem sg_and (b : Bool) (N : Nat) : sg (b && decide (N ≠ 0)) N = sg b N := by
  by_cases h : N = 0
  · subst h; cases b <;> rfl
  · simp [h]
theorem pow2_split : ∀ (K k y : Nat), k * y = 2 ^ K → ∃ j, j ≤ K ∧ y = 2 ^ j ∧ k = 2 ^ (K - j)
  | 0, k, y, h => by
    have h1 : k * y = 1 := h
    have h2 := Nat.eq_one_of_mul_eq_one_left h1
    have h3 := Nat.eq_one_of_mul_eq_one_right h1
    first
      | exact ⟨0, Nat.le_refl _, h2, h3⟩
      | exact ⟨0, Nat.le_refl _, h3, h2⟩
  | K + 1, k, y, h => by
    rw [Nat.pow_succ] at h
    rcases Nat.mod_two_eq_zero_or_one y with e | e
    · obtain ⟨z, rfl⟩ : ∃ z, y = 2 * z := ⟨y / 2, by omega⟩
      obtain ⟨j, h1, h2, h3⟩ := pow2_split K k z (by
        have : 2 * (k * z) = 2 * 2 ^ K := by rw [Nat.mul_left_comm] at h; omega
        omega)
      exact ⟨j + 1, by omega, by rw [h2, Nat.pow_succ, Nat.mul_comm], by rw [h3]; congr 1; omega⟩
    · rcases Nat.mod_two_eq_zero_or_one k with f | f
      · obtain ⟨z, rfl⟩ : ∃ z, k = 2 * z := ⟨k / 2, by omega⟩
        obtain ⟨j, h1, h2, h3⟩ := pow2_split K z y (by rw [Nat.mul_assoc] at h; omega)
        have hj : j = 0 := by
          rcases Nat.eq_zero_or_pos j with q | q
          · exact q
          · obtain ⟨i, rfl⟩ : ∃ i, j = i + 1 := ⟨j - 1, by omega⟩
            rw [Nat.pow_succ] at h2
            omega
        subst hj
        exact ⟨0, by omega, h2, by rw [h3, Nat.sub_zero, Nat.sub_zero, Nat.pow_succ, Nat.mul_comm]⟩
      · exfalso
        have : (k * y) % 2 = 1 := by rw [Nat.mul_mod, e, f]
        rw [h] at this
        omega
theorem ratV_pow {n : Int} {K N D : Nat} {b : Bool} (h : RatV n (2 ^ K) b N D) (hn : n ≠ 0) : N ≠ 0 ∧ b = decide (n < 0) ∧ ∃ j : Nat, dd D = 2 ^ j ∧ rndE N (1074 - (j : Int)) = rndE n.natAbs (1074 - (K : Int)) := by
  obtain ⟨k, h0, h1, h2⟩ := h.ex
  obtain ⟨j, hj, e1, e2⟩ := pow2_split K k (dd D) h1.symm
  have hN : N ≠ 0 := by
    rintro rfl
    apply hn
    rw [h2]
    unfold sg
    cases b <;> simp
  refine ⟨hN, ?_, j, e1, ?_⟩
  · rw [h2]
    have k0 : (0 : Int) < k := by omega
    have n0 : (0 : Int) < N := by omega
    have p := Int.mul_pos k0 n0
    unfold sg
    cases b
    · simp; omega
    · simp [Int.mul_neg]; omega
  · have e3 : n.natAbs = N * 2 ^ (K - j) := by rw [h2, Int.natAbs_mul, sg_natAbs, Int.natAbs_natCast, e2, Nat.mul_comm]
    rw [e3, rndE_shift]
    congr 1
    omega
theorem nearest0_c {v1 v2 : Value} {w : World} (b : Bool) (h1 : IsW w v1 (digs 0)) : Calls Tryd.prog 79 #[.bool b, v1, v2] w (RetNr 0 w) := by
  have hl : (digs 0).length = 0 := rfl
  obtain ⟨s, c, rfl, _, _, _⟩ := h1
  go_enter Tryd.func79, Tryd.ntmps79
  go_wp2_with fail
  go_ret2
  exact ⟨_, _, rfl, Rep.c0, Grown.refl w⟩
end Go.Proofs.YtcfkhhnkboealaaDoor
namespace Go.Proofs.YtcfkhhnkboealaaDoor
open Go.RowKit
set_option linter.unusedVariables false
set_option linter.unusedSimpArgs false
set_option maxRecDepth 100000
set_option maxHeartbeats 4000000
theorem U_split {e : Nat} (h : e ≤ 1074) : U = 2 ^ (1074 - e) * 2 ^ e := by
  rw [← Nat.pow_add, show 1074 - e + e = e1 by rw [e1_eq]; omega]; rfl
theorem isW_one (w : World) (t : TypeId) : IsW (w.alloc (.cells #[.int .u32 1] t)) (.slice (some ⟨w.heap.size, 0, none⟩) 1 1) (digs 1) := isW_new1 w 1 t
theorem one_len : (digs 1).length ≤ 50000 := by decide
theorem one_ne : (1 : Nat) ≠ 0 := by decide
def RetIG (i : Int) (w : World) (e : Ending) (w' : World) : Prop := e = .returned (.int .i64 i) ∧ Grown w w'
/-- how two fractions compare. -/
def cmpQ (n1 : Int) (d1 : Nat) (n2 : Int) (d2 : Nat) : Int := if n1 * d2 < n2 * d1 then -1 else if n2 * d1 < n1 * d2 then 1 else 0
def sgI (n : Int) : Int := if n < 0 then -1 else if 0 < n then 1 else 0
theorem cmpQ_sign {n1 n2 : Int} {d1 d2 : Nat} (h1 : d1 ≠ 0) (h2 : d2 ≠ 0) (h : sgI n1 ≠ sgI n2 ∨ sgI n1 = 0) : cmpQ n1 d1 n2 d2 = (if sgI n1 < sgI n2 then -1 else if sgI n2 < sgI n1 then 1 else 0) := by
  have k1 : (0 : Int) < d1 := by omega
  have k2 : (0 : Int) < d2 := by omega
  unfold cmpQ
  unfold sgI at *
  rcases Int.lt_trichotomy n1 0 with a | a | a <;> rcases Int.lt_trichotomy n2 0 with b | b | b
  · simp [a, b] at h
  · subst b; have := Int.mul_neg_of_neg_of_pos a k2; simp [a, this]
  · have p := Int.mul_neg_of_neg_of_pos a k2; have q := Int.mul_pos b k1
    have e2 : ¬ n2 < 0 := by omega
    have e3 : n1 * d2 < n2 * d1 := by omega
    simp [a, b, e2, e3]
  · subst a; have := Int.mul_neg_of_neg_of_pos b k1; simp [b]; omega
  · subst a b; simp
  · subst a; have := Int.mul_pos b k1; simp [b, this]; omega
  · have p := Int.mul_neg_of_neg_of_pos b k1; have q := Int.mul_pos a k2
    have e1 : ¬ n1 < 0 := by omega
    have e3 : n2 * d1 < n1 * d2 := by omega
    have e4 : ¬ n1 * d2 < n2 * d1 := by omega
    simp [a, b, e1, e3, e4]
  · subst b; have := Int.mul_pos a k2; simp [a, this]; omega
  · have e1 : ¬ n1 < 0 := by omega
    have e2 : ¬ n2 < 0 := by omega
    simp [a, b, e1, e2] at h
theorem cmpQ_abs {n1 n2 : Int} {d1 d2 N1 N2 D1 D2 : Nat} {b1 b2 : Bool} (h1 : RatV n1 d1 b1 N1 D1) (h2 : RatV n2 d2 b2 N2 D2) (h : sgI n1 = sgI n2) (h0 : sgI n1 ≠ 0) : cmpQ n1 d1 n2 d2 = (if b1 then -cmpI (N1 * dd D2) (N2 * dd D1) else cmpI (N1 * dd D2) (N2 * dd D1)) ∧ b1 = decide (n1 < 0) := by
  obtain ⟨k, k0, e1, e2⟩ := h1.ex
  obtain ⟨m, m0, f1, f2⟩ := h2.ex
  have kp : (0 : Int) < k := by omega
  have mp : (0 : Int) < m := by omega
  have km : (0 : Int) < (k : Int) * m := Int.mul_pos kp mp
  have hs1 : b1 = decide (n1 < 0) := by
    rw [e2]
    unfold sg
    cases b1
    · have := Int.mul_nonneg (Int.le_of_lt kp) (show (0 : Int) ≤ N1 by omega)
      simp; omega
    · have : N1 ≠ 0 := fun e => by have := h1.nz e; cases this
      have := Int.mul_pos kp (show (0 : Int) < N1 by omega)
      simp [Int.mul_neg]; omega
  have hs2 : b2 = decide (n2 < 0) := by
    rw [f2]
    unfold sg
    cases b2
    · have := Int.mul_nonneg (Int.le_of_lt mp) (show (0 : Int) ≤ N2 by omega)
      simp; omega
    · have : N2 ≠ 0 := fun e => by have := h2.nz e; cases this
      have := Int.mul_pos mp (show (0 : Int) < N2 by omega)
      simp [Int.mul_neg]; omega
  have hb : b1 = b2 := by
    rw [hs1, hs2]
    unfold sgI at h h0
    by_cases a : n1 < 0 <;> by_cases b : n2 < 0 <;> simp [a, b] at h ⊢
    · split at h <;> omega
    · split at h <;> omega
  refine ⟨?_, hs1⟩
  have g1 : n1 * d2 = (k * m) * (sg b1 N1 * dd D2) := by rw [e2, f1, Int.natCast_mul]; ac_rfl
  have g2 : n2 * d1 = (k * m) * (sg b1 N2 * dd D1) := by rw [f2, e1, hb, Int.natCast_mul]; ac_rfl
  have c1 : ∀ x y : Int, ((k : Int) * m * x < k * m * y) ↔ x < y := fun x y => ⟨fun h => Int.lt_of_mul_lt_mul_left h (Int.le_of_lt km), fun h => Int.mul_lt_mul_of_pos_left h km⟩
  unfold cmpQ
  rw [g1, g2]
  simp only [c1]
  unfold cmpI sg
  have x1 : ((N1 : Int) * (dd D2 : Nat)) = ((N1 * dd D2 : Nat) : Int) := (Int.natCast_mul _ _).symm
  have x2 : ((N2 : Int) * (dd D1 : Nat)) = ((N2 * dd D1 : Nat) : Int) := (Int.natCast_mul _ _).symm
  cases b1
  · simp only [Bool.false_eq_true, if_false, x1, x2, Int.ofNat_lt]
  · simp only [if_true, Int.neg_mul, x1, x2]
    generalize N1 * dd D2 = P
    generalize N2 * dd D1 = R
    split <;> split <;> (try split) <;> (try split) <;> omega
end Go.Proofs.YtcfkhhnkboealaaDoor
