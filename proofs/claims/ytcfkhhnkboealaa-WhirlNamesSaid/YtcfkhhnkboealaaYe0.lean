/- The step's own array and ways. -/
import Derived.Test.YtcfkhhnkboealaaYd
namespace Go.Proofs.Ytcfkhhnkboealaa
open Go.RowKit
set_option linter.unusedVariables false
set_option linter.unusedSimpArgs false
set_option maxRecDepth 100000
set_option maxHeartbeats 4000000
@[go_sem] theorem idx4_0 (W : World) (a b c d : Nat) : (Instr.index 135 (.agg #[.float .f64 a, .float .f64 b, .float .f64 c, .float .f64 d]) (.int .i64 0)).run Try.prog W = .ok (.float .f64 a) W := by kernel_rfl
@[go_sem] theorem idx4_1 (W : World) (a b c d : Nat) : (Instr.index 135 (.agg #[.float .f64 a, .float .f64 b, .float .f64 c, .float .f64 d]) (.int .i64 1)).run Try.prog W = .ok (.float .f64 b) W := by kernel_rfl
@[go_sem] theorem idx4_2 (W : World) (a b c d : Nat) : (Instr.index 135 (.agg #[.float .f64 a, .float .f64 b, .float .f64 c, .float .f64 d]) (.int .i64 2)).run Try.prog W = .ok (.float .f64 c) W := by kernel_rfl
@[go_sem] theorem idx4_3 (W : World) (a b c d : Nat) : (Instr.index 135 (.agg #[.float .f64 a, .float .f64 b, .float .f64 c, .float .f64 d]) (.int .i64 3)).run Try.prog W = .ok (.float .f64 d) W := by kernel_rfl
@[go_sem] theorem drewN_none (w : World) : w.drewN 0 = w := rfl
def mvE (x a b P : Nat) : Bool := !isN (fmul a b) && fadd x (fmul a b) == P && !isN P
theorem mvE_of {x a b P : Nat} (rx : Rep x x) (ra : Rep a a) (rb : Rep b b) (h : mvE x a b P = true) : isN (fmul a b) = false ∧ isN (fadd x (fmul a b)) = false ∧ fadd x (fmul a b) = P ∧ Rep P P := by
  unfold mvE at h
  simp only [Bool.and_eq_true, beq_iff_eq, Bool.not_eq_true'] at h
  obtain ⟨⟨h1, h2⟩, h3⟩ := h
  have w0 : World := default
  have r1 := self_of (ra.mul rb (w := w0)) h1
  have h3' : isN (fadd x (fmul a b)) = false := by rw [h2]; exact h3
  have r2 := self_of (rx.add r1 (w := w0)) h3'
  rw [h2] at r2
  exact ⟨h1, h3', h2, r2⟩
theorem wv_rep {x y x' y' t : Nat} (rx : Rep x x) (ry : Rep y y) (rx' : Rep x' x') (ry' : Rep y' y') (rt : Rep t t) (h : wvOk x y x' y' t = true) : Rep (wvX x y x' y' t) (wvX x y x' y' t) ∧ Rep (wvY x y x' y' t) (wvY x y x' y' t) := by
  obtain ⟨dx, dy, k, m, pm, pn, qm, A⟩ := wv_of rx ry rx' ry' rt h
  exact ⟨A.rP, A.rQ⟩
structure St (w W : World) (kb : Nat) (v0 v1 v2 v3 : Value) : Prop where
  grw : GrW w W
  lo : w.heap.size ≤ kb
  lt : kb < W.heap.size
  c0 : W.cell? ⟨kb, 0, none⟩ = some v0
  c1 : W.cell? ⟨kb, 1, none⟩ = some v1
  c2 : W.cell? ⟨kb, 2, none⟩ = some v2
  c3 : W.cell? ⟨kb, 3, none⟩ = some v3
  f : ∀ i, W.frozen? ⟨kb, i, none⟩ = false
section
variable {w W W' : World} {kb : Nat} {v0 v1 v2 v3 : Value}
theorem St.up (h : St w W kb v0 v1 v2 v3) (k : GrW W W') : St w W' kb v0 v1 v2 v3 :=
  ⟨h.grw.trans k, h.lo, Nat.lt_of_lt_of_le h.lt k.size, (k.cell (a := ⟨kb, 0, none⟩) h.lt).trans h.c0, (k.cell (a := ⟨kb, 1, none⟩) h.lt).trans h.c1, (k.cell (a := ⟨kb, 2, none⟩) h.lt).trans h.c2, (k.cell (a := ⟨kb, 3, none⟩) h.lt).trans h.c3,
    fun i => (k.frozen (a := ⟨kb, i, none⟩) h.lt).trans (h.f i)⟩
theorem St.set0 (h : St w W kb v0 v1 v2 v3) (v : Value) : St w (W.setCell ⟨kb, 0, none⟩ v) kb v v1 v2 v3 :=
  ⟨h.grw.setCell h.lo v, h.lo, by simpa [World.setCell] using h.lt, cu_same (hc_of h.c0), cu_set (by decide) h.c1, cu_set (by decide) h.c2, cu_set (by decide) h.c3, fun i => (World.frozen?_setCell _ _ _ _).trans (h.f i)⟩
theorem St.set1 (h : St w W kb v0 v1 v2 v3) (v : Value) : St w (W.setCell ⟨kb, 1, none⟩ v) kb v0 v v2 v3 :=
  ⟨h.grw.setCell h.lo v, h.lo, by simpa [World.setCell] using h.lt, cu_set (by decide) h.c0, cu_same (hc_of h.c1), cu_set (by decide) h.c2, cu_set (by decide) h.c3, fun i => (World.frozen?_setCell _ _ _ _).trans (h.f i)⟩
theorem St.set2 (h : St w W kb v0 v1 v2 v3) (v : Value) : St w (W.setCell ⟨kb, 2, none⟩ v) kb v0 v1 v v3 :=
  ⟨h.grw.setCell h.lo v, h.lo, by simpa [World.setCell] using h.lt, cu_set (by decide) h.c0, cu_set (by decide) h.c1, cu_same (hc_of h.c2), cu_set (by decide) h.c3, fun i => (World.frozen?_setCell _ _ _ _).trans (h.f i)⟩
theorem St.set3 (h : St w W kb v0 v1 v2 v3) (v : Value) : St w (W.setCell ⟨kb, 3, none⟩ v) kb v0 v1 v2 v :=
  ⟨h.grw.setCell h.lo v, h.lo, by simpa [World.setCell] using h.lt, cu_set (by decide) h.c0, cu_set (by decide) h.c1, cu_set (by decide) h.c2, cu_same (hc_of h.c3), fun i => (World.frozen?_setCell _ _ _ _).trans (h.f i)⟩
theorem St.drew (h : St w W kb v0 v1 v2 v3) : St w W.drew kb v0 v1 v2 v3 := ⟨h.grw.drew, h.lo, h.lt, h.c0, h.c1, h.c2, h.c3, h.f⟩
theorem St.other (h : St w W kb v0 v1 v2 v3) {m i : Nat} (hm : w.heap.size ≤ m) (ne : m ≠ kb) (v : Value) : St w (W.setCell ⟨m, i, none⟩ v) kb v0 v1 v2 v3 :=
  ⟨h.grw.setCell hm v, h.lo, by simpa [World.setCell] using h.lt, cu_setb ne h.c0, cu_setb ne h.c1, cu_setb ne h.c2, cu_setb ne h.c3, fun i => (World.frozen?_setCell _ _ _ _).trans (h.f i)⟩
theorem St.new {T : TypeId} (h : GrW w W) (e : W' = W.alloc (.cells #[.slice none 0 0, .slice none 0 0, .slice none 0 0, .slice none 0 0] T)) : St w W' W.heap.size (.slice none 0 0) (.slice none 0 0) (.slice none 0 0) (.slice none 0 0) := by
  subst e
  refine ⟨h.alloc _, h.size, by simp, cu_new rfl, cu_new rfl, cu_new rfl, cu_new rfl, fun i => ?_⟩
  rw [frozen?_alloc_cells]
  unfold World.frozen?
  rw [Array.getElem?_eq_none (Nat.le_refl _)]
end
structure Way1 (W : World) (m a b : Nat) : Prop where
  lt : m < W.heap.size
  c0 : W.cell? ⟨m, 0, none⟩ = some (.complex .f64 a b)
  f : ∀ i, W.frozen? ⟨m, i, none⟩ = false
structure Way2 (W : World) (m a b c d : Nat) : Prop where
  lt : m < W.heap.size
  c0 : W.cell? ⟨m, 0, none⟩ = some (.complex .f64 a b)
  c1 : W.cell? ⟨m, 1, none⟩ = some (.complex .f64 c d)
  f : ∀ i, W.frozen? ⟨m, i, none⟩ = false
theorem Way1.up {W W' : World} {m a b : Nat} (h : Way1 W m a b) (k : GrW W W') : Way1 W' m a b :=
  ⟨Nat.lt_of_lt_of_le h.lt k.size, (k.cell (a := ⟨m, 0, none⟩) h.lt).trans h.c0, fun i => (k.frozen (a := ⟨m, i, none⟩) h.lt).trans (h.f i)⟩
theorem Way2.up {W W' : World} {m a b c d : Nat} (h : Way2 W m a b c d) (k : GrW W W') : Way2 W' m a b c d :=
  ⟨Nat.lt_of_lt_of_le h.lt k.size, (k.cell (a := ⟨m, 0, none⟩) h.lt).trans h.c0, (k.cell (a := ⟨m, 1, none⟩) h.lt).trans h.c1, fun i => (k.frozen (a := ⟨m, i, none⟩) h.lt).trans (h.f i)⟩
theorem Way1.set {W : World} {m a b kb i : Nat} (h : Way1 W m a b) (ne : m ≠ kb) {v : Value} : Way1 (W.setCell ⟨kb, i, none⟩ v) m a b :=
  ⟨by simpa [World.setCell] using h.lt, cu_setb (Ne.symm ne) h.c0, fun i => (World.frozen?_setCell _ _ _ _).trans (h.f i)⟩
theorem Way2.set {W : World} {m a b c d kb i : Nat} (h : Way2 W m a b c d) (ne : m ≠ kb) {v : Value} : Way2 (W.setCell ⟨kb, i, none⟩ v) m a b c d :=
  ⟨by simpa [World.setCell] using h.lt, cu_setb (Ne.symm ne) h.c0, cu_setb (Ne.symm ne) h.c1, fun i => (World.frozen?_setCell _ _ _ _).trans (h.f i)⟩
theorem Way1.drew {W : World} {m a b : Nat} (h : Way1 W m a b) : Way1 W.drew m a b := ⟨h.lt, h.c0, h.f⟩
theorem Way2.drew {W : World} {m a b c d : Nat} (h : Way2 W m a b c d) : Way2 W.drew m a b c d := ⟨h.lt, h.c0, h.c1, h.f⟩
theorem Way1.put0 {W : World} {m a b p q : Nat} (h : Way1 W m a b) : Way1 (W.setCell ⟨m, 0, none⟩ (.complex .f64 p q)) m p q :=
  ⟨by simpa [World.setCell] using h.lt, cu_same (hc_of h.c0), fun i => (World.frozen?_setCell _ _ _ _).trans (h.f i)⟩
theorem Way2.put0 {W : World} {m a b c d p q : Nat} (h : Way2 W m a b c d) : Way2 (W.setCell ⟨m, 0, none⟩ (.complex .f64 p q)) m p q c d :=
  ⟨by simpa [World.setCell] using h.lt, cu_same (hc_of h.c0), cu_set (by decide) h.c1, fun i => (World.frozen?_setCell _ _ _ _).trans (h.f i)⟩
theorem Way2.put1 {W : World} {m a b c d p q : Nat} (h : Way2 W m a b c d) : Way2 (W.setCell ⟨m, 1, none⟩ (.complex .f64 p q)) m a b p q :=
  ⟨by simpa [World.setCell] using h.lt, cu_set (by decide) h.c0, cu_same (hc_of h.c1), fun i => (World.frozen?_setCell _ _ _ _).trans (h.f i)⟩
end Go.Proofs.Ytcfkhhnkboealaa
