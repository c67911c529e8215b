/- Words in memory: what a slice of words reads as, and rows of the call's own. -/
import Derived.Test.YtndknkdfbjfjcaaDoorBigN
import Derived.Test.YtndknkdfbjfjcaaDoorGrow
import Derived.Test.YtndknkdfbjfjcaaDoorBits
import Derived.Laws.MakeOwn
namespace Go.Proofs.YtndknkdfbjfjcaaDoor
open Go.RowKit
set_option linter.unusedVariables false
set_option linter.unusedSimpArgs false

theorem gr_trans {a b c : World} (h : Grown a b) (k : Grown b c) : Grown a c := by
  exact ⟨World.keptBut_trans h.1 k.1, fun x => (k.2.1 x).trans (h.2.1 x), Nat.le_trans h.2.2 k.2.2⟩
theorem gr_drewN {w w' : World} (n : Nat) (h : Grown w w') : Grown w (w'.drewN n) := h
theorem gr_tab {w w' : World} (h : Grown w w') (ht : TabAt w) (hg : 1 < w.heap.size) : TabAt w' := fun j hj => by
  rw [grown_cell h hg]; exact ht j hj
/-- a slice that reads as words. -/
def IsW (w : World) (v : Value) (l : List Nat) : Prop :=
  ∃ s cap, v = .slice s l.length cap ∧ l.length ≤ cap ∧ cap ≤ 1000000000 ∧ (l ≠ [] → ∃ b off, s = some ⟨b, off, none⟩ ∧ b < w.heap.size ∧ ∀ j, j < l.length → w.cell? ⟨b, off + j, none⟩ = some (.int .u32 ((l.getD j 0 : Nat) : Int)))
theorem IsW.nil (w : World) : IsW w (.slice none 0 0) [] := ⟨none, 0, rfl, Nat.le_refl _, by decide, fun h => absurd rfl h⟩
theorem IsW.grown {w w' : World} {v : Value} {l : List Nat} (h : IsW w v l) (g : Grown w w') : IsW w' v l := by
  obtain ⟨s, cap, h1, h2, h3, h4⟩ := h
  refine ⟨s, cap, h1, h2, h3, fun hl => ?_⟩
  obtain ⟨b, off, e, hb, hc⟩ := h4 hl
  exact ⟨b, off, e, Nat.lt_of_lt_of_le hb g.2.2, fun j hj => by rw [grown_cell g hb]; exact hc j hj⟩
/-- a block of the call's own that holds words. -/
structure Row (w : World) (b : Nat) (xs : List Nat) : Prop where
  cell : ∀ j, j < xs.length → w.cell? ⟨b, j, none⟩ = some (.int .u32 ((xs.getD j 0 : Nat) : Int))
  lt : b < w.heap.size
theorem Row.grown {w w' : World} {b : Nat} {xs : List Nat} (h : Row w b xs) (g : Grown w w') : Row w' b xs :=
  ⟨fun j hj => by rw [grown_cell g h.lt]; exact h.cell j hj, Nat.lt_of_lt_of_le h.lt g.2.2⟩
theorem size_setCell (w : World) (a : Addr) (v : Value) : (w.setCell a v).heap.size = w.heap.size := by simp [World.setCell]
theorem size_alloc (w : World) (o : Obj) : (w.alloc o).heap.size = w.heap.size + 1 := by show (w.heap.push _).size = _; simp
theorem Row.set {w : World} {b : Nat} {xs : List Nat} (h : Row w b xs) {j : Nat} (hj : j < xs.length) (v : Nat) : Row (w.setCell ⟨b, j, none⟩ (.int .u32 (v : Int))) b (xs.set j v) := by
  refine ⟨fun i hi => ?_, by rw [size_setCell]; exact h.lt⟩
  rw [List.length_set] at hi
  by_cases e : i = j
  · subst e
    rw [World.cell?_setCell_same _ _ _ (h.cell i hi), gd_lt (by rw [List.length_set]; exact hi), List.getElem_set_self]
  · rw [World.cell?_setCell_other _ _ _ _ (by intro h; injection h with _ h2; exact e h2.symm), h.cell i hi, gd_lt hi, gd_lt (by rw [List.length_set]; exact hi), List.getElem_set_ne (fun h => e h.symm)]
theorem Row.free {w0 w : World} {b j : Nat} (g : Grown w0 w) (hb : w0.heap.size ≤ b) : w.frozen? ⟨b, j, none⟩ = false := by
  rw [g.2.1]
  have : w0.heap[b]? = none := by simp; omega
  simp [World.frozen?, this]
theorem getD_replicate (n j : Nat) : (List.replicate n 0).getD j 0 = 0 := by
  by_cases h : j < n
  · rw [gd_lt (by simpa using h)]; simp
  · rw [gd_ge (by simp; omega)]
theorem Row.made (w : World) (n : Nat) (t : TypeId) : Row (w.alloc (.cells (madeCells #[.int .u32 0] (n * 1)) t)) w.heap.size (List.replicate n 0) := by
  refine ⟨fun j hj => ?_, by rw [size_alloc]; omega⟩
  rw [World.cell?_alloc_new, getD_replicate]
  simp at hj
  have hs : (madeCells #[.int .u32 0] (n * 1)).size = n * 1 := size_madeCells _ _
  simp [madeCells, hj, Nat.mod_one]
/-- a row's beginning as a slice. -/
theorem Row.isW {w : World} {b : Nat} {xs : List Nat} (h : Row w b xs) (k cap : Nat) (hk : k ≤ xs.length) (hc : xs.length ≤ cap) (hcap : cap ≤ 1000000000) : IsW w (.slice (some ⟨b, 0, none⟩) k cap) (xs.take k) := by
  have e : (xs.take k).length = k := by rw [List.length_take]; omega
  refine ⟨_, cap, by rw [e], by omega, hcap, fun _ => ⟨b, 0, rfl, h.lt, fun j hj => ?_⟩⟩
  rw [Nat.zero_add, h.cell j (by omega), gd_lt (by omega), gd_lt (by omega), List.getElem_take]
/-- hands back a number's words. -/
def RetW (A : Nat) (w : World) (e : Ending) (w' : World) : Prop := ∃ v, e = .returned v ∧ IsW w' v (digs A) ∧ Grown w w'
end Go.Proofs.YtndknkdfbjfjcaaDoor
