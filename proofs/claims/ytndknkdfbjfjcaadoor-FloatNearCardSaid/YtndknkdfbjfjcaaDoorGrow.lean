/- What stays in a world that has only grown. -/
import Derived.Test.YtndknkdfbjfjcaaDoorRows
import Derived.WalkKit
namespace Go.Proofs.YtndknkdfbjfjcaaDoor
open Go.RowKit
set_option linter.unusedVariables false
theorem grown_cell {W w' : World} (h : Grown W w') {b i : Nat} (hb : b < W.heap.size) : w'.cell? ⟨b, i, none⟩ = W.cell? ⟨b, i, none⟩ := by
  have k := h.1.2.2 b hb
  unfold World.cell?
  cases h1 : W.heap[b]? with
  | none =>
    have : W.heap[b]? = some W.heap[b] := by simp [hb]
    rw [h1] at this; cases this
  | some o =>
    cases h2 : w'.heap[b]? with
    | none => rw [h1, h2] at k; cases o <;> simp at k
    | some o' =>
      rw [h1, h2] at k
      cases o <;> cases o' <;> simp at k ⊢
      all_goals first
        | (obtain ⟨_, _, _, k4⟩ := k; exact k4 i)
        | (try simp_all)
theorem grown_box2 {w w' : World} {a b : Value} {t : TypeId} (h : Grown (w.alloc (.cells #[a, b] t)) w') : w'.cell? ⟨w.heap.size, 0, none⟩ = some a ∧ w'.cell? ⟨w.heap.size, 1, none⟩ = some b ∧ w.heap.size < w'.heap.size := by
  have hs : w.heap.size < (w.alloc (.cells #[a, b] t)).heap.size := by show _ < (w.heap.push _).size; simp
  refine ⟨?_, ?_, Nat.lt_of_lt_of_le hs h.2.2⟩
  · rw [grown_cell h hs]; exact World.cell?_alloc_new ..
  · rw [grown_cell h hs]; exact World.cell?_alloc_new ..
end Go.Proofs.YtndknkdfbjfjcaaDoor
