/- Words copied, of a number, as a number. -/
import Derived.Test.YtndknkdfbjfjcaaDoorBigA
import Derived.Laws.CopyOwn
namespace Go.Proofs.YtndknkdfbjfjcaaDoor
open Go.RowKit
set_option linter.unusedVariables false
set_option linter.unusedSimpArgs false
set_option maxRecDepth 100000
set_option maxHeartbeats 4000000
theorem infoU32 : (Tryd.prog.info? 79).map (fun i => (i.zero, i.size, i.bytes)) = some (some (.int .u32 0), 1, 4) := by kernel_rfl
theorem mk_words (c : Int) (n : Nat) (hc : c = (n : Int)) (h : n ≤ 1000000000) (w : World) : (Instr.makeSlice 61 (.int .i64 c) (.int .i64 c)).run Tryd.prog w = .ok (.slice (some ⟨w.heap.size, 0, none⟩) n n) (w.alloc (.cells (madeCells #[.int .u32 0] (n * 1)) 79)) := by
  subst hc
  have e := infoU32
  cases hi : Tryd.prog.info? 79 with
  | none => rw [hi] at e; cases e
  | some i =>
    rw [hi] at e
    simp only [Option.map_some, Option.some.injEq, Prod.mk.injEq] at e
    obtain ⟨e1, e2, e3⟩ := e
    have := run_make (P := Tryd.prog) w 61 79 i (.int .u32 0) Tryd.underlying61 hi e1 .i64 .i64 (n : Int) (n : Int) (by omega) (Int.le_refl _) (by rw [e3]; omega) (by omega)
    rw [e2] at this
    simpa [Value.cells] using this
theorem gr_alloc {w w' : World} (h : Grown w w') (c : Array Value) (t : TypeId) : Grown w (w'.alloc (.cells c t)) := h.alloc c t
theorem gr_setRow {w w' : World} (h : Grown w w') {g : Nat} (hg : w.heap.size ≤ g) (cs : Array Value) : Grown w (w'.setRow g cs) := by
  obtain ⟨⟨h1, h2, h3⟩, hf, hs⟩ := h
  refine ⟨⟨h1, h2, fun i hi => ?_⟩, fun x => ?_, by simpa [World.setRow] using hs⟩
  · have e : (w'.setRow g cs).heap[i]? = w'.heap[i]? := by
      simp only [World.setRow, Array.getElem?_modify]
      rw [if_neg (by omega)]
    rw [e]
    exact h3 i hi
  · rw [← hf x]
    by_cases e : g = x.block
    · simp only [World.frozen?, World.setRow, Array.getElem?_modify, if_pos e]
      cases w'.heap[x.block]? with
      | none => rfl
      | some o => cases o <;> rfl
    · simp only [World.frozen?, World.setRow, Array.getElem?_modify, if_neg e]
theorem size_setRow (w : World) (g : Nat) (cs : Array Value) : (w.setRow g cs).heap.size = w.heap.size := by simp [World.setRow]
theorem heap_last (w : World) (o : Obj) : (w.alloc o).heap[w.heap.size]? = some o := by
  show (w.heap.push o)[w.heap.size]? = some o
  simp
def RetL (l : List Nat) (w : World) (e : Ending) (w' : World) : Prop := ∃ v, e = .returned v ∧ IsW w' v l ∧ Grown w w'
/-- hands back words in a block of the call's own. -/
def RetLN (l : List Nat) (w : World) (e : Ending) (w' : World) : Prop := e = .returned (.slice (some ⟨w.heap.size, 0, none⟩) l.length l.length) ∧ IsW w' (.slice (some ⟨w.heap.size, 0, none⟩) l.length l.length) l ∧ Grown w w' ∧ w.heap.size < w'.heap.size
theorem copied_new {v : Value} {l : List Nat} {w : World} (h : IsW w v l) : Calls Tryd.prog 149 #[v] w (RetLN l w) := by
  obtain ⟨s, cap, rfl, hc1, hc2, hcell⟩ := h
  have HC := Lib.hid hcell
  clear hcell
  have hmk := mk_words (l.length : Int) l.length rfl (by omega)
  have HP : RowKit.Hid (∀ W : World, W.heap[w.heap.size]? = some (.cells (l.map fun x : Nat => (Value.int .u32 (x : Int))).toArray 79 (0, 0)) → Grown w W → IsW W (.slice (some ⟨w.heap.size, 0, none⟩) l.length l.length) l) := Lib.hid (by
    intro W hW hg
    have hlt : w.heap.size < W.heap.size := (Array.getElem?_eq_some_iff.1 hW).1
    refine ⟨_, l.length, rfl, Nat.le_refl _, by omega, fun _ => ⟨w.heap.size, 0, rfl, hlt, fun j hj => ?_⟩⟩
    unfold World.cell?
    simp only [hW, Nat.zero_add]
    rw [gd_lt hj]
    simp [hj])
  by_cases hl : l = []
  · have HL := Lib.hid hl
    have h0 := Lib.hid (show l.length = 0 by rw [hl]; rfl)
    clear hl
    go_enter Tryd.func149, Tryd.ntmps149
    go_wp2_with (refine wpList_copy_nothing rfl (.tmp 7) (.tmp 8) 61 61 rfl 79 Tryd.underlying61 (by kernel_rfl) _ _ _ _ _ _ rfl rfl ?c1 ?_)
    case c1 => rw [h0.out]; rfl
    go_wp2
    go_ret
    refine ⟨by rw [HL.out]; rfl, by rw [HL.out]; exact ⟨_, 0, rfl, Nat.le_refl _, by decide, fun h => absurd rfl h⟩, (Grown.refl _).alloc _ _, ?_⟩
    rw [size_alloc]; exact Nat.lt_succ_self _
  · obtain ⟨b, off, e1, hb, hc⟩ := HC.out hl
    subst e1
    have HB := Lib.hid hc
    clear hc hl
    go_enter Tryd.func149, Tryd.ntmps149
    go_wp2_with (refine wpList_copy_own rfl (.tmp 7) (.tmp 8) 61 61 rfl 79 Tryd.underlying61 (by kernel_rfl) w.heap.size 0 _ _ ⟨b, off, none⟩ _ _ rfl rfl _ _ (heap_last _ _) (l.map fun x : Nat => (Value.int .u32 (x : Int))) ?c1 ?c2 ?c3 ?c4 ?_)
    case c1 => simp
    case c2 =>
      intro j v hj
      rw [List.getElem?_map] at hj
      cases hq : l[j]? with
      | none => rw [hq] at hj; cases hj
      | some x =>
        rw [hq] at hj
        simp at hj
        obtain ⟨hlt, hx⟩ := List.getElem?_eq_some_iff.1 hq
        have := HB.out j hlt
        rw [gd_lt hlt, hx] at this
        have e : (⟨b, off, none⟩ : Addr).add j = ⟨b, off + j, none⟩ := by cases j <;> simp [Addr.add]
        rw [e, World.cell?_alloc_lt _ _ _ hb, this, ← hj]
    case c3 => rw [size_madeCells]; simp
    case c4 => intro v hv; simp at hv; obtain ⟨x, _, rfl⟩ := hv; rfl
    go_wp2
    go_ret
    refine ⟨rfl, HP.out _ ((setRow_heap _ _ _ _ _ _ (heap_last _ _)).trans ?_) ?_, ?_, by rw [size_setRow, size_alloc]; exact Nat.lt_succ_self _⟩
    · have e : (madeCells #[Value.int .u32 0] l.length).size = l.length := size_madeCells _ _
      have e2 : (madeCells #[Value.int .u32 0] l.length).toList.length = l.length := by rw [Array.length_toList, e]
      congr 2
      simp [List.drop_of_length_le, e2, e]
    · exact gr_setRow ((Grown.refl _).alloc _ _) (Nat.le_refl _) _
    · exact gr_setRow ((Grown.refl _).alloc _ _) (Nat.le_refl _) _
theorem copied_c {v : Value} {l : List Nat} {w : World} (h : IsW w v l) : Calls Tryd.prog 149 #[v] w (RetL l w) := by
  refine (copied_new h).mono ?_
  rintro e w' ⟨rfl, h1, h2, _⟩
  exact ⟨_, rfl, h1, h2⟩
end Go.Proofs.YtndknkdfbjfjcaaDoor
