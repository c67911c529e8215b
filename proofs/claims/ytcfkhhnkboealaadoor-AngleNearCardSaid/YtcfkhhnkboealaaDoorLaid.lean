/- What the listed variable gives a walk: the table's cells; the door's own heap meets the condition. -/
import Derived.Test.YtcfkhhnkboealaaDoorWde
import Derived.ProofKit
import Derived.LaidMore
import Derived.OpenShut
import Derived.MakeChecks
import Derived.Carry
import Derived.Stop.Joined
namespace Go.Proofs.YtcfkhhnkboealaaDoor
open Go.ChangeShapes Go.WideShapes Go.ChangeAt Go.RowKit
set_option linter.unusedVariables false
set_option linter.unusedSimpArgs false
set_option maxRecDepth 100000
def tabL : List (String × DataW Unit) := [("math/bits.deBruijn32tab", Rows.laid_math_bits_deBruijn32tab)]
theorem gTab : Tryd.prog.globalNamed "math/bits.deBruijn32tab" = some 1 := by kernel_rfl
theorem tTab : (Tryd.prog.globals[1]?).map (·.type) = some 92 := by kernel_rfl
theorem c8Tab : Tryd.prog.cellsOf 5 = 1 := by kernel_rfl
theorem take_one {α : Type} {l : List α} {j : Nat} {a : α} (h : (l.drop j).take 1 = [a]) : l[j]? = some a := by
  have e := congrArg (fun x => x[0]?) h
  simpa using e
theorem tab_list (j : Nat) (hj : j < 32) : (Lib.deBruijn32tab.map fun k : Nat => (DataW.lit (.int .u8 (k : Int)) : DataW Unit))[j]? = some (.lit (.int .u8 ((Lib.deBruijn32tab.getD j 0 : Nat) : Int))) := by
  have hl : j < Lib.deBruijn32tab.length := hj
  rw [List.getElem?_map, List.getElem?_eq_getElem hl, gd_lt hl]; rfl
theorem tab_of_laid {W : World} (h : laidMetH Tryd.prog tabL W) : TabAt W ∧ 1 < W.heap.size := by
  rw [MakeChecks.laidMetH_plain _ _ _ (by kernel_rfl)] at h
  obtain ⟨ps, ⟨g0, t0, cs0, f0, p0, q0, hg0, ht0, hv0, hd0, _, _⟩, _, _⟩ := h
  obtain rfl := Option.some.inj (gTab.symm.trans hg0)
  obtain rfl := Option.some.inj (tTab.symm.trans ht0)
  obtain ⟨xs, m, rfl, hx, hlen, hn, hel⟩ := DataW.trod_array Tryd.underlying92 hd0
  simp only [Prod.mk.injEq] at hx
  have hx1 : xs.map (·.1) = Lib.deBruijn32tab.map fun k : Nat => (DataW.lit (.int .u8 (k : Int)) : DataW Unit) := by
    have e : (Rows.laid_math_bits_deBruijn32tab : DataW Unit) = .agg (Lib.deBruijn32tab.map fun k : Nat => .lit (.int .u8 (k : Int))) := rfl
    have e2 := e.symm.trans hx.1
    injection e2 with e3
    exact e3.symm
  have key : ∀ j : Nat, j < 32 → W.cell? ⟨1, j, none⟩ = some (.int .u8 (Lib.deBruijn32tab.getD j 0)) := by
    intro j hj
    have h1 := hel j hj
    rw [c8Tab, Nat.mul_one] at h1
    have hjx : j < xs.length := by omega
    have e1 : xs[j]? = some xs[j] := List.getElem?_eq_getElem hjx
    rw [e1] at h1
    obtain ⟨n, e2, e3, _⟩ := DataW.trod_int Tryd.underlying5 h1
    have e4 : (xs.map (·.1))[j]? = some (.lit (.int .u8 n)) := by rw [List.getElem?_map, e1, e3]; rfl
    rw [hx1, tab_list j hj] at e4
    injection e4 with e4
    injection e4 with e4
    injection e4 with _ e5
    have := World.var?_cell hg0 hv0 j
    rw [this, e5, ← Array.getElem?_toList]
    exact take_one e2
  refine ⟨fun j hj => key j hj, ?_⟩
  have h0 := key 0 (by decide)
  unfold World.cell? at h0
  cases hb : W.heap[(1 : Nat)]? with
  | none => simp only [hb] at h0; cases h0
  | some o => exact (Array.getElem?_eq_some_iff.1 hb).1
theorem door_met (os : Os) (args : Array Value) : laidMetH Tryd.prog tabL ((World.doorLaid Tryd.prog 400 os).forCall (fun _ _ => 0) ⟨#[], args, []⟩).memory :=
  laidMetH_of_parts3 (fuel := 8) (laidMet_of_run' 8 (by kernel_rfl) (by kernel_rfl)) (by kernel_rfl) (by kernel_rfl)
/-- a block that was there reads as it did. -/
theorem gr_heap {W W' : World} (h : Grown W W') {k : Nat} (hk : k < W.heap.size) : W'.heap[k]? = W.heap[k]? := by
  have q := h.1.2.2 k hk
  cases h1 : W.heap[k]? with
  | none =>
    have : W.heap[k]? = some W.heap[k] := by simp [hk]
    rw [h1] at this; cases this
  | some o =>
    cases h2 : W'.heap[k]? with
    | none => rw [h1, h2] at q; cases o <;> simp at q
    | some o' =>
      rw [h1, h2] at q
      cases o <;> cases o' <;> simp at q ⊢
      all_goals first
        | (obtain ⟨q1, q2, q3, q4⟩ := q
           subst q1; subst q2
           refine ⟨Array.ext_getElem? fun i => q4 i, rfl, rfl⟩)
        | (try simp_all)
theorem gr_same {W W' : World} (h : Grown W W') {p : MemPlace} (hp : p.block < W.heap.size) : W.sameAt W' p := by
  cases p with
  | cell b o => exact World.cell?_of_block (w := W) (gr_heap h hp)
  | map b => exact gr_heap h hp
theorem gr_trod {H : Type} {enc : TypeId × Value → H} {P : Program} {t : TypeId} (hl : laidOutB P = true) (hr : P.readableRec t = true) (hrow : t < P.types.size) {W W' : World} {v : Value} {d : DataW H} {ps : List MemPlace}
    (h : DataW.Trod enc P W 0 (fun _ => true) true t v d ps) (hb : Grown W W') (hlt : ∀ x ∈ ps, x.block < W.heap.size) :
    DataW.Trod enc P W' 0 (fun b => decide (b < W.heap.size)) true t v d ps :=
  WideElems.Trod_stays hl hr hrow h (fun x hx => gr_same hb (hlt x hx)) (fun x hx => by simpa using hlt x hx)
end Go.Proofs.YtcfkhhnkboealaaDoor
