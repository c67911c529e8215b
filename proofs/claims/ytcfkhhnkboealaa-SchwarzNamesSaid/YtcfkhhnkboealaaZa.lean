/- Half planes bent to polygons: rows of floats, which of them may be. -/
import Derived.Test.YtcfkhhnkboealaaYd
namespace Go.Proofs.Ytcfkhhnkboealaa
open Go.RowKit
set_option linter.unusedVariables false
set_option linter.unusedSimpArgs false
set_option maxRecDepth 100000
set_option maxHeartbeats 4000000
/-- a row of floats in memory: the words xs, which stand for fs. -/
structure FW (w : World) (b cap : Nat) (xs fs : List Nat) : Prop where
  lt : b < w.heap.size
  lc : xs.length ≤ cap
  top : cap ≤ 9223372036854775807
  len : fs.length = xs.length
  cell : ∀ j, j < xs.length → w.cell? ⟨b, j, none⟩ = some (.float .f64 (xs.getD j 0))
  rep : ∀ j, j < xs.length → Rep (xs.getD j 0) (fs.getD j 0)
theorem FW.up {w w' : World} {b cap : Nat} {xs fs : List Nat} (h : FW w b cap xs fs) (k : GrW w w') : FW w' b cap xs fs :=
  ⟨Nat.lt_of_lt_of_le h.lt k.size, h.lc, h.top, h.len, fun j hj => (k.cell (a := ⟨b, j, none⟩) h.lt).trans (h.cell j hj), h.rep⟩
def okL (fs : List Nat) : Bool := fs.all fun f => within f 4787326403894837248
theorem okL_true {fs : List Nat} (h : ∀ j, j < fs.length → within (fs.getD j 0) 4787326403894837248 = true) : okL fs = true := by
  unfold okL
  rw [List.all_eq_true]
  intro x hx
  obtain ⟨j, hj, rfl⟩ := List.getElem_of_mem hx
  have := h j hj
  simpa [List.getD_eq_getElem?_getD, hj] using this
theorem okL_false {fs : List Nat} {j : Nat} (hj : j < fs.length) (h : within (fs.getD j 0) 4787326403894837248 = false) : okL fs = false := by
  unfold okL
  rw [List.all_eq_false]
  refine ⟨fs[j], List.getElem_mem hj, ?_⟩
  have e : fs.getD j 0 = fs[j] := by simp [List.getD_eq_getElem?_getD, hj]
  rw [← e, h]; decide
theorem reals_c {w : World} {b cap n : Nat} {xs fs : List Nat} (h : FW w b cap xs fs) (hn : xs.length = n) : Calls Try.prog 133 #[.slice (some ⟨b, 0, none⟩) n cap] w (RetB (okL fs) w) := by
  subst hn
  have HC := Lib.hid h
  have hcap := h.lc
  have htop := h.top
  have k40 : Rep 4787326403894837248 4787326403894837248 := Rep.c40
  clear h
  go_enter Try.func133, Try.ntmps133
  go_wp2
  go_loopw [7] (fun i wr => ∃ k d : Nat, k ≤ xs.length ∧ i = .int .i64 k ∧ RowKit.Hid (∀ j, j < k → within (fs.getD j 0) 4787326403894837248 = true) ∧ wr = w.drewN d) (fun i _ => xs.length - (intOf i).toNat)
  case atStart => exact ⟨0, 0, by omega, rfl, Lib.hid (by intro j hj; omega), rfl⟩
  case round =>
    obtain ⟨k, d, hk, rfl, hall, rfl⟩ := hrel
    by_cases hlt : k < xs.length
    · have c0 := HC.out.cell k hlt
      have r := HC.out.rep k hlt
      obtain ⟨x, ex⟩ : ∃ x, xs.getD k 0 = x := ⟨_, rfl⟩
      obtain ⟨f, ef⟩ : ∃ f, fs.getD k 0 = f := ⟨_, rfl⟩
      have HF := Lib.hid ef
      rw [ex] at c0 r
      rw [ef] at r
      clear ex
      cases hw : within f 4787326403894837248
      · have H1 := Lib.hid hw
        have HZ := Lib.hid (okL_false (by rw [HC.out.len]; exact hlt) (by rw [ef]; exact hw))
        clear hw ef
        go_wp2_with (first | (go_at_call 132; (with_reducible refine (within_c r k40 _).mono ?_); rw [H1.out]; rintro e w' ⟨n1, rfl, rfl⟩))
        go_ret
        exact RetB.mk _ HZ.out.symm
      · have H1 := Lib.hid hw
        clear hw ef
        go_wp2_with (first | (go_at_call 132; (with_reducible refine (within_c r k40 _).mono ?_); rw [H1.out]; rintro e w' ⟨n1, rfl, rfl⟩))
        go_roundw
        case rel =>
          refine ⟨k + 1, _, by omega, rfl, Lib.hid ?_, rfl⟩
          intro j hj
          rcases Nat.lt_or_ge j k with q | q
          · exact hall.out j q
          · obtain rfl : j = k := by omega
            rw [HF.out]; exact H1.out
        case measure => simp [intOf]; omega
    · have HZ : RowKit.Hid (okL fs = true) := Lib.hid (okL_true fun j hj => hall.out j (by rw [HC.out.len] at hj; omega))
      go_wp2
      go_ret
      exact RetB.mk _ HZ.out.symm
end Go.Proofs.Ytcfkhhnkboealaa
