/- Whirls: two at one place; mirrored; the same lists. -/
import Derived.Test.YtcfkhhnkboealaaYi
import Derived.Test.YtcfkhhnkboealaaAwp
namespace Go.Proofs.Ytcfkhhnkboealaa
open Go.RowKit
set_option linter.unusedVariables false
set_option linter.unusedSimpArgs false
set_option maxRecDepth 100000
set_option maxHeartbeats 4000000
theorem energyClose_c {g cap x y t x' y' t' dx dy m : Nat} {w : World} (h : W2 w g cap x y t x' y' t') (rx : Rep x x) (ry : Rep y y) (rt : Rep t t) (rx' : Rep x' x') (ry' : Rep y' y') (rt' : Rep t' t') (ok : whOk x y t = true) (ok' : whOk x' y' t' = true)
    (a1 : fsub x x' = dx) (a2 : isN dx = false) (a3 : fsub y y' = dy) (a4 : isN dy = false) (a5 : isN (fmul dx dx) = false) (a6 : isN (fmul dy dy) = false) (a7 : sqF dx dy = m) (a8 : isN m = false) (a9 : feq m 0 = true) :
    Calls Try.prog 72 #[.slice (some ⟨g, 0, none⟩) 2 cap] w (fun e w' => e = .returned (.tuple #[.float .f64 0, .int .i64 280]) ∧ Grown w w') := by
  have w00 : World := default
  have rdx : Rep dx dx := by have := self_of (rx.sub rx' (w := w00)) (by rw [a1]; exact a2); rwa [a1] at this
  have rdy : Rep dy dy := by have := self_of (ry.sub ry' (w := w00)) (by rw [a3]; exact a4); rwa [a3] at this
  have rm : Rep m m := by
    have := self_of ((rdx.mul rdx (w := w00)).add (rdy.mul rdy (w := w00)) (w := w00)) (by rw [show fadd (fmul dx dx) (fmul dy dy) = m from a7]; exact a8)
    rwa [show fadd (fmul dx dx) (fmul dy dy) = m from a7] at this
  have qz := rm.eq' Rep.c0
  rw [a9] at qz
  have qn : (FloatKind.f64.format.order m 0 != some .eq) = false := by rw [bne, qz]; rfl
  have HC := Lib.hid (check2_c h rx ry rt rx' ry' rt' ok ok')
  have HH := Lib.hid h
  have hcap := h.lc
  have htop := h.top
  have hc1 : (0 : Int) < (cap : Int) := by omega
  have hc2 : (1 : Int) < (cap : Int) := by omega
  have hc3 : (1 : Int) ≤ (cap : Int) := by omega
  have hcc : ((cap : Int) - 1).toNat = cap - 1 := by omega
  clear h
  go_enter Try.func72, Try.ntmps72
  go_wp2_with (first
    | (go_at_call 78; (with_reducible refine HC.out.mono ?_); rintro e w1 ⟨rfl, g1⟩; have G1 := Lib.hid g1; have H1 := Lib.hid (HH.out.up (GrW.of g1)); clear g1)
    | fail)
  have h0 := H1.out.c0
  have h1 := H1.out.c1
  have h2 := H1.out.c2
  have h3 := H1.out.c3
  have hg := H1.out.lt
  have hg1 : g < w1.heap.size + 1 := by omega
  refine wp_loop_rounds 4 ?_
  rw [rounds_succ]
  go_wp2_with (fail)
  refine wp_loop_rounds 4 ?_
  rw [rounds_succ]
  go_wp2_with (first
    | (go_at_call 116; (with_reducible refine (csubS_c rx ry rx' ry' _ (by rw [a1]; exact a2) (by rw [a3]; exact a4)).mono ?_); rw [a1, a3]; rintro e w2 ⟨rfl, hw2⟩; subst hw2)
    | fail)
  go_quiet (first
    | (go_at_call 51; exact Calls.quiet_of_same (squareS_c rdx rdy _ a5 a6 a7 a8)))
  go_wp2_with (fail)
  go_ret2
  refine ⟨rfl, gr_trans G1.out ?_⟩
  repeat (first | with_reducible exact Grown.refl _ | with_reducible apply gr_drewN | with_reducible apply Grown.alloc)
theorem RetB.quiet {P : Program} {f : FuncId} {args : Array Value} {w : World} {n : Nat} {b : Bool} (h : Calls P f args (w.drewN n) (RetB b (w.drewN n))) :
    Calls P f args (w.drewN n) fun e w'' => e = .returned (.bool b) ∧ ∃ k, w'' = w.drewN k :=
  h.mono fun _ _ ⟨k, he, hw⟩ => ⟨he, n + k, by rw [hw, World.drewN_drewN]⟩
theorem csame28_c {x y : Nat} (rx : Rep x x) (ry : Rep y y) (w : World) : Calls Try.prog 113 #[.complex .f64 x y, .complex .f64 x y] w (RetB true w) := by
  have h := refCSame_c rx ry rx ry w
  rwa [beq_self_eq_true, beq_self_eq_true] at h
theorem fsame28_c {x : Nat} (rx : Rep x x) (w : World) : Calls Try.prog 13 #[.float .f64 x, .float .f64 x] w (RetB true w) := by
  have h := refSame_c rx rx w
  rwa [beq_self_eq_true] at h
theorem same28_c {g cap g' cap' x y t : Nat} {w : World} (h : W1 w g cap x y t) (h' : W1 w g' cap' x y t) (rx : Rep x x) (ry : Rep y y) (rt : Rep t t) :
    Calls Try.prog 76 #[.slice (some ⟨g, 0, none⟩) 1 cap, .slice (some ⟨g', 0, none⟩) 1 cap'] w (fun e w' => e = .returned (.bool true) ∧ Grown w w') := by
  have h0 := h.c0
  have h1 := h.c1
  have k0 := h'.c0
  have k1 := h'.c1
  have hcap := h.lc
  have hcap' := h'.lc
  have hc1 : (0 : Int) < (cap : Int) := by omega
  have hc2 : (0 : Int) < (cap' : Int) := by omega
  clear h h'
  go_enter Try.func76, Try.ntmps76
  go_wp2_with (fail)
  refine wp_loop_rounds 4 ?_
  rw [rounds_succ]
  go_wp2_with (fail)
  go_quiet (first
    | (go_at_call 113; exact RetB.quiet (csame28_c rx ry _))
    | (go_at_call 13; exact RetB.quiet (fsame28_c rt _)))
  go_wp2_with (fail)
  rw [rounds_succ]
  go_wp2_with (fail)
  go_ret
  refine ⟨rfl, ?_⟩
  repeat (first | with_reducible exact Grown.refl _ | with_reducible apply gr_drewN)
end Go.Proofs.Ytcfkhhnkboealaa
