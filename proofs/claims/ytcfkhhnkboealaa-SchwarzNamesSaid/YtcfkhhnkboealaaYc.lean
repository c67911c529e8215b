/- Sums and products of numbers that are finite: no draw; whirls moved along ways. -/
import Derived.Test.YtcfkhhnkboealaaYb
import Derived.StillTailTactics
namespace Go.Proofs.Ytcfkhhnkboealaa
open Go.RowKit
set_option linter.unusedVariables false
set_option linter.unusedSimpArgs false
set_option maxRecDepth 100000
set_option maxHeartbeats 4000000
/-- a float as it stands: its bits, no other ones. -/
theorem self_of {r f : Nat} (h : Rep r f) (k : isN f = false) : Rep f f := by rw [h.eq_of k] at h; exact h
section
variable {x y z t : Nat} (rx : Rep x x) (ry : Rep y y) (rz : Rep z z) (rt : Rep t t) (w : World)
include rx ry rz
theorem cscaleS_c (h1 : isN (fmul x z) = false) (h2 : isN (fmul y z) = false) : Calls Try.prog 48 #[.complex .f64 x y, .float .f64 z] w (fun e w' => e = .returned (.complex .f64 (fmul x z) (fmul y z)) ∧ w' = w) := by
  have e1 : ∀ W, fres .mul x z W = fmul x z := fun W => (rx.mul rz).eq_of h1
  have e2 : ∀ W, fres .mul y z W = fmul y z := fun W => (ry.mul rz).eq_of h2
  have d1 := fdr_mul h1
  have d2 := fdr_mul h2
  go_enter Try.func48, Try.ntmps48
  go_wp2
  go_ret
  exact ⟨rfl, rfl⟩
include rt
theorem caddS_c (h1 : isN (fadd x z) = false) (h2 : isN (fadd y t) = false) : Calls Try.prog 124 #[.complex .f64 x y, .complex .f64 z t] w (fun e w' => e = .returned (.complex .f64 (fadd x z) (fadd y t)) ∧ w' = w) := by
  have e1 : ∀ W, fres .add x z W = fadd x z := fun W => (rx.add rz).eq_of h1
  have e2 : ∀ W, fres .add y t W = fadd y t := fun W => (ry.add rt).eq_of h2
  have d1 := fdr_add h1
  have d2 := fdr_add h2
  go_enter Try.func124, Try.ntmps124
  go_wp2
  go_ret
  exact ⟨rfl, rfl⟩
theorem csubS_c (h1 : isN (fsub x z) = false) (h2 : isN (fsub y t) = false) : Calls Try.prog 116 #[.complex .f64 x y, .complex .f64 z t] w (fun e w' => e = .returned (.complex .f64 (fsub x z) (fsub y t)) ∧ w' = w) := by
  have e1 : ∀ W, fres .sub x z W = fsub x z := fun W => (rx.sub rz).eq_of h1
  have e2 : ∀ W, fres .sub y t W = fsub y t := fun W => (ry.sub rt).eq_of h2
  have d1 := fdr_sub h1
  have d2 := fdr_sub h2
  go_enter Try.func116, Try.ntmps116
  go_wp2
  go_ret
  exact ⟨rfl, rfl⟩
end
theorem cu_drew {w : World} {a : Addr} {v : Value} (h : w.cell? a = some v) : w.drew.cell? a = some v := h
theorem hc_drew {w : World} {a : Addr} (h : HasCell w a) : HasCell w.drew a := h
theorem own_rowN {w : World} {base n sz : Nat} {e : TypeId} {v : Value} {xs : List Value} (h : w.ownsRow base e sz v n xs) : (v = .slice none 0 0 ∧ n = 0) ∨ ∃ g cap, v = .slice (some ⟨g, 0, none⟩) n cap ∧ base ≤ g ∧ g < w.heap.size ∧ n ≤ cap ∧ cap ≤ maxLen ∧ (∀ j u, xs[j]? = some u → w.cell? ⟨g, j, none⟩ = some u) ∧ ∀ j, w.frozen? ⟨g, j, none⟩ = false := by
  rcases h.2 with h0 | ⟨g, cap, cur, rfl, hb, hg, hn, hm, _⟩
  · exact .inl h0
  · refine .inr ⟨g, cap, rfl, hb, (Array.getElem?_eq_some_iff.1 hg).1, hn, hm, fun j u hj => ?_, fun j => by simp [World.frozen?, hg]⟩
    have := h.cells (g := g) rfl j u hj
    cases j <;> simpa [Addr.add] using this
theorem GrW.setCell {w w' : World} (h : GrW w w') {b i : Nat} (hb : w.heap.size ≤ b) (v : Value) : GrW w (w'.setCell ⟨b, i, none⟩ v) :=
  ⟨h.os, h.output, by simpa [World.setCell] using h.size, fun k hk => by
    rw [← h.block k hk]
    simp only [World.setCell, Array.getElem?_modify]
    rw [if_neg (by omega)]⟩
theorem GrW.drew {w w' : World} (h : GrW w w') : GrW w w'.drew := ⟨h.os, h.output, h.size, h.block⟩
theorem infoWh : (Try.prog.info? 82).map (fun i => (i.zero, i.size, i.bytes)) = some (some (.agg #[.complex .f64 0 0, .float .f64 0]), 2, 24) := by kernel_rfl
theorem infoWh' : ∃ i, Try.prog.info? 82 = some i ∧ i.zero = some (.agg #[.complex .f64 0 0, .float .f64 0]) ∧ i.size = 2 ∧ i.bytes = 24 := by
  have e := infoWh
  cases hi : Try.prog.info? 82 with
  | none => rw [hi] at e; cases e
  | some i =>
    rw [hi] at e
    simp only [Option.map_some, Option.some.injEq, Prod.mk.injEq] at e
    exact ⟨i, rfl, e.1, e.2.1, e.2.2⟩
theorem moved1_c (g cap x y t h p q by_ : Nat) (w : World) (hcap : 1 ≤ cap) (hcap2 : cap ≤ 9223372036854775807) (hg : g < w.heap.size) (hh : h < w.heap.size)
    (h0 : w.cell? ⟨g, 0, none⟩ = some (.complex .f64 x y)) (h1 : w.cell? ⟨g, 1, none⟩ = some (.float .f64 t)) (k0 : w.cell? ⟨h, 0, none⟩ = some (.complex .f64 p q))
    (rx : Rep x x) (ry : Rep y y) (rt : Rep t t) (rp : Rep p p) (rq : Rep q q) (rb : Rep by_ by_) (n1 : isN (fmul p by_) = false) (n2 : isN (fmul q by_) = false) (n3 : isN (fadd x (fmul p by_)) = false) (n4 : isN (fadd y (fmul q by_)) = false) :
    Calls Try.prog 123 #[.slice (some ⟨g, 0, none⟩) 1 cap, .slice (some ⟨h, 0, none⟩) 1 1, .float .f64 by_] w (fun e w' => ∃ g' c', e = .returned (.slice (some ⟨g', 0, none⟩) 1 c') ∧ w'.cell? ⟨g', 0, none⟩ = some (.complex .f64 (fadd x (fmul p by_)) (fadd y (fmul q by_))) ∧ w'.cell? ⟨g', 1, none⟩ = some (.float .f64 t) ∧ 1 ≤ c' ∧ c' ≤ 9223372036854775807 ∧ w.heap.size ≤ g' ∧ g' < w'.heap.size ∧ GrW w w') := by
  obtain ⟨i0, hi, hz0, hz1, hz2⟩ := infoWh'
  go_enter Try.func123, Try.ntmps123
  go_upto_region 2 with (first
    | (at_builtin; refine wpList_append_own _ rfl (.const (.slice none 0 0)) (.tmp 9) 88 rfl w.heap.size 82 i0 (.agg #[.complex .f64 0 0, .float .f64 0]) 2 24 Try.underlying88 hi hz0 hz1 hz2 rfl (by decide) _ 0 [] rfl (World.ownsRow_nil _ _ _ _) ⟨g, 0, none⟩ 1 cap [.complex .f64 x y, .float .f64 t] rfl rfl (by intro j u hj; match j, hj with | 0, hj => (simp at hj; subst hj; exact h0) | 1, hj => (simp at hj; subst hj; simpa [Addr.add] using h1)) (by intro u hu; simp at hu; rcases hu with rfl | rfl <;> rfl) (by unfold maxLen; omega) (by omega) (Nat.le_refl _) ?_; intro v1 W1 hown1 hgrow1 hnil1)
    | fail)
  rcases own_rowN hown1 with ⟨_, hz⟩ | ⟨g1, c1, rfl, hb1, hb2, hb3, hb4, hcl, hfz⟩
  · omega
  have u0 := hcl 0 _ rfl
  have u1 := hcl 1 _ rfl
  have f0 := hfz 0
  have f2 := hfz 2
  have HGR : GrW w W1 := (GrW.refl w).by hgrow1 (by intro k hk; cases hk)
  have kk := (HGR.cell (a := ⟨h, 0, none⟩) hh).trans k0
  have hz1' : (0 : Int) < ((0 + 1 : Nat) : Int) := by decide
  have hcc : (1 : Int) ≤ (c1 : Int) := by omega
  have M4 : maxLen = 9223372036854775807 := rfl
  rw [M4] at hb4
  clear hown1 hgrow1 hnil1 hcl
  go_wp2_with (fail)
  refine wp_loop_rounds 3 ?_
  rw [rounds_succ]
  go_wp2_with (fail)
  refine wp_region_still_tail 16 (by kernel_rfl) (by kernel_rfl) ?_
  simp only [List.take_succ_cons, List.take_zero, List.drop_succ_cons, List.drop_zero]
  iterate 12 still_step
  still_call (cscaleS_c rp rq rb _ n1 n2)
  still_call (caddS_c rx ry (self_of (rp.mul rb (w := W1)) n1) (self_of (rq.mul rb (w := W1)) n2) _ n3 n4)
  repeat still_step
  try refine wpStill_nil ?_
  change wpList _ _ _ _ _ W1.drew
  go_wp2_with (fail)
  rw [rounds_succ]
  go_wp2_with (fail)
  go_ret
  refine ⟨g1, c1, by simp, ?_, ?_, by omega, by omega, hb1, ?_, ?_⟩
  · repeat (first | with_reducible assumption | with_reducible exact cu_new rfl | with_reducible refine cu_drewN ?_ | with_reducible refine cu_drew ?_ | with_reducible refine cu_set (by decide) ?_ | with_reducible refine cu_same ?_ | with_reducible refine cu_alloc ?_ | with_reducible exact hc_of u0 | with_reducible exact hc_of u2 | with_reducible exact hc_new (by decide) | with_reducible refine hc_drewN ?_ | with_reducible refine hc_drew ?_ | with_reducible refine hc_alloc ?_ | with_reducible refine hc_set ?_)
  · repeat (first | with_reducible assumption | with_reducible exact cu_new rfl | with_reducible refine cu_drewN ?_ | with_reducible refine cu_drew ?_ | with_reducible refine cu_set (by decide) ?_ | with_reducible refine cu_same ?_ | with_reducible refine cu_alloc ?_ | with_reducible exact hc_of u0 | with_reducible exact hc_of u2 | with_reducible exact hc_new (by decide) | with_reducible refine hc_drewN ?_ | with_reducible refine hc_drew ?_ | with_reducible refine hc_alloc ?_ | with_reducible refine hc_set ?_)
  · simpa using hb2
  · exact (HGR.drew).setCell hb1 _
theorem moved2_c (g cap x y t x' y' t' h p q p' q' by_ : Nat) (w : World) (hcap : 2 ≤ cap) (hcap2 : cap ≤ 9223372036854775807) (hg : g < w.heap.size) (hh : h < w.heap.size)
    (h0 : w.cell? ⟨g, 0, none⟩ = some (.complex .f64 x y)) (h1 : w.cell? ⟨g, 1, none⟩ = some (.float .f64 t)) (h2 : w.cell? ⟨g, 2, none⟩ = some (.complex .f64 x' y')) (h3 : w.cell? ⟨g, 3, none⟩ = some (.float .f64 t'))
    (k0 : w.cell? ⟨h, 0, none⟩ = some (.complex .f64 p q)) (k1 : w.cell? ⟨h, 1, none⟩ = some (.complex .f64 p' q'))
    (rx : Rep x x) (ry : Rep y y) (rp : Rep p p) (rq : Rep q q) (rx' : Rep x' x') (ry' : Rep y' y') (rp' : Rep p' p') (rq' : Rep q' q') (rb : Rep by_ by_)
    (n1 : isN (fmul p by_) = false) (n2 : isN (fmul q by_) = false) (n3 : isN (fadd x (fmul p by_)) = false) (n4 : isN (fadd y (fmul q by_)) = false)
    (n1' : isN (fmul p' by_) = false) (n2' : isN (fmul q' by_) = false) (n3' : isN (fadd x' (fmul p' by_)) = false) (n4' : isN (fadd y' (fmul q' by_)) = false) :
    Calls Try.prog 123 #[.slice (some ⟨g, 0, none⟩) 2 cap, .slice (some ⟨h, 0, none⟩) 2 2, .float .f64 by_] w (fun e w' => ∃ g' c', e = .returned (.slice (some ⟨g', 0, none⟩) 2 c') ∧ w'.cell? ⟨g', 0, none⟩ = some (.complex .f64 (fadd x (fmul p by_)) (fadd y (fmul q by_))) ∧ w'.cell? ⟨g', 1, none⟩ = some (.float .f64 t) ∧
      w'.cell? ⟨g', 2, none⟩ = some (.complex .f64 (fadd x' (fmul p' by_)) (fadd y' (fmul q' by_))) ∧ w'.cell? ⟨g', 3, none⟩ = some (.float .f64 t') ∧ 2 ≤ c' ∧ c' ≤ 9223372036854775807 ∧ w.heap.size ≤ g' ∧ g' < w'.heap.size ∧ GrW w w') := by
  obtain ⟨i0, hi, hz0, hz1, hz2⟩ := infoWh'
  go_enter Try.func123, Try.ntmps123
  go_upto_region 2 with (first
    | (at_builtin; refine wpList_append_own _ rfl (.const (.slice none 0 0)) (.tmp 9) 88 rfl w.heap.size 82 i0 (.agg #[.complex .f64 0 0, .float .f64 0]) 2 24 Try.underlying88 hi hz0 hz1 hz2 rfl (by decide) _ 0 [] rfl (World.ownsRow_nil _ _ _ _) ⟨g, 0, none⟩ 2 cap [.complex .f64 x y, .float .f64 t, .complex .f64 x' y', .float .f64 t'] rfl rfl (by intro j u hj; match j, hj with | 0, hj => (simp at hj; subst hj; exact h0) | 1, hj => (simp at hj; subst hj; simpa [Addr.add] using h1) | 2, hj => (simp at hj; subst hj; simpa [Addr.add] using h2) | 3, hj => (simp at hj; subst hj; simpa [Addr.add] using h3)) (by intro u hu; simp at hu; rcases hu with rfl | rfl | rfl | rfl <;> rfl) (by unfold maxLen; omega) (by omega) (Nat.le_refl _) ?_; intro v1 W1 hown1 hgrow1 hnil1)
    | fail)
  rcases own_rowN hown1 with ⟨_, hz⟩ | ⟨g1, c1, rfl, hb1, hb2, hb3, hb4, hcl, hfz⟩
  · omega
  have u0 := hcl 0 _ rfl
  have u1 := hcl 1 _ rfl
  have u2 := hcl 2 _ rfl
  have u3 := hcl 3 _ rfl
  have f0 := hfz 0
  have f2 := hfz 2
  have HGR : GrW w W1 := (GrW.refl w).by hgrow1 (by intro k hk; cases hk)
  have kk := (HGR.cell (a := ⟨h, 0, none⟩) hh).trans k0
  have kk1 := (HGR.cell (a := ⟨h, 1, none⟩) hh).trans k1
  have hne : ¬ g1 = h := by omega
  have hne' : ¬ h = g1 := by omega
  have hz1' : (0 : Int) < ((0 + 2 : Nat) : Int) := by decide
  have hz2' : (1 : Int) < ((0 + 2 : Nat) : Int) := by decide
  have hcc : (1 : Int) ≤ (c1 : Int) := by omega
  have hcc2 : (1 : Int) < (c1 : Int) := by omega
  have M4 : maxLen = 9223372036854775807 := rfl
  rw [M4] at hb4
  clear hown1 hgrow1 hnil1 hcl
  go_wp2_with (fail)
  refine wp_loop_rounds 4 ?_
  rw [rounds_succ]
  go_wp2_with (fail)
  refine wp_region_still_tail 16 (by kernel_rfl) (by kernel_rfl) ?_
  simp only [List.take_succ_cons, List.take_zero, List.drop_succ_cons, List.drop_zero]
  iterate 12 still_step
  still_call (cscaleS_c rp rq rb _ n1 n2)
  still_call (caddS_c rx ry (self_of (rp.mul rb (w := W1)) n1) (self_of (rq.mul rb (w := W1)) n2) _ n3 n4)
  repeat still_step
  try refine wpStill_nil ?_
  change wpList _ _ _ _ _ W1.drew
  go_wp2_with (fail)
  obtain ⟨W2, eW⟩ : ∃ W2, W2 = (W1.setCell ⟨g1, 0, none⟩ (.complex .f64 (fadd x (fmul p by_)) (fadd y (fmul q by_)))).drew := ⟨_, rfl⟩
  have v0 : W2.cell? ⟨g1, 0, none⟩ = some (.complex .f64 (fadd x (fmul p by_)) (fadd y (fmul q by_))) := by rw [eW]; repeat (first | with_reducible assumption | with_reducible refine cu_drew ?_ | with_reducible refine cu_set (by decide) ?_ | with_reducible refine cu_setb hne ?_ | with_reducible refine cu_same ?_ | with_reducible exact hc_of u0)
  have v1 : W2.cell? ⟨g1, 1, none⟩ = some (.float .f64 t) := by rw [eW]; repeat (first | with_reducible assumption | with_reducible refine cu_drew ?_ | with_reducible refine cu_set (by decide) ?_ | with_reducible refine cu_setb hne ?_ | with_reducible refine cu_same ?_ | with_reducible exact hc_of u0)
  have v2 : W2.cell? ⟨g1, 2, none⟩ = some (.complex .f64 x' y') := by rw [eW]; repeat (first | with_reducible assumption | with_reducible refine cu_drew ?_ | with_reducible refine cu_set (by decide) ?_ | with_reducible refine cu_setb hne ?_ | with_reducible refine cu_same ?_ | with_reducible exact hc_of u0)
  have v3 : W2.cell? ⟨g1, 3, none⟩ = some (.float .f64 t') := by rw [eW]; repeat (first | with_reducible assumption | with_reducible refine cu_drew ?_ | with_reducible refine cu_set (by decide) ?_ | with_reducible refine cu_setb hne ?_ | with_reducible refine cu_same ?_ | with_reducible exact hc_of u0)
  have vk : W2.cell? ⟨h, 1, none⟩ = some (.complex .f64 p' q') := by rw [eW]; repeat (first | with_reducible assumption | with_reducible refine cu_drew ?_ | with_reducible refine cu_set (by decide) ?_ | with_reducible refine cu_setb hne ?_ | with_reducible refine cu_same ?_ | with_reducible exact hc_of u0)
  have vf : W2.frozen? ⟨g1, 2, none⟩ = false := by rw [eW]; exact (World.frozen?_setCell _ _ _ _).trans f2
  have HG2 : GrW w W2 := by rw [eW]; exact (HGR.setCell hb1 _).drew
  have hb2' : g1 < W2.heap.size := by rw [eW]; simpa using hb2
  rw [← eW]
  clear eW u0 u1 u2 u3 f0 f2 kk kk1 HGR hfz
  rw [rounds_succ]
  go_wp2_with (fail)
  refine wp_region_still_tail 16 (by kernel_rfl) (by kernel_rfl) ?_
  simp only [List.take_succ_cons, List.take_zero, List.drop_succ_cons, List.drop_zero]
  iterate 12 still_step
  still_call (cscaleS_c rp' rq' rb _ n1' n2')
  still_call (caddS_c rx' ry' (self_of (rp'.mul rb (w := W1)) n1') (self_of (rq'.mul rb (w := W1)) n2') _ n3' n4')
  repeat still_step
  try refine wpStill_nil ?_
  change wpList _ _ _ _ _ W2.drew
  go_wp2_with (fail)
  rw [rounds_succ]
  go_wp2_with (fail)
  go_ret
  refine ⟨g1, c1, by simp, ?_, ?_, ?_, ?_, by omega, by omega, hb1, ?_, ?_⟩
  · repeat (first | with_reducible assumption | with_reducible exact cu_new rfl | with_reducible refine cu_drewN ?_ | with_reducible refine cu_drew ?_ | with_reducible refine cu_set (by decide) ?_ | with_reducible refine cu_same ?_ | with_reducible refine cu_alloc ?_ | with_reducible exact hc_of v2 | with_reducible exact hc_of u2 | with_reducible exact hc_new (by decide) | with_reducible refine hc_drewN ?_ | with_reducible refine hc_drew ?_ | with_reducible refine hc_alloc ?_ | with_reducible refine hc_set ?_)
  · repeat (first | with_reducible assumption | with_reducible exact cu_new rfl | with_reducible refine cu_drewN ?_ | with_reducible refine cu_drew ?_ | with_reducible refine cu_set (by decide) ?_ | with_reducible refine cu_same ?_ | with_reducible refine cu_alloc ?_ | with_reducible exact hc_of v2 | with_reducible exact hc_of u2 | with_reducible exact hc_new (by decide) | with_reducible refine hc_drewN ?_ | with_reducible refine hc_drew ?_ | with_reducible refine hc_alloc ?_ | with_reducible refine hc_set ?_)
  · repeat (first | with_reducible assumption | with_reducible exact cu_new rfl | with_reducible refine cu_drewN ?_ | with_reducible refine cu_drew ?_ | with_reducible refine cu_set (by decide) ?_ | with_reducible refine cu_same ?_ | with_reducible refine cu_alloc ?_ | with_reducible exact hc_of v2 | with_reducible exact hc_of u2 | with_reducible exact hc_new (by decide) | with_reducible refine hc_drewN ?_ | with_reducible refine hc_drew ?_ | with_reducible refine hc_alloc ?_ | with_reducible refine hc_set ?_)
  · repeat (first | with_reducible assumption | with_reducible exact cu_new rfl | with_reducible refine cu_drewN ?_ | with_reducible refine cu_drew ?_ | with_reducible refine cu_set (by decide) ?_ | with_reducible refine cu_same ?_ | with_reducible refine cu_alloc ?_ | with_reducible exact hc_of v2 | with_reducible exact hc_of u2 | with_reducible exact hc_new (by decide) | with_reducible refine hc_drewN ?_ | with_reducible refine hc_drew ?_ | with_reducible refine hc_alloc ?_ | with_reducible refine hc_set ?_)
  · simpa using hb2'
  · first | exact (HG2.drew).setCell hb1 _ | exact (HG2.setCell hb1 _).drew
end Go.Proofs.Ytcfkhhnkboealaa
