/- Whirls: how far they are from their centre. -/
import Derived.Test.YtcfkhhnkboealaaYk
import Derived.Test.YtcfkhhnkboealaaTake
namespace Go.Proofs.Ytcfkhhnkboealaa
open Go.RowKit
set_option linter.unusedVariables false
set_option linter.unusedSimpArgs false
set_option maxRecDepth 100000
set_option maxHeartbeats 4000000
/-- a whirl's part of the spread. -/
def spE (x y t C D dx dy m u : Nat) : Bool := fsub x C == dx && !isN dx && fsub y D == dy && !isN dy && !isN (fmul dx dx) && !isN (fmul dy dy) && sqF dx dy == m && !isN m && fmul t m == u && !isN u
theorem spread2_c {g cap x y t x' y' t' C D dx dy m u dx' dy' m' u' S V : Nat} {b : Bool} {w : World} (h : W2 w g cap x y t x' y' t')
    (hC : Calls Try.prog 70 #[.slice (some ⟨g, 0, none⟩) 2 cap] w (fun e w' => e = .returned (.tuple #[.complex .f64 C D, .bool b, .int .i64 0]) ∧ Grown w w'))
    (rx : Rep x x) (ry : Rep y y) (rt : Rep t t) (rx' : Rep x' x') (ry' : Rep y' y') (rt' : Rep t' t') (rC : Rep C C) (rD : Rep D D) (H : spE x y t C D dx dy m u = true) (H' : spE x' y' t' C D dx' dy' m' u' = true)
    (e1 : fadd u u' = S) (n1 : isN S = false) (e2 : fdiv S 4607182418800017408 = V) (f2 : Proofs.Ytcfkhhnkboealaa.fin V = true) :
    Calls Try.prog 71 #[.slice (some ⟨g, 0, none⟩) 2 cap] w (fun e w' => e = .returned (.tuple #[.float .f64 V, .int .i64 0]) ∧ GrW w w') := by
  simp only [spE, Bool.and_eq_true, beq_iff_eq, Bool.not_eq_true'] at H H'
  obtain ⟨⟨⟨⟨⟨⟨⟨⟨⟨a1, a2⟩, a3⟩, a4⟩, a5⟩, a6⟩, a7⟩, a8⟩, a9⟩, aa⟩ := H
  obtain ⟨⟨⟨⟨⟨⟨⟨⟨⟨b1, b2⟩, b3⟩, b4⟩, b5⟩, b6⟩, b7⟩, b8⟩, b9⟩, ba⟩ := H'
  have w00 : World := default
  have rdx : Rep dx dx := by have := self_of (rx.sub rC (w := w00)) (by rw [a1]; exact a2); rwa [a1] at this
  have rdy : Rep dy dy := by have := self_of (ry.sub rD (w := w00)) (by rw [a3]; exact a4); rwa [a3] at this
  have rdx' : Rep dx' dx' := by have := self_of (rx'.sub rC (w := w00)) (by rw [b1]; exact b2); rwa [b1] at this
  have rdy' : Rep dy' dy' := by have := self_of (ry'.sub rD (w := w00)) (by rw [b3]; exact b4); rwa [b3] at this
  have rm : Rep m m := by
    have := self_of ((rdx.mul rdx (w := w00)).add (rdy.mul rdy (w := w00)) (w := w00)) (by rw [show fadd (fmul dx dx) (fmul dy dy) = m from a7]; exact a8)
    rwa [show fadd (fmul dx dx) (fmul dy dy) = m from a7] at this
  have rm' : Rep m' m' := by
    have := self_of ((rdx'.mul rdx' (w := w00)).add (rdy'.mul rdy' (w := w00)) (w := w00)) (by rw [show fadd (fmul dx' dx') (fmul dy' dy') = m' from b7]; exact b8)
    rwa [show fadd (fmul dx' dx') (fmul dy' dy') = m' from b7] at this
  have ru : Rep u u := by have := self_of (rt.mul rm (w := w00)) (by rw [a9]; exact aa); rwa [a9] at this
  have ru' : Rep u' u' := by have := self_of (rt'.mul rm' (w := w00)) (by rw [b9]; exact ba); rwa [b9] at this
  have q1 : ∀ W, fres .mul t m W = u := fun W => ((rt.mul rm).eq_of (by rw [a9]; exact aa)).trans a9
  have q2 : ∀ W, fres .mul t' m' W = u' := fun W => ((rt'.mul rm').eq_of (by rw [b9]; exact ba)).trans b9
  have d1 : fdr .mul t m = 0 := fdr_mul (by rw [a9]; exact aa)
  have d2 : fdr .mul t' m' = 0 := fdr_mul (by rw [b9]; exact ba)
  obtain ⟨i0, hi, hz0, hz1, hz2⟩ := infoF64'
  have HC := Lib.hid hC
  have HH := Lib.hid h
  have hcap := h.lc
  have htop := h.top
  have hc1 : (0 : Int) < (cap : Int) := by omega
  have hc2 : (1 : Int) < (cap : Int) := by omega
  have k1 := Rep.cone
  clear h hC
  go_enter Try.func71, Try.ntmps71
  go_wp2_with (first
    | (go_at_call 70; (with_reducible refine HC.out.mono ?_); rintro e w1 ⟨rfl, g1⟩; have G1 := Lib.hid (GrW.of g1); have H1 := Lib.hid (HH.out.up (GrW.of g1)); clear g1)
    | fail)
  have h0 := H1.out.c0
  have h1 := H1.out.c1
  have h2 := H1.out.c2
  have h3 := H1.out.c3
  have hg := H1.out.lt
  have hg1 : g < w1.heap.size + 1 := by omega
  refine wp_loop_rounds 4 ?_
  rw [rounds_succ]
  go_wp2_with (fail)
  obtain ⟨B0, eB⟩ : ∃ B0, B0 = w1.alloc (.cells #[.complex .f64 x y, .float .f64 t] 82) := ⟨_, rfl⟩
  have v0 : B0.cell? ⟨w1.heap.size, 0, none⟩ = some (.complex .f64 x y) := by rw [eB]; exact cu_new rfl
  have v1 : B0.cell? ⟨w1.heap.size, 1, none⟩ = some (.float .f64 t) := by rw [eB]; exact cu_new rfl
  have GB0 : RowKit.Hid (GrW w1 B0) := Lib.hid (by rw [eB]; exact (GrW.refl w1).alloc _)
  have HO0 : RowKit.Hid (B0.ownsRow w1.heap.size 25 1 (.slice none 0 0) 0 []) := Lib.hid (by rw [eB]; exact World.ownsRow_nil _ _ _ _)
  have sB0 : w1.heap.size ≤ B0.heap.size := GB0.out.size
  rw [← eB]
  generalize w1.heap.size = bx0 at v0 v1 ⊢
  clear eB

  refine wp_region_T (S := fun w' => w'.cell? ⟨bx0, 0, none⟩ = some (.complex .f64 x y) ∧ w'.cell? ⟨bx0, 1, none⟩ = some (.float .f64 t)) (T := [10, 11]) (by kernel_rfl) ⟨v0, v1⟩ (fun hHeld => ?_)
  refine wpAnyT_take (i := 0) (v := ?_) rfl (by kernel_rfl) (by kernel_rfl) (by kernel_rfl) (by kernel_rfl) (by kernel_rfl) (fun _ _ _ h => h) (Or.inl ⟨by kernel_rfl, ?yk0⟩) hHeld ?rk0
  case yk0 => ((intro w hSw; (try dsimp only at hSw); go_simp); first | done | with_reducible rfl)
  try simp only [Act.put, List.setIfInBounds_toArray, List.set_cons_zero, List.set_cons_succ]
  refine wpAnyT_take (i := 1) (v := ?_) rfl (by kernel_rfl) (by kernel_rfl) (by kernel_rfl) (by kernel_rfl) (by kernel_rfl) (fun _ _ _ h => h) (Or.inl ⟨by kernel_rfl, ?yk1⟩) hHeld ?rk1
  case yk1 => ((intro w hSw; (try dsimp only at hSw); go_simp); first | done | with_reducible rfl)
  try simp only [Act.put, List.setIfInBounds_toArray, List.set_cons_zero, List.set_cons_succ]
  refine wpAnyT_take (i := 2) (v := ?_) rfl (by kernel_rfl) (by kernel_rfl) (by kernel_rfl) (by kernel_rfl) (by kernel_rfl) (fun _ _ _ h => h) (Or.inl ⟨by kernel_rfl, ?yk2⟩) hHeld ?rk2
  case yk2 => ((intro w hSw; (try dsimp only at hSw); go_simp); first | done | with_reducible rfl)
  try simp only [Act.put, List.setIfInBounds_toArray, List.set_cons_zero, List.set_cons_succ]
  refine wpAnyT_take (i := 3) (v := ?_) rfl (by kernel_rfl) (by kernel_rfl) (by kernel_rfl) (by kernel_rfl) (by kernel_rfl) (fun _ _ _ h => h) (Or.inl ⟨by kernel_rfl, ?yk3⟩) hHeld ?rk3
  case yk3 => ((intro w hSw; (try dsimp only at hSw); go_simp); first | done | with_reducible rfl)
  try simp only [Act.put, List.setIfInBounds_toArray, List.set_cons_zero, List.set_cons_succ]
  refine wpAnyT_take (i := 4) (v := ?_) rfl (by kernel_rfl) (by kernel_rfl) (by kernel_rfl) (by kernel_rfl) (by kernel_rfl) (fun _ _ _ h => h) (Or.inl ⟨by kernel_rfl, ?yk4⟩) hHeld ?rk4
  case yk4 => ((intro w hSw; (try dsimp only at hSw); go_simp); first | done | with_reducible rfl)
  try simp only [Act.put, List.setIfInBounds_toArray, List.set_cons_zero, List.set_cons_succ]
  refine wpAnyT_take (i := 5) (v := ?_) rfl (by kernel_rfl) (by kernel_rfl) (by kernel_rfl) (by kernel_rfl) (by kernel_rfl) (fun _ _ _ h => h) (Or.inl ⟨by kernel_rfl, ?yk5⟩) hHeld ?rk5
  case yk5 => ((intro w hSw; (try dsimp only at hSw); go_simp); first | done | with_reducible rfl)
  try simp only [Act.put, List.setIfInBounds_toArray, List.set_cons_zero, List.set_cons_succ]
  refine wpAnyT_one (i := 6) (by kernel_rfl) rfl (fun K hK => ?_)
  go_simp
  (go_at_call 116; (with_reducible refine (csubS_c rx ry rC rD _ (by rw [a1]; exact a2) (by rw [a3]; exact a4)).mono ?_); rw [a1, a3]; rintro e w2 ⟨rfl, hw2⟩; subst hw2)
  refine hK.out _ _ ?sk6 ?nk6
  case sk6 => exact ⟨v0, v1⟩
  clear hK K
  try simp only [Act.put, List.setIfInBounds_toArray, List.set_cons_zero, List.set_cons_succ]
  refine wpAnyT_one (i := 7) (by kernel_rfl) rfl (fun K hK => ?_)
  go_simp
  (go_at_call 51; (with_reducible refine (squareS_c rdx rdy _ a5 a6 a7 a8).mono ?_); rintro e w2 ⟨rfl, hw2⟩; subst hw2)
  refine hK.out _ _ ?sk7 ?nk7
  case sk7 => exact ⟨v0, v1⟩
  clear hK K
  try simp only [Act.put, List.setIfInBounds_toArray, List.set_cons_zero, List.set_cons_succ]
  refine wpAnyT_one (i := 8) (by kernel_rfl) rfl (fun K hK => ?_)
  go_simp
  refine hK.out _ _ ?sk8 ?nk8
  case sk8 => exact ⟨v0, v1⟩
  clear hK K
  try simp only [Act.put, List.setIfInBounds_toArray, List.set_cons_zero, List.set_cons_succ]
  refine wpAnyT_one (i := 9) (by kernel_rfl) rfl (fun K hK => ?_)
  go_simp
  refine hK.out _ _ ?sk9 ?nk9
  case sk9 => exact ⟨cu_alloc v0, cu_alloc v1⟩
  clear hK K
  try simp only [Act.put, List.setIfInBounds_toArray, List.set_cons_zero, List.set_cons_succ]
  refine wpAnyT_last (i := 10) (by kernel_rfl) (by decide) rfl (fun K hK => ?_)
  rw [if_pos (by kernel_rfl)]
  refine wp_append_own _ (.tmp 25) (.tmp 34) 24 rfl w1.heap.size 25 i0 (.float .f64 0) 1 8 Try.underlying24 hi hz0 hz1 hz2 rfl (by decide) (.slice none 0 0) 0 [] rfl ((show (B0.drewN 1).ownsRow w1.heap.size 25 1 (.slice none 0 0) 0 [] from HO0.out).alloc _) _ 1 1 [.float .f64 u] rfl rfl (cell_one_new _ _ _) (by intro z hz; simp at hz; subst hz; rfl) (by unfold maxLen; omega) (by omega) (by rw [size_alloc]; show w1.heap.size ≤ B0.heap.size + 1; omega) ?_
  intro r0 E0 hown hgrow hnil
  have HE0 := Lib.hid hown
  have GE0 : RowKit.Hid (GrW w1 E0) := Lib.hid (((GrW.drewN 1 GB0.out).alloc _).by hgrow (fun j hj => by cases hj))
  clear hown hgrow hnil
  refine hK.out _ _ ?_
  clear hK K
  try simp only [Act.put, List.setIfInBounds_toArray, List.set_cons_zero, List.set_cons_succ]
  refine wpAnyT_last (i := 11) (by kernel_rfl) (by decide) rfl (fun K hK => ?_)
  go_simp
  refine hK.out _ _ ?_
  clear hK K
  try simp only [Act.put, List.setIfInBounds_toArray, List.set_cons_zero, List.set_cons_succ]
  refine wpAnyT_done (by kernel_rfl) ?_ _
  clear v0 v1
  go_wp2_with (fail)
  have k0 := (H1.out.up GE0.out).c0
  have k1' := (H1.out.up GE0.out).c1
  have k2 := (H1.out.up GE0.out).c2
  have k3 := (H1.out.up GE0.out).c3
  have kg := (H1.out.up GE0.out).lt
  rw [rounds_succ]
  go_wp2_with (fail)
  obtain ⟨B1, eB⟩ : ∃ B1, B1 = E0.alloc (.cells #[.complex .f64 x' y', .float .f64 t'] 82) := ⟨_, rfl⟩
  have v0 : B1.cell? ⟨E0.heap.size, 0, none⟩ = some (.complex .f64 x' y') := by rw [eB]; exact cu_new rfl
  have v1 : B1.cell? ⟨E0.heap.size, 1, none⟩ = some (.float .f64 t') := by rw [eB]; exact cu_new rfl
  have GB1 : RowKit.Hid (GrW w1 B1) := Lib.hid (by rw [eB]; exact (GE0.out).alloc _)
  have HO1 : RowKit.Hid (B1.ownsRow w1.heap.size 25 1 r0 (0 + 1) ([] ++ [.float .f64 u])) := Lib.hid (by rw [eB]; exact HE0.out.alloc _)
  have sB1 : w1.heap.size ≤ B1.heap.size := GB1.out.size
  rw [← eB]
  generalize E0.heap.size = bx1 at v0 v1 ⊢
  clear eB

  refine wp_region_T (S := fun w' => w'.cell? ⟨bx1, 0, none⟩ = some (.complex .f64 x' y') ∧ w'.cell? ⟨bx1, 1, none⟩ = some (.float .f64 t')) (T := [10, 11]) (by kernel_rfl) ⟨v0, v1⟩ (fun hHeld => ?_)
  refine wpAnyT_take (i := 0) (v := ?_) rfl (by kernel_rfl) (by kernel_rfl) (by kernel_rfl) (by kernel_rfl) (by kernel_rfl) (fun _ _ _ h => h) (Or.inl ⟨by kernel_rfl, ?yl0⟩) hHeld ?rl0
  case yl0 => ((intro w hSw; (try dsimp only at hSw); go_simp); first | done | with_reducible rfl)
  try simp only [Act.put, List.setIfInBounds_toArray, List.set_cons_zero, List.set_cons_succ]
  refine wpAnyT_take (i := 1) (v := ?_) rfl (by kernel_rfl) (by kernel_rfl) (by kernel_rfl) (by kernel_rfl) (by kernel_rfl) (fun _ _ _ h => h) (Or.inl ⟨by kernel_rfl, ?yl1⟩) hHeld ?rl1
  case yl1 => ((intro w hSw; (try dsimp only at hSw); go_simp); first | done | with_reducible rfl)
  try simp only [Act.put, List.setIfInBounds_toArray, List.set_cons_zero, List.set_cons_succ]
  refine wpAnyT_take (i := 2) (v := ?_) rfl (by kernel_rfl) (by kernel_rfl) (by kernel_rfl) (by kernel_rfl) (by kernel_rfl) (fun _ _ _ h => h) (Or.inl ⟨by kernel_rfl, ?yl2⟩) hHeld ?rl2
  case yl2 => ((intro w hSw; (try dsimp only at hSw); go_simp); first | done | with_reducible rfl)
  try simp only [Act.put, List.setIfInBounds_toArray, List.set_cons_zero, List.set_cons_succ]
  refine wpAnyT_take (i := 3) (v := ?_) rfl (by kernel_rfl) (by kernel_rfl) (by kernel_rfl) (by kernel_rfl) (by kernel_rfl) (fun _ _ _ h => h) (Or.inl ⟨by kernel_rfl, ?yl3⟩) hHeld ?rl3
  case yl3 => ((intro w hSw; (try dsimp only at hSw); go_simp); first | done | with_reducible rfl)
  try simp only [Act.put, List.setIfInBounds_toArray, List.set_cons_zero, List.set_cons_succ]
  refine wpAnyT_take (i := 4) (v := ?_) rfl (by kernel_rfl) (by kernel_rfl) (by kernel_rfl) (by kernel_rfl) (by kernel_rfl) (fun _ _ _ h => h) (Or.inl ⟨by kernel_rfl, ?yl4⟩) hHeld ?rl4
  case yl4 => ((intro w hSw; (try dsimp only at hSw); go_simp); first | done | with_reducible rfl)
  try simp only [Act.put, List.setIfInBounds_toArray, List.set_cons_zero, List.set_cons_succ]
  refine wpAnyT_take (i := 5) (v := ?_) rfl (by kernel_rfl) (by kernel_rfl) (by kernel_rfl) (by kernel_rfl) (by kernel_rfl) (fun _ _ _ h => h) (Or.inl ⟨by kernel_rfl, ?yl5⟩) hHeld ?rl5
  case yl5 => ((intro w hSw; (try dsimp only at hSw); go_simp); first | done | with_reducible rfl)
  try simp only [Act.put, List.setIfInBounds_toArray, List.set_cons_zero, List.set_cons_succ]
  refine wpAnyT_one (i := 6) (by kernel_rfl) rfl (fun K hK => ?_)
  go_simp
  (go_at_call 116; (with_reducible refine (csubS_c rx' ry' rC rD _ (by rw [b1]; exact b2) (by rw [b3]; exact b4)).mono ?_); rw [b1, b3]; rintro e w2 ⟨rfl, hw2⟩; subst hw2)
  refine hK.out _ _ ?sl6 ?nl6
  case sl6 => exact ⟨v0, v1⟩
  clear hK K
  try simp only [Act.put, List.setIfInBounds_toArray, List.set_cons_zero, List.set_cons_succ]
  refine wpAnyT_one (i := 7) (by kernel_rfl) rfl (fun K hK => ?_)
  go_simp
  (go_at_call 51; (with_reducible refine (squareS_c rdx' rdy' _ b5 b6 b7 b8).mono ?_); rintro e w2 ⟨rfl, hw2⟩; subst hw2)
  refine hK.out _ _ ?sl7 ?nl7
  case sl7 => exact ⟨v0, v1⟩
  clear hK K
  try simp only [Act.put, List.setIfInBounds_toArray, List.set_cons_zero, List.set_cons_succ]
  refine wpAnyT_one (i := 8) (by kernel_rfl) rfl (fun K hK => ?_)
  go_simp
  refine hK.out _ _ ?sl8 ?nl8
  case sl8 => exact ⟨v0, v1⟩
  clear hK K
  try simp only [Act.put, List.setIfInBounds_toArray, List.set_cons_zero, List.set_cons_succ]
  refine wpAnyT_one (i := 9) (by kernel_rfl) rfl (fun K hK => ?_)
  go_simp
  refine hK.out _ _ ?sl9 ?nl9
  case sl9 => exact ⟨cu_alloc v0, cu_alloc v1⟩
  clear hK K
  try simp only [Act.put, List.setIfInBounds_toArray, List.set_cons_zero, List.set_cons_succ]
  refine wpAnyT_last (i := 10) (by kernel_rfl) (by decide) rfl (fun K hK => ?_)
  rw [if_pos (by kernel_rfl)]
  refine wp_append_own _ (.tmp 25) (.tmp 34) 24 rfl w1.heap.size 25 i0 (.float .f64 0) 1 8 Try.underlying24 hi hz0 hz1 hz2 rfl (by decide) r0 (0 + 1) ([] ++ [.float .f64 u]) rfl ((show (B1.drewN 1).ownsRow w1.heap.size 25 1 r0 (0 + 1) ([] ++ [.float .f64 u]) from HO1.out).alloc _) _ 1 1 [.float .f64 u'] rfl rfl (cell_one_new _ _ _) (by intro z hz; simp at hz; subst hz; rfl) (by unfold maxLen; omega) (by omega) (by rw [size_alloc]; show w1.heap.size ≤ B1.heap.size + 1; omega) ?_
  intro r1 E1 hown hgrow hnil
  have HE1 := Lib.hid hown
  have GE1 : RowKit.Hid (GrW w1 E1) := Lib.hid (((GrW.drewN 1 GB1.out).alloc _).by hgrow (fun j hj => (HO1.out.lt j hj).1))
  clear hown hgrow hnil
  refine hK.out _ _ ?_
  clear hK K
  try simp only [Act.put, List.setIfInBounds_toArray, List.set_cons_zero, List.set_cons_succ]
  refine wpAnyT_last (i := 11) (by kernel_rfl) (by decide) rfl (fun K hK => ?_)
  go_simp
  refine hK.out _ _ ?_
  clear hK K
  try simp only [Act.put, List.setIfInBounds_toArray, List.set_cons_zero, List.set_cons_succ]
  refine wpAnyT_done (by kernel_rfl) ?_ _
  clear v0 v1
  go_wp2_with (fail)
  rcases own_rowN HE1.out with ⟨_, hz⟩ | ⟨g2, c2, rfl, hb1, hb2, hb3, hb4, hcl, hfz⟩
  · omega
  have z0 := hcl 0 _ rfl
  have z1 := hcl 1 _ rfl
  have M4 : maxLen = 9223372036854775807 := rfl
  rw [M4] at hb4
  rw [rounds_succ]
  go_wp2_with (first
    | (go_at_call 128; go_loud ((with_reducible refine (wsum2_c hb3 hb4 z0 z1 ru ru' k1 e1 n1 e2 f2).mono ?_); rintro e w9 ⟨rfl, g9⟩; have G9 := Lib.hid (GrW.of g9); clear g9))
    | fail)
  go_ret2
  exact ⟨rfl, (G1.out.trans GE1.out).trans G9.out⟩
end Go.Proofs.Ytcfkhhnkboealaa
