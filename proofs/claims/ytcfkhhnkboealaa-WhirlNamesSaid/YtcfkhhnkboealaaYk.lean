/- Whirls: mirrored; as a flow. -/
import Derived.Test.YtcfkhhnkboealaaYj
import Derived.Test.YtcfkhhnkboealaaTake
namespace Go.Proofs.Ytcfkhhnkboealaa
open Go.RowKit
set_option linter.unusedVariables false
set_option linter.unusedSimpArgs false
set_option maxRecDepth 100000
set_option maxHeartbeats 4000000
theorem conjS_c {x y : Nat} (w : World) : Calls Try.prog 131 #[.complex .f64 x y] w (fun e w' => e = .returned (.complex .f64 x (y ^^^ 9223372036854775808)) ∧ w' = w) := by
  go_enter Try.func131, Try.ntmps131
  go_wp2
  go_ret
  exact ⟨rfl, rfl⟩
theorem conj1_c {g cap x y t : Nat} {w : World} (h : W1 w g cap x y t) (rx : Rep x x) (ry : Rep y y) (rt : Rep t t) (ok : whOk x y t = true) :
    Calls Try.prog 74 #[.slice (some ⟨g, 0, none⟩) 1 cap] w (fun e w' => ∃ g' c' y2 t2, e = .returned (.tuple #[.slice (some ⟨g', 0, none⟩) 1 c', .int .i64 0]) ∧ W1 w' g' c' x y2 t2 ∧ Rep t2 (fneg t) ∧ w.heap.size ≤ g' ∧ GrW w w') := by
  have HC := Lib.hid (check1_c h rx ry rt ok)
  obtain ⟨i0, hi, hz0, hz1, hz2⟩ := infoWh'
  have HH := Lib.hid h
  have hcap := h.lc
  have htop := h.top
  clear h
  go_enter Try.func74, Try.ntmps74
  go_upto_region 5 with (first
    | (go_at_call 78; (with_reducible refine HC.out.mono ?_); rintro e w0 ⟨rfl, g1⟩; have G1 := Lib.hid (GrW.of g1); have h0 := (HH.out.up (GrW.of g1)).c0; have h1 := (HH.out.up (GrW.of g1)).c1; clear g1)
    | (at_builtin; refine wpList_append_own _ rfl (.const (.slice none 0 0)) (.tmp 12) 88 rfl w0.heap.size 82 i0 (.agg #[.complex .f64 0 0, .float .f64 0]) 2 24 Try.underlying88 hi hz0 hz1 hz2 rfl (by decide) _ 0 [] rfl (World.ownsRow_nil _ _ _ _) ⟨g, 0, none⟩ 1 cap [.complex .f64 x y, .float .f64 t] rfl rfl (by intro j u hj; match j, hj with | 0, hj => (simp at hj; subst hj; exact h0) | 1, hj => (simp at hj; subst hj; simpa [Addr.add] using h1)) (by intro u hu; simp at hu; rcases hu with rfl | rfl <;> rfl) (by unfold maxLen; omega) (by omega) (Nat.le_refl _) ?_; intro v1 W1' hown1 hgrow1 hnil1)
    | fail)
  rcases own_rowN hown1 with ⟨_, hz⟩ | ⟨g1, c1, rfl, hb1, hb2, hb3, hb4, hcl, hfz⟩
  · omega
  have u0 := hcl 0 _ rfl
  have u1 := hcl 1 _ rfl
  have f0 := hfz 0
  have f1 := hfz 1
  have HGR : GrW w0 W1' := gr_own hgrow1 rfl
  have M4 : maxLen = 9223372036854775807 := rfl
  rw [M4] at hb4
  have hcc : (1 : Int) ≤ (c1 : Int) := by omega
  clear hown1 hgrow1 hnil1 hcl hfz
  go_wp2_with (fail)
  refine wp_loop_rounds 2 ?_
  rw [rounds_succ]
  go_wp2_with (fail)
  go_region_with (first
    | (go_at_call 131; (with_reducible refine (conjS_c _).mono ?_); rintro e w2 ⟨rfl, hw2⟩; subst hw2)
    | fail)
  all_goals go_wp2_with (fail)
  all_goals rw [rounds_succ]
  all_goals go_wp2_with (fail)
  all_goals go_ret2
  all_goals
    refine ⟨g1, c1, y ^^^ 9223372036854775808, t ^^^ 9223372036854775808, by simp, ⟨?_, by omega, hb4, ?_, ?_⟩, rt.neg, Nat.le_trans G1.out.size hb1, G1.out.trans ?_⟩
    · simpa using hb2
    · repeat (first | with_reducible assumption | with_reducible refine cu_drewN ?_ | with_reducible refine cu_drew ?_ | with_reducible refine cu_set (by decide) ?_ | with_reducible refine cu_same ?_ | with_reducible exact hc_of u0 | with_reducible exact hc_of u1 | with_reducible refine hc_drewN ?_ | with_reducible refine hc_drew ?_ | with_reducible refine hc_set ?_)
    · repeat (first | with_reducible assumption | with_reducible refine cu_drewN ?_ | with_reducible refine cu_drew ?_ | with_reducible refine cu_set (by decide) ?_ | with_reducible refine cu_same ?_ | with_reducible exact hc_of u0 | with_reducible exact hc_of u1 | with_reducible refine hc_drewN ?_ | with_reducible refine hc_drew ?_ | with_reducible refine hc_set ?_)
    · repeat (first | with_reducible exact HGR | with_reducible refine GrW.drewN _ ?_ | with_reducible refine GrW.drew ?_ | with_reducible refine GrW.setCell ?_ hb1 _)
end Go.Proofs.Ytcfkhhnkboealaa
