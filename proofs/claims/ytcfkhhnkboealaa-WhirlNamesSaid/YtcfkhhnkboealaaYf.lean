/- Whirls: sums, runs without steps, copies. -/
import Derived.Test.YtcfkhhnkboealaaYe0
namespace Go.Proofs.Ytcfkhhnkboealaa
open Go.RowKit
set_option linter.unusedVariables false
set_option linter.unusedSimpArgs false
set_option maxRecDepth 100000
set_option maxHeartbeats 4000000
theorem a28_c {x y s t : Nat} (w : World) (rs : Rep s s) (e : fmul s 4618760256179416344 = t) (hn : isN t = false) : Calls Try.prog 63 #[.float .f64 x, .float .f64 y, .float .f64 s] w (fun e w' => e = .returned (.agg #[.complex .f64 x y, .float .f64 t]) ∧ Grown w w') := by
  have c2p : Rep 4618760256179416344 4618760256179416344 := Rep.self (by decide) (by decide +kernel)
  have f2 : ∀ w : World, fres .mul 4611686018427387904 4614256656552045848 w = 4618760256179416344 := fun w => (Rep.mul Rep.two (show Rep 4614256656552045848 4614256656552045848 from Rep.self (by decide) (by decide +kernel))).eq_of (by decide +kernel)
  have f3 : ∀ w : World, fres .mul s 4618760256179416344 w = t := fun w => ((rs.mul c2p).eq_of (by rw [e]; exact hn)).trans e
  clear e
  go_enter Try.func63, Try.ntmps63
  go_wp2_with (first | (go_at_call 117; (with_reducible refine (Pi_c _).mono ?_); rintro e w' ⟨r1, r2, n, rfl, hr1, hr2, rfl⟩; obtain rfl := hr1.eq_of (by decide +kernel)))
  refine bodyPost_ret (results_cell_row rfl _ _ w.heap.size 82 #[.complex .f64 x y, .float .f64 t] (0, 0) _ rfl ?_ Try.underlying82 rfl (by kernel_rfl)) rfl ⟨rfl, ?_⟩
  · have k := heap_alloc_new w (.cells #[.complex .f64 0 0, .float .f64 0] 82)
    have k2 : ∀ n, ((w.alloc (.cells #[.complex .f64 0 0, .float .f64 0] 82)).drewN n).heap[w.heap.size]? = some (.cells #[.complex .f64 0 0, .float .f64 0] 82) := fun _ => k
    simp only [World.setCell, Array.getElem?_modify, k2, if_pos, Option.map_some]
    rfl
  · repeat (first | with_reducible exact Grown.refl _ | with_reducible apply gr_drewN | with_reducible apply Grown.alloc | (with_reducible refine Grown.setCell ?_ (by simp <;> omega) _))
theorem list28_c (v : Option Addr) (n c : Nat) (w : World) : Calls Try.prog 65 #[.slice v n c] w (fun e w' => e = .returned (.slice v n c) ∧ w' = w) := by
  go_enter Try.func65, Try.ntmps65
  go_wp2
  go_ret
  exact ⟨rfl, rfl⟩
theorem gr_own {w W1 : World} {row : Value} (h : w.grownBy W1 row.ownBlock) (e : row = .slice none 0 0) : GrW w W1 := (GrW.refl w).by h (by intro k hk; rw [e] at hk; cases hk)
theorem runArg_c {g cap x y t s : Nat} {w : World} (h : W1 w g cap x y t) (rx : Rep x x) (ry : Rep y y) (rt : Rep t t) (rs : Rep s s) (ok : whOk x y t = true) (hs : stpOk s = true) :
    Calls Try.prog 68 #[.slice (some ⟨g, 0, none⟩) 1 cap, .float .f64 s, .int .i64 (-1)] w (fun e w' => e = .returned (.tuple #[.slice none 0 0, .int .i64 2]) ∧ Grown w w') := by
  have HC := Lib.hid (stepped_c (check1_c h rx ry rt ok) rs hs)
  clear h
  go_enter Try.func68, Try.ntmps68
  go_wp2_with (first | (go_at_call 122; (with_reducible refine (HC.out).mono ?_); rintro e w' ⟨rfl, g1⟩; have G1 := Lib.hid g1; clear g1))
  go_ret2
  exact ⟨rfl, G1.out⟩
theorem run0_c {g cap x y t s : Nat} {w : World} (h : W1 w g cap x y t) (rx : Rep x x) (ry : Rep y y) (rt : Rep t t) (rs : Rep s s) (ok : whOk x y t = true) (hs : stpOk s = true) :
    Calls Try.prog 68 #[.slice (some ⟨g, 0, none⟩) 1 cap, .float .f64 s, .int .i64 0] w (fun e w' => ∃ g' c', e = .returned (.tuple #[.slice (some ⟨g', 0, none⟩) 1 c', .int .i64 0]) ∧ W1 w' g' c' x y t ∧ w.heap.size ≤ g' ∧ GrW w w') := by
  have HC := Lib.hid (stepped_c (check1_c h rx ry rt ok) rs hs)
  obtain ⟨i0, hi, hz0, hz1, hz2⟩ := infoWh'
  have HH := Lib.hid h
  have hcap := h.lc
  have htop := h.top
  clear h
  go_enter Try.func68, Try.ntmps68
  go_upto_region 7 with (first
    | (go_at_call 122; (with_reducible refine HC.out.mono ?_); rintro e w0 ⟨rfl, g1⟩; have G1 := Lib.hid (GrW.of g1); have h0 := (HH.out.up (GrW.of g1)).c0; have h1 := (HH.out.up (GrW.of g1)).c1; clear g1)
    | (at_builtin; refine wpList_append_own _ rfl (.const (.slice none 0 0)) (.tmp 24) 88 rfl w0.heap.size 82 i0 (.agg #[.complex .f64 0 0, .float .f64 0]) 2 24 Try.underlying88 hi hz0 hz1 hz2 rfl (by decide) _ 0 [] rfl (World.ownsRow_nil _ _ _ _) ⟨g, 0, none⟩ 1 cap [.complex .f64 x y, .float .f64 t] rfl rfl (by intro j u hj; match j, hj with | 0, hj => (simp at hj; subst hj; exact h0) | 1, hj => (simp at hj; subst hj; simpa [Addr.add] using h1)) (by intro u hu; simp at hu; rcases hu with rfl | rfl <;> rfl) (by unfold maxLen; omega) (by omega) (Nat.le_refl _) ?_; intro v1 W1' hown1 hgrow1 hnil1)
    | fail)
  rcases own_rowN hown1 with ⟨_, hz⟩ | ⟨g1, c1, rfl, hb1, hb2, hb3, hb4, hcl, hfz⟩
  · omega
  have u0 := hcl 0 _ rfl
  have u1 := hcl 1 _ rfl
  have HGR : GrW w0 W1' := gr_own hgrow1 rfl
  have M4 : maxLen = 9223372036854775807 := rfl
  rw [M4] at hb4
  clear hown1 hgrow1 hnil1 hcl hfz
  go_wp2_with (fail)
  refine wp_loop_rounds 2 ?_
  rw [rounds_succ]
  go_wp2_with (fail)
  go_ret2
  exact ⟨g1, c1, by simp, ⟨hb2, by omega, hb4, u0, u1⟩, Nat.le_trans G1.out.size hb1, G1.out.trans HGR⟩
theorem infoF64c : True := trivial
theorem mk_flt (n : Nat) (h : n ≤ 1000000) (w : World) : (Instr.makeSlice 24 (.int .i64 n) (.int .i64 n)).run Try.prog w = .ok (.slice (some ⟨w.heap.size, 0, none⟩) n n) (w.alloc (.cells (madeCells #[.float .f64 0] n) 25)) := by
  obtain ⟨i, hi, e1, e2, e3⟩ := infoF64'
  have := run_make (P := Try.prog) w 24 25 i (.float .f64 0) Try.underlying24 hi e1 .i64 .i64 (n : Int) (n : Int) (by omega) (Int.le_refl _) (by rw [e3]; omega) (by omega)
  rw [e2] at this
  simpa [Value.cells] using this
theorem mk_flt0 (w : World) : (Instr.makeSlice 24 (.int .i64 0) (.int .i64 0)).run Try.prog w = .ok (.slice (some ⟨w.heap.size, 0, none⟩) 0 0) (w.alloc (.cells #[] 25)) := by
  have h := mk_flt 0 (by decide) w
  rw [show madeCells #[Value.float .f64 0] 0 = #[] by kernel_rfl] at h
  exact h
theorem mk_flt2 (w : World) : (Instr.makeSlice 24 (.int .i64 2) (.int .i64 2)).run Try.prog w = .ok (.slice (some ⟨w.heap.size, 0, none⟩) 2 2) (w.alloc (.cells #[.float .f64 0, .float .f64 0] 25)) := by
  have h := mk_flt 2 (by decide) w
  rw [show madeCells #[Value.float .f64 0] 2 = #[.float .f64 0, .float .f64 0] by kernel_rfl] at h
  exact h
theorem total2_c {g cap x y t x' y' t' T : Nat} {w : World} (h : W2 w g cap x y t x' y' t') (rt : Rep t t) (rt' : Rep t' t') (e : fadd t t' = T) (hn : isN T = false) :
    Calls Try.prog 126 #[.slice (some ⟨g, 0, none⟩) 2 cap] w (fun e w' => e = .returned (.float .f64 T) ∧ Grown w w') := by
  have hmk := mk_flt2
  have h0 := h.c0
  have h1 := h.c1
  have h2 := h.c2
  have h3 := h.c3
  have hg := h.lt
  have hcap := h.lc
  have htop := h.top
  have hc1 : (0 : Int) < (cap : Int) := by omega
  have hc2 : (1 : Int) < (cap : Int) := by omega
  have hg1 : g < w.heap.size + 1 := by omega
  have hg2 : g < w.heap.size + 1 + 1 := by omega
  have hg3 : g < w.heap.size + 1 + 1 + 1 := by omega
  have hz1 : w.heap.size < w.heap.size + 1 := by omega
  have hz2 : w.heap.size < w.heap.size + 1 + 1 := by omega
  have hz3 : w.heap.size < w.heap.size + 1 + 1 + 1 := by omega
  clear h
  go_enter Try.func126, Try.ntmps126
  go_wp2_with (fail)
  refine wp_loop_rounds 4 ?_
  repeat (rw [rounds_succ]; go_wp2_with (fail))
  go_wp2_with (first
    | (go_at_call 12; go_loud ((with_reducible refine (sumR_c w.heap.size 2 2 (fun j => if j = 0 then t else t') _ (by decide) (by decide) (fun j hj => by { rcases (show j = 0 ∨ j = 1 by omega) with rfl | rfl; simpa using rt.lt; simpa using rt'.lt }) (fun j hj => by { rcases (show j = 0 ∨ j = 1 by omega) with rfl | rfl; all_goals (repeat (first | with_reducible exact cu_new rfl | with_reducible refine cu_drewN ?_ | with_reducible refine cu_set (by decide) ?_ | with_reducible refine cu_same ?_ | with_reducible refine cu_alloc ?_ | with_reducible exact hc_new (by decide) | with_reducible refine hc_drewN ?_ | with_reducible refine hc_alloc ?_ | with_reducible refine hc_set ?_)) })).mono ?_); rintro e w' ⟨r, n, rfl, hr, rfl⟩))
    | fail)
  rw [show ((List.range 2).map fun j => nrm (if j = 0 then t else t')) = [nrm t, nrm t'] from rfl, rt.eq, rt'.eq, show sumF [t, t'] = fadd t t' from rfl, e] at hr
  obtain rfl : T = r := (hr.eq_of hn).symm
  go_ret
  refine ⟨rfl, ?_⟩
  repeat (first | with_reducible exact Grown.refl _ | with_reducible apply gr_drewN | with_reducible apply Grown.alloc | (with_reducible refine Grown.setCell ?_ (by simp <;> omega) _))
end Go.Proofs.Ytcfkhhnkboealaa
