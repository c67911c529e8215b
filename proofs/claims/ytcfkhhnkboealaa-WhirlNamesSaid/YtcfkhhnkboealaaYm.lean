/- Whirls: as a flow. -/
import Derived.Test.YtcfkhhnkboealaaYl
namespace Go.Proofs.Ytcfkhhnkboealaa
open Go.RowKit
set_option linter.unusedVariables false
set_option linter.unusedSimpArgs false
set_option maxRecDepth 100000
set_option maxHeartbeats 4000000
theorem infoEl : (Try.prog.info? 107).map (fun i => (i.zero, i.size, i.bytes)) = some (some (.agg #[.int .u8 0, .complex .f64 0 0, .complex .f64 0 0, .float .f64 0]), 4, 48) := by kernel_rfl
theorem infoEl' : ∃ i, Try.prog.info? 107 = some i ∧ i.zero = some (.agg #[.int .u8 0, .complex .f64 0 0, .complex .f64 0 0, .float .f64 0]) ∧ i.size = 4 ∧ i.bytes = 48 := by
  have e := infoEl
  cases hi : Try.prog.info? 107 with
  | none => rw [hi] at e; cases e
  | some i =>
    rw [hi] at e
    simp only [Option.map_some, Option.some.injEq, Prod.mk.injEq] at e
    exact ⟨i, rfl, e.1, e.2.1, e.2.2⟩
theorem fz_alloc (w : World) (c : Array Value) (t : TypeId) (i : Nat) : (w.alloc (.cells c t)).frozen? ⟨w.heap.size, i, none⟩ = false := by
  rw [frozen?_alloc_cells]
  unfold World.frozen?
  rw [Array.getElem?_eq_none (Nat.le_refl _)]
theorem cells_new (w : World) (c : Array Value) (t : TypeId) : ∀ j u, c.toList[j]? = some u → (w.alloc (.cells c t)).cell? ((⟨w.heap.size, 0, none⟩ : Addr).add j) = some u := by
  intro j u h
  have e : (⟨w.heap.size, 0, none⟩ : Addr).add j = ⟨w.heap.size, j, none⟩ := by cases j <;> simp [Addr.add]
  rw [e, World.cell?_alloc_new]
  simpa using h
theorem res73 {tmps : Array Value} {W : World} {b : Nat} {v k : Value} (h2 : tmps.getD 2 undef = .pointer (some ⟨b, 0, none⟩)) (h3 : tmps.getD 3 undef = k) (hc : W.cell? ⟨b, 0, none⟩ = some v) : (results Try.f73 tmps).run Try.prog W = .ok (.tuple #[.agg #[v], k]) W := by
  rw [results_cell_tmp (p := 2) (u := 3) (ty := 100) rfl, h2, h3]
  have l := run_loadVar_mid (P := Try.prog) W b 0 100 [v] _ (fun j u hj => by
    match j, hj with
    | 0, hj => (simp at hj; subst hj; exact hc)) Try.underlying100 rfl (by kernel_rfl)
  simp [asAddr, Sem.run_pure, Result.andThen, l]
theorem flow1_c {g cap x y t : Nat} {w : World} (h : W1 w g cap x y t) (rx : Rep x x) (ry : Rep y y) (rt : Rep t t) (ok : whOk x y t = true) :
    Calls Try.prog 73 #[.slice (some ⟨g, 0, none⟩) 1 cap] w (fun e w' => ∃ g' c' y2, e = .returned (.tuple #[.agg #[.slice (some ⟨g', 0, none⟩) 1 c'], .int .i64 0]) ∧ w'.cell? ⟨g', 0, none⟩ = some (.int .u8 2) ∧ w'.cell? ⟨g', 2, none⟩ = some (.complex .f64 0 y2) ∧ Rep y2 (fneg t) ∧ g' < w'.heap.size ∧ GrW w w') := by
  obtain ⟨i0, hi, hz0, hz1, hz2⟩ := infoEl'
  have HH := Lib.hid h
  have hcap := h.lc
  have htop := h.top
  have hc1 : (0 : Int) < (cap : Int) := by omega
  clear h
  go_enter Try.func73, Try.ntmps73
  go_wp2_with (first
    | (go_at_call 78; go_loud ((with_reducible refine (check1_c (HH.out.up ((GrW.refl w).alloc _)) rx ry rt ok).mono ?_); rintro e w1 ⟨rfl, g1⟩; have G1 := Lib.hid (((GrW.refl w).alloc _).trans (GrW.of g1)); have H1 := Lib.hid (HH.out.up (((GrW.refl w).alloc _).trans (GrW.of g1))); have r0 : w1.cell? ⟨w.heap.size, 0, none⟩ = some (.slice none 0 0) := (grown_cell g1 (by simp)).trans (cu_new rfl); have fz0 : w1.frozen? ⟨w.heap.size, 0, none⟩ = false := (g1.2.1 _).trans (fz_alloc _ _ _ _); have rlt : w.heap.size < w1.heap.size := by { have := g1.2.2; simp at this; omega }; clear g1))
    | fail)
  have h0 := H1.out.c0
  have h1 := H1.out.c1
  have hg := H1.out.lt
  have hg1 : g < w1.heap.size + 1 := by omega
  have rlt1 : w.heap.size < w1.heap.size + 1 := by omega
  have rl2 : w.heap.size < w1.heap.size + 1 + 1 := by omega
  have zl2 : w1.heap.size < w1.heap.size + 1 + 1 := by omega
  have rl3 : w.heap.size < w1.heap.size + 1 + 1 + 1 := by omega
  have zl3 : w1.heap.size < w1.heap.size + 1 + 1 + 1 := by omega
  have rl4 : w.heap.size < w1.heap.size + 1 + 1 + 1 + 1 := by omega
  have zl4 : w1.heap.size < w1.heap.size + 1 + 1 + 1 + 1 := by omega
  have rl5 : w.heap.size < w1.heap.size + 1 + 1 + 1 + 1 + 1 := by omega
  have zl5 : w1.heap.size < w1.heap.size + 1 + 1 + 1 + 1 + 1 := by omega
  refine wp_loop_rounds 3 ?_
  rw [rounds_succ]
  go_wp2_with (first
    | (at_builtin; refine wpList_append_own _ rfl (.tmp 25) (.tmp 33) 98 rfl w1.heap.size 107 i0 (.agg #[.int .u8 0, .complex .f64 0 0, .complex .f64 0 0, .float .f64 0]) 4 48 Try.underlying98 hi hz0 hz1 hz2 rfl (by decide) (.slice none 0 0) 0 [] rfl (World.ownsRow_nil _ _ _ _) _ 1 1 [.int .u8 2, .complex .f64 x y, .complex .f64 0 (t ^^^ 9223372036854775808), .float .f64 0] rfl rfl (cells_new _ #[.int .u8 2, .complex .f64 x y, .complex .f64 0 (t ^^^ 9223372036854775808), .float .f64 0] _) (by intro z hz; simp at hz; rcases hz with rfl | rfl | rfl | rfl <;> rfl) (by unfold maxLen; omega) (by omega) (by simp <;> omega) ?_; intro v1 E0 hown hgrow hnil)
    | fail)
  rw [rounds_succ]
  go_wp2_with (fail)
  refine bodyPost_ret (res73 rfl rfl (cu_drew (cu_alloc (cu_alloc (cu_alloc (cu_alloc (cu_same (hc_of r0)))))))) rfl ⟨w1.heap.size + 1 + 1 + 1, _, t ^^^ 9223372036854775808, rfl, cu_drew ?_, cu_drew ?_, rt.neg, by simp, ?_⟩
  · refine Eq.trans (World.cell?_alloc_at _ _ _ _ (by simp)) ?_
    rw [Array.getElem?_append_left (by simp)]
    rfl
  · refine Eq.trans (World.cell?_alloc_at _ _ _ _ (by simp)) ?_
    rw [Array.getElem?_append_left (by simp)]
    rfl
  · exact (((((G1.out.setCell (Nat.le_refl _) _).alloc _).alloc _).alloc _).alloc _).drew
theorem flowMany_c {g cap n : Nat} {w : World} (hC : ∀ W, GrW w W → Calls Try.prog 78 #[.slice (some ⟨g, 0, none⟩) n cap] W (fun e w' => e = .returned (.int .i64 0) ∧ Grown W w')) (hn : 256 < n) :
    Calls Try.prog 73 #[.slice (some ⟨g, 0, none⟩) n cap] w (fun e w' => e = .returned (.tuple #[.agg #[.slice none 0 0], .int .i64 7]) ∧ GrW w w') := by
  have HC := Lib.hid hC
  have hn' : (256 : Int) < (n : Int) := by omega
  clear hC
  go_enter Try.func73, Try.ntmps73
  go_wp2_with (first
    | (go_at_call 78; go_loud ((with_reducible refine (HC.out _ ((GrW.refl w).alloc _)).mono ?_); rintro e w1 ⟨rfl, g1⟩; have G1 := Lib.hid (((GrW.refl w).alloc _).trans (GrW.of g1)); have r0 : w1.cell? ⟨w.heap.size, 0, none⟩ = some (.slice none 0 0) := (grown_cell g1 (by simp)).trans (cu_new rfl); have fz0 : w1.frozen? ⟨w.heap.size, 0, none⟩ = false := (g1.2.1 _).trans (fz_alloc _ _ _ _); have rlt : w.heap.size < w1.heap.size := by { have := g1.2.2; simp at this; omega }; clear g1))
    | fail)
  refine bodyPost_ret (res73 rfl rfl (cu_same (hc_of r0))) rfl ⟨rfl, ?_⟩
  exact G1.out.setCell (Nat.le_refl _) _
end Go.Proofs.Ytcfkhhnkboealaa
