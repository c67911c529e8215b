/- Whirls: the calls that must fail; slices made. -/
import Derived.Test.YtcfkhhnkboealaaYo
namespace Go.Proofs.Ytcfkhhnkboealaa
open Go.RowKit
set_option linter.unusedVariables false
set_option linter.unusedSimpArgs false
set_option maxRecDepth 100000
set_option maxHeartbeats 4000000
theorem whP : whOk 4607182418800017408 0 4618760256179416344 = true := by decide +kernel
theorem whQ : whOk 13830554455654793216 0 4618760256179416344 = true := by decide +kernel
theorem whB : whOk 13830554455654793216 0 13842132293034192152 = true := by decide +kernel
theorem whZ : whOk 0 0 0 = true := by decide +kernel
theorem rOne : Rep 4607182418800017408 4607182418800017408 := Rep.lit6 (by decide) (by decide +kernel)
theorem rMone : Rep 13830554455654793216 13830554455654793216 := Rep.lit6 (by decide) (by decide +kernel)
theorem rT : Rep 4618760256179416344 4618760256179416344 := Rep.lit6 (by decide) (by decide +kernel)
theorem rTn : Rep 13842132293034192152 13842132293034192152 := Rep.lit6 (by decide) (by decide +kernel)
theorem rZ : Rep 0 0 := Rep.lit6 (by decide) (by decide +kernel)
theorem waysClose_c {g cap : Nat} {w : World} (h : W2 w g cap 4607182418800017408 0 4618760256179416344 4607182418800017408 0 4618760256179416344) :
    Calls Try.prog 121 #[.slice (some ⟨g, 0, none⟩) 2 cap] w (fun e w' => e = .returned (.tuple #[.slice none 0 0, .int .i64 280]) ∧ Grown w w') := by
  have hmk := mk_cplx2
  have ex := Lib.hid (show 0 = fsub 4607182418800017408 4607182418800017408 by decide +kernel)
  have ey := Lib.hid (show 0 = fsub 0 0 by decide +kernel)
  have em := Lib.hid (show sqF 0 0 = 0 by decide +kernel)
  have n0 : isN 0 = false := by decide +kernel
  have a1 : ∀ W, fres .quo 4618760256179416344 4618760256179416344 W = 4607182418800017408 := fun W => ((rT.quo rT).eq_of (by decide +kernel)).trans (by decide +kernel)
  have a2 : fdr .quo 4618760256179416344 4618760256179416344 = 0 := fdr_quo (by decide +kernel)
  have a3 : (FloatKind.f64.format.order 0 0 == some .eq) = true := by decide +kernel
  have h0 := h.c0
  have h1 := h.c1
  have h2 := h.c2
  have h3 := h.c3
  have hcap := h.lc
  have hcap2 := h.top
  have hg := h.lt
  clear h
  have hg1 : g < w.heap.size + 1 := by omega
  have hg2 : g < w.heap.size + 1 + 1 := by omega
  have hg3 : g < w.heap.size + 1 + 1 + 1 := by omega
  have hg4 : g < w.heap.size + 1 + 1 + 1 + 1 := by omega
  go_enter Try.func121, Try.ntmps121
  go_wp2_with (first | (go_at_call 130; (with_reducible refine (circle_c _).mono ?_); rintro e w' ⟨n, rfl, rfl⟩))
  refine wp_loop_rounds 5 ?_
  rw [rounds_succ]
  go_wp2_with fail
  refine wp_loop_rounds 5 ?_
  rw [rounds_succ]
  go_wp2_with fail
  rw [rounds_succ]
  go_wp2_with (first
    | (go_at_call 116; (with_reducible refine (csub_c rOne rZ rOne rZ _).mono ?_); rintro e w' ⟨r, s, n, rfl, hr, hs, rfl⟩; obtain rfl : 0 = r := ex.out.trans (hr.eq_of (by rw [← ex.out]; exact n0)).symm; obtain rfl : 0 = s := ey.out.trans (hs.eq_of (by rw [← ey.out]; exact n0)).symm)
    | fail)
  go_quiet (first
      | (go_at_call 51; exact RetF.quiet2 (square_c rZ rZ _) n0 em.out))
  go_wp2_with fail
  go_ret2
  refine ⟨rfl, ?_⟩
  repeat (first | with_reducible exact Grown.refl _ | with_reducible apply gr_drewN | with_reducible apply Grown.alloc | (with_reducible refine Grown.setCell ?_ (by simp <;> omega) _))
theorem WaysClose_c {g cap : Nat} {w : World} (h : W2 w g cap 4607182418800017408 0 4618760256179416344 4607182418800017408 0 4618760256179416344) :
    Calls Try.prog 64 #[.slice (some ⟨g, 0, none⟩) 2 cap] w (fun e w' => e = .returned (.tuple #[.slice none 0 0, .int .i64 280]) ∧ Grown w w') := by
  have HC := Lib.hid (check2_c h rOne rZ rT rOne rZ rT whP whP)
  have HH := Lib.hid h
  clear h
  go_enter Try.func64, Try.ntmps64
  go_wp2_with (first | (go_at_call 78; (with_reducible refine (HC.out).mono ?_); rintro e w' ⟨rfl, g1⟩; have G1 := Lib.hid g1; have H1 := Lib.hid (HH.out.up (GrW.of g1)); clear g1) | (go_at_call 121; (with_reducible refine (waysClose_c H1.out).mono ?_); rintro e w' ⟨rfl, g2⟩; have G2 := Lib.hid g2; clear g2))
  go_ret2
  exact ⟨rfl, gr_trans G1.out G2.out⟩
theorem stepNo_c {g cap s f : Nat} {w : World} (h : W1 w g cap 4607182418800017408 0 4618760256179416344) (rs : Rep s f) (hs : stpOk f = false) :
    Calls Try.prog 66 #[.slice (some ⟨g, 0, none⟩) 1 cap, .float .f64 s] w (fun e w' => e = .returned (.tuple #[.slice none 0 0, .int .i64 5]) ∧ Grown w w') := by
  have HC := Lib.hid (steppedNo_c (check1_c h rOne rZ rT whP) rs hs)
  clear h
  go_enter Try.func66, Try.ntmps66
  go_wp2_with (first | (go_at_call 122; (with_reducible refine (HC.out).mono ?_); rintro e w' ⟨rfl, g1⟩; have G1 := Lib.hid g1; clear g1))
  go_ret2
  exact ⟨rfl, G1.out⟩
theorem mk_wh (n : Nat) (h : n ≤ 100000) (w : World) : (Instr.makeSlice 88 (.int .i64 n) (.int .i64 n)).run Try.prog w = .ok (.slice (some ⟨w.heap.size, 0, none⟩) n n) (w.alloc (.cells (madeCells #[.complex .f64 0 0, .float .f64 0] (n * 2)) 82)) := by
  obtain ⟨i, hi, e1, e2, e3⟩ := infoWh'
  have := run_make (P := Try.prog) w 88 82 i (.agg #[.complex .f64 0 0, .float .f64 0]) Try.underlying88 hi e1 .i64 .i64 (n : Int) (n : Int) (by omega) (Int.le_refl _) (by rw [e3]; omega) (by omega)
  rw [e2] at this
  simpa [Value.cells] using this
theorem made_wh (n k : Nat) (h : k < n) (c f : Value) : (madeCells #[c, f] (n * 2))[k * 2]? = some c ∧ (madeCells #[c, f] (n * 2))[k * 2 + 1]? = some f := by
  have h1 : k * 2 < n * 2 := by omega
  have h2 : k * 2 + 1 < n * 2 := by omega
  have m1 : k * 2 % 2 = 0 := by omega
  have m2 : (k * 2 + 1) % 2 = 1 := by omega
  unfold madeCells
  refine ⟨?_, ?_⟩
  · simp [h1, m1]
  · simp [h2, m2]
theorem checkZero_c {w : World} {g n : Nat} (h4 : n ≤ 4096) (lt : g < w.heap.size) (c0 : ∀ j, j < n → w.cell? ⟨g, j * 2, none⟩ = some (.complex .f64 0 0) ∧ w.cell? ⟨g, j * 2 + 1, none⟩ = some (.float .f64 0)) :
    Calls Try.prog 78 #[.slice (some ⟨g, 0, none⟩) n n] w (fun e w' => e = .returned (.int .i64 0) ∧ Grown w w') :=
  checkOk_c g n n (fun _ => 0) (fun _ => 0) (fun _ => 0) w (Nat.le_refl n) (Nat.le_trans h4 (by decide)) h4 lt c0 (fun _ _ => ⟨rZ, rZ, rZ⟩) (fun _ _ => whZ)
theorem checkMade_c {w w' : World} {n : Nat} {C : Array Value} {T : TypeId} (h4 : n ≤ 4096) (hC : ∀ j, j < n → C[j * 2]? = some (.complex .f64 0 0) ∧ C[j * 2 + 1]? = some (.float .f64 0)) (k : GrW (w.alloc (.cells C T)) w') :
    Calls Try.prog 78 #[.slice (some ⟨w.heap.size, 0, none⟩) n n] w' (fun e w'' => e = .returned (.int .i64 0) ∧ Grown w' w'') := by
  have lt : w.heap.size < (w.alloc (.cells C T)).heap.size := by simp
  exact checkZero_c h4 (Nat.lt_of_lt_of_le lt k.size) (fun j hj => ⟨(k.cell (a := ⟨w.heap.size, j * 2, none⟩) lt).trans (cu_new (hC j hj).1), (k.cell (a := ⟨w.heap.size, j * 2 + 1, none⟩) lt).trans (cu_new (hC j hj).2)⟩)
theorem flowMade_c {n : Nat} (h : 256 < n) (h4 : n ≤ 4096) (w : World) : Calls Try.prog 73 #[.slice (some ⟨w.heap.size, 0, none⟩) n n] (w.alloc (.cells (madeCells #[.complex .f64 0 0, .float .f64 0] (n * 2)) 82)) (fun e w' => e = .returned (.tuple #[.agg #[.slice none 0 0], .int .i64 7]) ∧ GrW (w.alloc (.cells (madeCells #[.complex .f64 0 0, .float .f64 0] (n * 2)) 82)) w') :=
  flowMany_c (fun W k => checkMade_c h4 (fun j hj => made_wh n j hj _ _) k) h
theorem mkFlow_c (w : World) : ∃ W, (Instr.makeSlice 88 (.int .i64 257) (.int .i64 257)).run Try.prog w = .ok (.slice (some ⟨w.heap.size, 0, none⟩) 257 257) W ∧ GrW w W ∧ Calls Try.prog 73 #[.slice (some ⟨w.heap.size, 0, none⟩) 257 257] W (fun e w' => e = .returned (.tuple #[.agg #[.slice none 0 0], .int .i64 7]) ∧ GrW W w') := by
  have key : ∀ n : Nat, 256 < n → n ≤ 4096 → ∃ W, (Instr.makeSlice 88 (.int .i64 n) (.int .i64 n)).run Try.prog w = .ok (.slice (some ⟨w.heap.size, 0, none⟩) n n) W ∧ GrW w W ∧ Calls Try.prog 73 #[.slice (some ⟨w.heap.size, 0, none⟩) n n] W (fun e w' => e = .returned (.tuple #[.agg #[.slice none 0 0], .int .i64 7]) ∧ GrW W w') :=
    fun n h h4 => ⟨_, mk_wh n (by omega) w, (GrW.refl w).alloc _, flowMade_c h h4 w⟩
  exact key 257 (by decide) (by decide)
theorem mkMany_c (w : World) : ∃ W, (Instr.makeSlice 88 (.int .i64 4097) (.int .i64 4097)).run Try.prog w = .ok (.slice (some ⟨w.heap.size, 0, none⟩) 4097 4097) W ∧ GrW w W := by
  have key : ∀ n : Nat, n ≤ 100000 → ∃ W, (Instr.makeSlice 88 (.int .i64 n) (.int .i64 n)).run Try.prog w = .ok (.slice (some ⟨w.heap.size, 0, none⟩) n n) W ∧ GrW w W :=
    fun n h => ⟨_, mk_wh n h w, (GrW.refl w).alloc _⟩
  exact key 4097 (by decide)
/-- Cells that stay: what a world is known to hold. -/
structure Held (w0 w : World) (L : List (Addr × Value)) : Prop where
  gr : GrW w0 w
  all : ∀ (i : Nat) (a : Addr) (v : Value), L[i]? = some (a, v) → a.block < w.heap.size ∧ w.cell? a = some v
theorem Held.cell {w0 w : World} {L : List (Addr × Value)} (h : Held w0 w L) (i : Nat) {a : Addr} {v : Value} (e : L[i]? = some (a, v)) : w.cell? a = some v := (h.all i a v e).2
theorem Held.lt {w0 w : World} {L : List (Addr × Value)} (h : Held w0 w L) (i : Nat) {a : Addr} {v : Value} (e : L[i]? = some (a, v)) : a.block < w.heap.size := (h.all i a v e).1
theorem Held.up {w0 w w' : World} {L : List (Addr × Value)} (h : Held w0 w L) (k : GrW w w') : Held w0 w' L :=
  ⟨h.gr.trans k, fun i a v e => ⟨Nat.lt_of_lt_of_le (h.lt i e) k.size, (k.cell (h.lt i e)).trans (h.cell i e)⟩⟩
theorem Held.new {w0 w : World} {L : List (Addr × Value)} (h : Held w0 w L) (o : Obj) : Held w0 (w.alloc o) L := h.up ((GrW.refl w).alloc o)
theorem Held.add {w0 w : World} {L : List (Addr × Value)} (h : Held w0 w L) {a : Addr} {v : Value} (lt : a.block < w.heap.size) (e : w.cell? a = some v) : Held w0 w (L ++ [(a, v)]) :=
  ⟨h.gr, fun i b u q => by
    rcases Nat.lt_or_ge i L.length with k | k
    · rw [List.getElem?_append_left k] at q; exact h.all i b u q
    · rw [List.getElem?_append_right k] at q
      cases hj : i - L.length with
      | zero => rw [hj] at q; simp at q; obtain ⟨rfl, rfl⟩ := q; exact ⟨lt, e⟩
      | succ n => rw [hj] at q; simp at q⟩
theorem Held.start (w : World) : Held w w [] := ⟨GrW.refl w, fun i a v e => by simp at e⟩
end Go.Proofs.Ytcfkhhnkboealaa
