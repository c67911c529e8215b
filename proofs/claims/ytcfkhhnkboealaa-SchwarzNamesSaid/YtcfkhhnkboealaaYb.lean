/- Whirls: how they move one another: one, and two. -/
import Derived.Test.YtcfkhhnkboealaaYa
import Derived.Test.YtcfkhhnkboealaaWda
import Derived.Deep.QuietTactic
import Derived.BigQuiet
namespace Go.Proofs.Ytcfkhhnkboealaa
open Go.RowKit
set_option linter.unusedVariables false
set_option linter.unusedSimpArgs false
set_option maxRecDepth 100000
set_option maxHeartbeats 4000000
theorem infoC128 : (Try.prog.info? 60).map (fun i => (i.zero, i.size, i.bytes)) = some (some (.complex .f64 0 0), 1, 16) := by kernel_rfl
theorem mk_cplx (n : Nat) (h : n ≤ 1000000) (w : World) : (Instr.makeSlice 84 (.int .i64 n) (.int .i64 n)).run Try.prog w = .ok (.slice (some ⟨w.heap.size, 0, none⟩) n n) (w.alloc (.cells (madeCells #[.complex .f64 0 0] n) 60)) := by
  have e := infoC128
  cases hi : Try.prog.info? 60 with
  | none => rw [hi] at e; cases e
  | some i =>
    rw [hi] at e
    simp only [Option.map_some, Option.some.injEq, Prod.mk.injEq] at e
    obtain ⟨e1, e2, e3⟩ := e
    have := run_make (P := Try.prog) w 84 60 i (.complex .f64 0 0) Try.underlying84 hi e1 .i64 .i64 (n : Int) (n : Int) (by omega) (Int.le_refl _) (by rw [e3]; omega) (by omega)
    rw [e2] at this
    simpa [Value.cells] using this
theorem mk_cplx1 (w : World) : (Instr.makeSlice 84 (.int .i64 1) (.int .i64 1)).run Try.prog w = .ok (.slice (some ⟨w.heap.size, 0, none⟩) 1 1) (w.alloc (.cells #[.complex .f64 0 0] 60)) := by
  have h := mk_cplx 1 (by decide) w
  rw [show madeCells #[Value.complex .f64 0 0] 1 = #[.complex .f64 0 0] by kernel_rfl] at h
  exact h
theorem mk_cplx2 (w : World) : (Instr.makeSlice 84 (.int .i64 2) (.int .i64 2)).run Try.prog w = .ok (.slice (some ⟨w.heap.size, 0, none⟩) 2 2) (w.alloc (.cells #[.complex .f64 0 0, .complex .f64 0 0] 60)) := by
  have h := mk_cplx 2 (by decide) w
  rw [show madeCells #[Value.complex .f64 0 0] 2 = #[.complex .f64 0 0, .complex .f64 0 0] by kernel_rfl] at h
  exact h
theorem ways1_c (g cap x y t : Nat) (w : World) (hcap : 1 ≤ cap) (hcap2 : cap ≤ 9223372036854775807) (hg : g < w.heap.size) (h0 : w.cell? ⟨g, 0, none⟩ = some (.complex .f64 x y)) (h1 : w.cell? ⟨g, 1, none⟩ = some (.float .f64 t)) :
    Calls Try.prog 121 #[.slice (some ⟨g, 0, none⟩) 1 cap] w (fun e w' => ∃ g', e = .returned (.tuple #[.slice (some ⟨g', 0, none⟩) 1 1, .int .i64 0]) ∧ w'.cell? ⟨g', 0, none⟩ = some (.complex .f64 0 0) ∧ w.heap.size ≤ g' ∧ g' < w'.heap.size ∧ Grown w w') := by
  have hmk := mk_cplx1
  go_enter Try.func121, Try.ntmps121
  go_wp2_with (first | (go_at_call 130; (with_reducible refine (circle_c _).mono ?_); rintro e w' ⟨n, rfl, rfl⟩))
  repeat (first
    | (refine wp_loop_rounds 5 ?_; rw [rounds_succ]; go_wp2_with (first | (go_at_call 61; (with_reducible refine (cfinite_c Rep.c0 Rep.c0 _).mono ?_); rintro e w' ⟨n, rfl, rfl⟩) | fail))
    | (rw [rounds_succ]; go_wp2_with (first | (go_at_call 61; (with_reducible refine (cfinite_c Rep.c0 Rep.c0 _).mono ?_); rintro e w' ⟨n, rfl, rfl⟩) | fail)))
  go_ret2
  refine ⟨_, rfl, ?_, Nat.le_refl _, ?_, ?_⟩
  · simp (disch := first | (simp; done) | (simp; omega)) [World.cell?_alloc_past, World.cell?_setCell_same']
  · simp <;> omega
  · repeat (first | with_reducible exact Grown.refl _ | with_reducible apply gr_drewN | with_reducible apply Grown.alloc | (with_reducible refine Grown.setCell ?_ (by simp <;> omega) _))
theorem fdr_quo {x y : Nat} (h : isN (fdiv x y) = false) : fdr .quo x y = 0 := by
  unfold fdr
  show (match Ieee.double.div x y with | some _ => 0 | none => 1) = 0
  cases e : Ieee.double.div x y with
  | some r => rfl
  | none =>
    exfalso
    have k : fdiv x y = nanB := by
      show canon (Ieee.double.div x y) = nanB
      rw [e]; rfl
    rw [k] at h
    exact absurd h (by decide +kernel)
theorem fdr_mul {x y : Nat} (h : isN (fmul x y) = false) : fdr .mul x y = 0 := by
  unfold fdr
  show (match Ieee.double.mul x y with | some _ => 0 | none => 1) = 0
  cases e : Ieee.double.mul x y with
  | some r => rfl
  | none =>
    exfalso
    have k : fmul x y = nanB := by
      show canon (Ieee.double.mul x y) = nanB
      rw [e]; rfl
    rw [k] at h
    exact absurd h (by decide +kernel)
theorem fdr_add {x y : Nat} (h : isN (fadd x y) = false) : fdr .add x y = 0 := by
  unfold fdr
  show (match Ieee.double.add x y with | some _ => 0 | none => 1) = 0
  cases e : Ieee.double.add x y with
  | some r => rfl
  | none =>
    exfalso
    have k : fadd x y = nanB := by
      show canon (Ieee.double.add x y) = nanB
      rw [e]; rfl
    rw [k] at h
    exact absurd h (by decide +kernel)
theorem fdr_sub {x y : Nat} (h : isN (fsub x y) = false) : fdr .sub x y = 0 := by
  unfold fdr
  show (match Ieee.double.sub x y with | some _ => 0 | none => 1) = 0
  cases e : Ieee.double.sub x y with
  | some r => rfl
  | none =>
    exfalso
    have k : fsub x y = nanB := by
      show canon (Ieee.double.sub x y) = nanB
      rw [e]; rfl
    rw [k] at h
    exact absurd h (by decide +kernel)
theorem RetF.quiet {P : Program} {f : FuncId} {args : Array Value} {w : World} {n F m : Nat} (h : Calls P f args (w.drewN n) (RetF F (w.drewN n))) (hn : isN m = false) (e : F = m) :
    Calls P f args (w.drewN n) fun e w'' => e = .returned (.float .f64 m) ∧ ∃ k, w'' = w.drewN k :=
  h.mono fun _ _ ⟨r, k, he, hr, hw⟩ => ⟨by rw [he, hr.eq_of (by rw [e]; exact hn), e], n + k, by rw [hw, World.drewN_drewN]⟩
theorem RetF.quiet2 {P : Program} {f : FuncId} {args : Array Value} {w : World} {n a F m : Nat} (h : Calls P f args (w.drewN (n + a)) (RetF F (w.drewN (n + a)))) (hn : isN m = false) (e : F = m) :
    Calls P f args (w.drewN (n + a)) fun e w'' => e = .returned (.float .f64 m) ∧ ∃ k, w'' = w.drewN (n + k) :=
  h.mono fun _ _ ⟨r, k, he, hr, hw⟩ => ⟨by rw [he, hr.eq_of (by rw [e]; exact hn), e], a + k, by rw [hw, World.drewN_drewN, Nat.add_assoc]⟩
/-- one whirl's way by another one. -/
def wvK (t : Nat) : Nat := fdiv t 4618760256179416344
def wvM (x y x' y' : Nat) : Nat := sqF (fsub x x') (fsub y y')
def wvX (x y x' y' t : Nat) : Nat := fdiv (fneg (fmul (fsub y y') (wvK t))) (wvM x y x' y')
def wvY (x y x' y' t : Nat) : Nat := fdiv (fmul (fsub x x') (wvK t)) (wvM x y x' y')
def wvOk (x y x' y' t : Nat) : Bool := !isN (fsub x x') && !isN (fsub y y') && !isN (wvK t) && !isN (wvM x y x' y') && !feq (wvM x y x' y') 0 && !isN (fmul (fsub y y') (wvK t)) && !isN (fmul (fsub x x') (wvK t)) && fin (wvX x y x' y' t) && fin (wvY x y x' y' t)
structure Wv (x y x' y' t dx dy k m pm pn qm P Q : Nat) : Prop where
  rdx : Rep dx dx
  ex : dx = fsub x x'
  nx : isN dx = false
  rdy : Rep dy dy
  ey : dy = fsub y y'
  ny : isN dy = false
  ek : ∀ W, fres .quo t 4618760256179416344 W = k
  ed : fdr .quo t 4618760256179416344 = 0
  rm : Rep m m
  em : sqF dx dy = m
  nm : isN m = false
  z : (FloatKind.f64.format.order m 0 == some .eq) = false
  epm : ∀ W, fres .mul dy k W = pm
  epn : pm ^^^ 9223372036854775808 = pn
  eP : ∀ W, fres .quo pn m W = P
  eqm : ∀ W, fres .mul dx k W = qm
  eQ : ∀ W, fres .quo qm m W = Q
  rP : Rep P P
  rQ : Rep Q Q
  fP : Proofs.Ytcfkhhnkboealaa.fin P = true
  fQ : Proofs.Ytcfkhhnkboealaa.fin Q = true
section
variable {x y x' y' t dx dy k m pm pn qm P Q : Nat} (h : Wv x y x' y' t dx dy k m pm pn qm P Q)
include h
theorem Wv.hx {r : Nat} (hr : Rep r (fsub x x')) : dx = r := h.ex.trans (hr.eq_of (by rw [← h.ex]; exact h.nx)).symm
theorem Wv.hy {r : Nat} (hr : Rep r (fsub y y')) : dy = r := h.ey.trans (hr.eq_of (by rw [← h.ey]; exact h.ny)).symm
theorem Wv.hm {r : Nat} (hr : Rep r (sqF dx dy)) : m = r := h.em.symm.trans (hr.eq_of (by rw [h.em]; exact h.nm)).symm
end
theorem wv_of {x y x' y' t : Nat} (rx : Rep x x) (ry : Rep y y) (rx' : Rep x' x') (ry' : Rep y' y') (rt : Rep t t) (h : wvOk x y x' y' t = true) :
    ∃ dx dy k m pm pn qm, Wv x y x' y' t dx dy k m pm pn qm (wvX x y x' y' t) (wvY x y x' y' t) := by
  unfold wvOk at h
  simp only [Bool.and_eq_true, Bool.not_eq_true'] at h
  obtain ⟨⟨⟨⟨⟨⟨⟨⟨h1, h2⟩, h3⟩, h4⟩, h5⟩, h6⟩, h7⟩, h8⟩, h9⟩ := h
  have c2 : Rep 4618760256179416344 4618760256179416344 := Rep.self (by decide) (by decide +kernel)
  have w0 : World := default
  have self : ∀ {r f : Nat}, Rep r f → isN f = false → Rep f f := fun h k => by rw [h.eq_of k] at h; exact h
  have d1 := self (rx.sub rx' (w := w0)) h1
  have d2 := self (ry.sub ry' (w := w0)) h2
  have d3 := self (rt.quo c2 (w := w0)) h3
  have d4 : Rep (wvM x y x' y') (wvM x y x' y') := self ((d1.mul d1 (w := w0)).add (d2.mul d2 (w := w0)) (w := w0)) h4
  have d6 := self (d2.mul d3 (w := w0)) h6
  have d7 := self (d1.mul d3 (w := w0)) h7
  have n6 : isN (fneg (fmul (fsub y y') (wvK t))) = false := by rw [isN_neg]; exact h6
  have d8 := self d6.neg n6
  refine ⟨_, _, wvK t, wvM x y x' y', fmul (fsub y y') (wvK t), fneg (fmul (fsub y y') (wvK t)), fmul (fsub x x') (wvK t), ⟨d1, rfl, h1, d2, rfl, h2, fun W => (rt.quo c2).eq_of h3, fdr_quo h3, d4, rfl, h4, ?_, fun W => (d2.mul d3).eq_of h6, d6.neg.eq_of n6, fun W => (d8.quo d4).eq_of (fin_notN h8), fun W => (d1.mul d3).eq_of h7, fun W => (d7.quo d4).eq_of (fin_notN h9), ?_, ?_, h8, h9⟩⟩
  · rw [d4.eq' Rep.c0]; exact h5
  · exact self (d8.quo d4 (w := w0)) (fin_notN h8)
  · exact self (d7.quo d4 (w := w0)) (fin_notN h9)
theorem ways2_c (g cap x1 y1 t1 x2 y2 t2 : Nat) (w : World) (hcap : 2 ≤ cap) (hcap2 : cap ≤ 9223372036854775807) (hg : g < w.heap.size)
    (h0 : w.cell? ⟨g, 0, none⟩ = some (.complex .f64 x1 y1)) (h1 : w.cell? ⟨g, 1, none⟩ = some (.float .f64 t1)) (h2 : w.cell? ⟨g, 2, none⟩ = some (.complex .f64 x2 y2)) (h3 : w.cell? ⟨g, 3, none⟩ = some (.float .f64 t2))
    (rx1 : Rep x1 x1) (ry1 : Rep y1 y1) (rt1 : Rep t1 t1) (rx2 : Rep x2 x2) (ry2 : Rep y2 y2) (rt2 : Rep t2 t2) (k12 : wvOk x1 y1 x2 y2 t2 = true) (k21 : wvOk x2 y2 x1 y1 t1 = true) :
    Calls Try.prog 121 #[.slice (some ⟨g, 0, none⟩) 2 cap] w (fun e w' => ∃ g', e = .returned (.tuple #[.slice (some ⟨g', 0, none⟩) 2 2, .int .i64 0]) ∧ w'.cell? ⟨g', 0, none⟩ = some (.complex .f64 (wvX x1 y1 x2 y2 t2) (wvY x1 y1 x2 y2 t2)) ∧ w'.cell? ⟨g', 1, none⟩ = some (.complex .f64 (wvX x2 y2 x1 y1 t1) (wvY x2 y2 x1 y1 t1)) ∧ w.heap.size ≤ g' ∧ g' < w'.heap.size ∧ Grown w w') := by
  have hmk := mk_cplx2
  obtain ⟨dx1, dy1, k1, m1, pm1, pn1, qm1, A⟩ := wv_of rx1 ry1 rx2 ry2 rt2 k12
  obtain ⟨dx2, dy2, k2, m2, pm2, pn2, qm2, B⟩ := wv_of rx2 ry2 rx1 ry1 rt1 k21
  obtain ⟨P1, eP1⟩ : ∃ P, wvX x1 y1 x2 y2 t2 = P := ⟨_, rfl⟩
  obtain ⟨Q1, eQ1⟩ : ∃ P, wvY x1 y1 x2 y2 t2 = P := ⟨_, rfl⟩
  obtain ⟨P2, eP2⟩ : ∃ P, wvX x2 y2 x1 y1 t1 = P := ⟨_, rfl⟩
  obtain ⟨Q2, eQ2⟩ : ∃ P, wvY x2 y2 x1 y1 t1 = P := ⟨_, rfl⟩
  rw [eP1, eQ1] at A ⊢
  rw [eP2, eQ2] at B ⊢
  clear eP1 eQ1 eP2 eQ2 k12 k21
  have HA := Lib.hid A
  have HB := Lib.hid B
  have a1 := A.ek
  have a2 := A.epm
  have a8 := A.ed
  have a3 := A.epn
  have a4 := A.eP
  have a5 := A.eqm
  have a6 := A.eQ
  have a7 := A.z
  have b1 := B.ek
  have b2 := B.epm
  have b8 := B.ed
  have b3 := B.epn
  have b4 := B.eP
  have b5 := B.eqm
  have b6 := B.eQ
  have b7 := B.z
  clear A B
  have hg1 : g < w.heap.size + 1 := by omega
  have hg2 : g < w.heap.size + 1 + 1 := by omega
  have hg3 : g < w.heap.size + 1 + 1 + 1 := by omega
  have hg4 : g < w.heap.size + 1 + 1 + 1 + 1 := by omega
  have hg5 : g < w.heap.size + 1 + 1 + 1 + 1 + 1 := by omega
  have hg6 : g < w.heap.size + 1 + 1 + 1 + 1 + 1 + 1 := by omega
  have hg7 : g < w.heap.size + 1 + 1 + 1 + 1 + 1 + 1 + 1 := by omega
  have hg8 : g < w.heap.size + 1 + 1 + 1 + 1 + 1 + 1 + 1 + 1 := by omega
  have hz1 : w.heap.size < w.heap.size + 1 := by omega
  have hz2 : w.heap.size < w.heap.size + 1 + 1 := by omega
  have hz3 : w.heap.size < w.heap.size + 1 + 1 + 1 := by omega
  have hz4 : w.heap.size < w.heap.size + 1 + 1 + 1 + 1 := by omega
  have hz5 : w.heap.size < w.heap.size + 1 + 1 + 1 + 1 + 1 := by omega
  have hz6 : w.heap.size < w.heap.size + 1 + 1 + 1 + 1 + 1 + 1 := by omega
  have hz7 : w.heap.size < w.heap.size + 1 + 1 + 1 + 1 + 1 + 1 + 1 := by omega
  have hz8 : w.heap.size < w.heap.size + 1 + 1 + 1 + 1 + 1 + 1 + 1 + 1 := by omega
  go_enter Try.func121, Try.ntmps121
  go_wp2_with (first | (go_at_call 130; (with_reducible refine (circle_c _).mono ?_); rintro e w' ⟨n, rfl, rfl⟩))
  repeat (first
    | (refine wp_loop_rounds 5 ?_; rw [rounds_succ]; go_wp2_with (first
      | (go_at_call_of 116 (Value.complex FloatKind.f64 x1 y1); (with_reducible refine (csub_c rx1 ry1 rx2 ry2 _).mono ?_); rintro e w' ⟨r, s, n, rfl, hr, hs, rfl⟩; obtain rfl : dx1 = r := HA.out.hx hr; obtain rfl : dy1 = s := HA.out.hy hs)
      | (go_at_call_of 116 (Value.complex FloatKind.f64 x2 y2); (with_reducible refine (csub_c rx2 ry2 rx1 ry1 _).mono ?_); rintro e w' ⟨r, s, n, rfl, hr, hs, rfl⟩; obtain rfl : dx2 = r := HB.out.hx hr; obtain rfl : dy2 = s := HB.out.hy hs)
      | (go_at_call_of 51 (Value.complex FloatKind.f64 dx1 dy1); (with_reducible refine (square_c (f := dx1) (g := dy1) HA.out.rdx HA.out.rdy _).mono ?_); rintro e w' ⟨r, n, rfl, hr, rfl⟩; obtain rfl : m1 = r := HA.out.hm hr)
      | (go_at_call_of 51 (Value.complex FloatKind.f64 dx2 dy2); (with_reducible refine (square_c (f := dx2) (g := dy2) HB.out.rdx HB.out.rdy _).mono ?_); rintro e w' ⟨r, n, rfl, hr, rfl⟩; obtain rfl : m2 = r := HB.out.hm hr)
      | (go_at_call_of 61 (Value.complex FloatKind.f64 P1 Q1); (with_reducible refine (cfinite_c HA.out.rP HA.out.rQ _).mono ?_); rw [HA.out.fP, HA.out.fQ]; rintro e w' ⟨n, rfl, rfl⟩)
      | (go_at_call_of 61 (Value.complex FloatKind.f64 P2 Q2); (with_reducible refine (cfinite_c HB.out.rP HB.out.rQ _).mono ?_); rw [HB.out.fP, HB.out.fQ]; rintro e w' ⟨n, rfl, rfl⟩)
      | fail))
    | (rw [rounds_succ]; go_wp2_with (first
      | (go_at_call_of 116 (Value.complex FloatKind.f64 x1 y1); (with_reducible refine (csub_c rx1 ry1 rx2 ry2 _).mono ?_); rintro e w' ⟨r, s, n, rfl, hr, hs, rfl⟩; obtain rfl : dx1 = r := HA.out.hx hr; obtain rfl : dy1 = s := HA.out.hy hs)
      | (go_at_call_of 116 (Value.complex FloatKind.f64 x2 y2); (with_reducible refine (csub_c rx2 ry2 rx1 ry1 _).mono ?_); rintro e w' ⟨r, s, n, rfl, hr, hs, rfl⟩; obtain rfl : dx2 = r := HB.out.hx hr; obtain rfl : dy2 = s := HB.out.hy hs)
      | (go_at_call_of 51 (Value.complex FloatKind.f64 dx1 dy1); (with_reducible refine (square_c (f := dx1) (g := dy1) HA.out.rdx HA.out.rdy _).mono ?_); rintro e w' ⟨r, n, rfl, hr, rfl⟩; obtain rfl : m1 = r := HA.out.hm hr)
      | (go_at_call_of 51 (Value.complex FloatKind.f64 dx2 dy2); (with_reducible refine (square_c (f := dx2) (g := dy2) HB.out.rdx HB.out.rdy _).mono ?_); rintro e w' ⟨r, n, rfl, hr, rfl⟩; obtain rfl : m2 = r := HB.out.hm hr)
      | (go_at_call_of 61 (Value.complex FloatKind.f64 P1 Q1); (with_reducible refine (cfinite_c HA.out.rP HA.out.rQ _).mono ?_); rw [HA.out.fP, HA.out.fQ]; rintro e w' ⟨n, rfl, rfl⟩)
      | (go_at_call_of 61 (Value.complex FloatKind.f64 P2 Q2); (with_reducible refine (cfinite_c HB.out.rP HB.out.rQ _).mono ?_); rw [HB.out.fP, HB.out.fQ]; rintro e w' ⟨n, rfl, rfl⟩)
      | fail))
    | (go_quiet (first
      | (go_at_call_of 51 (Value.complex FloatKind.f64 dx1 dy1); exact RetF.quiet2 (square_c HA.out.rdx HA.out.rdy _) HA.out.nm HA.out.em)
      | (go_at_call_of 51 (Value.complex FloatKind.f64 dx2 dy2); exact RetF.quiet2 (square_c HB.out.rdx HB.out.rdy _) HB.out.nm HB.out.em)); go_wp2_with (first
      | (go_at_call_of 116 (Value.complex FloatKind.f64 x1 y1); (with_reducible refine (csub_c rx1 ry1 rx2 ry2 _).mono ?_); rintro e w' ⟨r, s, n, rfl, hr, hs, rfl⟩; obtain rfl : dx1 = r := HA.out.hx hr; obtain rfl : dy1 = s := HA.out.hy hs)
      | (go_at_call_of 116 (Value.complex FloatKind.f64 x2 y2); (with_reducible refine (csub_c rx2 ry2 rx1 ry1 _).mono ?_); rintro e w' ⟨r, s, n, rfl, hr, hs, rfl⟩; obtain rfl : dx2 = r := HB.out.hx hr; obtain rfl : dy2 = s := HB.out.hy hs)
      | (go_at_call_of 51 (Value.complex FloatKind.f64 dx1 dy1); (with_reducible refine (square_c (f := dx1) (g := dy1) HA.out.rdx HA.out.rdy _).mono ?_); rintro e w' ⟨r, n, rfl, hr, rfl⟩; obtain rfl : m1 = r := HA.out.hm hr)
      | (go_at_call_of 51 (Value.complex FloatKind.f64 dx2 dy2); (with_reducible refine (square_c (f := dx2) (g := dy2) HB.out.rdx HB.out.rdy _).mono ?_); rintro e w' ⟨r, n, rfl, hr, rfl⟩; obtain rfl : m2 = r := HB.out.hm hr)
      | (go_at_call_of 61 (Value.complex FloatKind.f64 P1 Q1); (with_reducible refine (cfinite_c HA.out.rP HA.out.rQ _).mono ?_); rw [HA.out.fP, HA.out.fQ]; rintro e w' ⟨n, rfl, rfl⟩)
      | (go_at_call_of 61 (Value.complex FloatKind.f64 P2 Q2); (with_reducible refine (cfinite_c HB.out.rP HB.out.rQ _).mono ?_); rw [HB.out.fP, HB.out.fQ]; rintro e w' ⟨n, rfl, rfl⟩)
      | fail)))
  go_ret2
  refine ⟨_, rfl, ?_, ?_, Nat.le_refl _, ?_, ?_⟩
  · repeat (first | with_reducible exact cu_new rfl | with_reducible refine cu_drewN ?_ | with_reducible refine cu_set (by decide) ?_ | with_reducible refine cu_same ?_ | with_reducible refine cu_alloc ?_ | with_reducible exact hc_new (by decide) | with_reducible refine hc_drewN ?_ | with_reducible refine hc_alloc ?_ | with_reducible refine hc_set ?_)
  · repeat (first | with_reducible exact cu_new rfl | with_reducible refine cu_drewN ?_ | with_reducible refine cu_set (by decide) ?_ | with_reducible refine cu_same ?_ | with_reducible refine cu_alloc ?_ | with_reducible exact hc_new (by decide) | with_reducible refine hc_drewN ?_ | with_reducible refine hc_alloc ?_ | with_reducible refine hc_set ?_)
  · simp <;> omega
  · repeat (first | with_reducible exact Grown.refl _ | with_reducible apply gr_drewN | with_reducible apply Grown.alloc | (with_reducible refine Grown.setCell ?_ (by simp <;> omega) _))
end Go.Proofs.Ytcfkhhnkboealaa
