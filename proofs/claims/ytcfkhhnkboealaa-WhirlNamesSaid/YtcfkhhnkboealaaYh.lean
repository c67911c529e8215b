/- Whirls: centre, spread. -/
import Derived.Test.YtcfkhhnkboealaaYg
namespace Go.Proofs.Ytcfkhhnkboealaa
open Go.RowKit
set_option linter.unusedVariables false
set_option linter.unusedSimpArgs false
set_option maxRecDepth 100000
set_option maxHeartbeats 4000000
theorem centre2_c {g cap x y t x' y' t' T u v u' v' p q C D : Nat} {w : World} (h : W2 w g cap x y t x' y' t') (rx : Rep x x) (ry : Rep y y) (rt : Rep t t) (rx' : Rep x' x') (ry' : Rep y' y') (rt' : Rep t' t') (ok : whOk x y t = true) (ok' : whOk x' y' t' = true) (e : fadd t t' = T) (hn : isN T = false) (rT : Rep T T) (hz : feq T 0 = false)
    (e1 : fmul x t = u) (e2 : fmul y t = v) (e3 : fmul x' t' = u') (e4 : fmul y' t' = v') (n1 : isN u = false) (n2 : isN v = false) (n3 : isN u' = false) (n4 : isN v' = false)
    (e5 : fadd u u' = p) (e6 : fadd v v' = q) (n5 : isN p = false) (n6 : isN q = false) (e7 : fdiv p T = C) (e8 : fdiv q T = D) (f7 : Proofs.Ytcfkhhnkboealaa.fin C = true) (f8 : Proofs.Ytcfkhhnkboealaa.fin D = true) :
    Calls Try.prog 70 #[.slice (some ⟨g, 0, none⟩) 2 cap] w (fun e w' => e = .returned (.tuple #[.complex .f64 C D, .bool true, .int .i64 0]) ∧ Grown w w') := by
  have w00 : World := default
  have ru : Rep u u := by have := self_of (rx.mul rt (w := w00)) (by rw [e1]; exact n1); rwa [e1] at this
  have rv : Rep v v := by have := self_of (ry.mul rt (w := w00)) (by rw [e2]; exact n2); rwa [e2] at this
  have ru' : Rep u' u' := by have := self_of (rx'.mul rt' (w := w00)) (by rw [e3]; exact n3); rwa [e3] at this
  have rv' : Rep v' v' := by have := self_of (ry'.mul rt' (w := w00)) (by rw [e4]; exact n4); rwa [e4] at this
  have rp : Rep p p := by have := self_of (ru.add ru' (w := w00)) (by rw [e5]; exact n5); rwa [e5] at this
  have rq : Rep q q := by have := self_of (rv.add rv' (w := w00)) (by rw [e6]; exact n6); rwa [e6] at this
  have rC : Rep C C := by have := self_of (rp.quo rT (w := w00)) (by rw [e7]; exact fin_notN f7); rwa [e7] at this
  have rD : Rep D D := by have := self_of (rq.quo rT (w := w00)) (by rw [e8]; exact fin_notN f8); rwa [e8] at this
  have q7 : ∀ W, fres .quo p T W = C := fun W => ((rp.quo rT).eq_of (by rw [e7]; exact fin_notN f7)).trans e7
  have q8 : ∀ W, fres .quo q T W = D := fun W => ((rq.quo rT).eq_of (by rw [e8]; exact fin_notN f8)).trans e8
  have d7 : fdr .quo p T = 0 := fdr_quo (by rw [e7]; exact fin_notN f7)
  have d8 : fdr .quo q T = 0 := fdr_quo (by rw [e8]; exact fin_notN f8)
  have hmk := mk_cplx2
  have HC := Lib.hid (check2_c h rx ry rt rx' ry' rt' ok ok')
  have HH := Lib.hid h
  have qz := rT.eq' Rep.c0
  rw [hz] at qz
  have hcap := h.lc
  have hc1 : (0 : Int) < (cap : Int) := by omega
  have hc2 : (1 : Int) < (cap : Int) := by omega
  clear h
  go_enter Try.func70, Try.ntmps70
  go_upto_region 7 with (first
    | (go_at_call 78; (with_reducible refine HC.out.mono ?_); rintro e w1 ⟨rfl, g1⟩; have G1 := Lib.hid g1; have H1 := Lib.hid (HH.out.up (GrW.of g1)); clear g1)
    | (go_at_call 126; (with_reducible refine (total2_c H1.out rt rt' e hn).mono ?_); rintro e w2 ⟨rfl, g2⟩; have G2 := Lib.hid (gr_trans G1.out g2); have H2 := Lib.hid (H1.out.up (GrW.of g2)); clear g2)
    | fail)
  have h0 := H2.out.c0
  have h1 := H2.out.c1
  have h2 := H2.out.c2
  have h3 := H2.out.c3
  have hg := H2.out.lt
  have hg1 : g < w2.heap.size + 1 := by omega
  have hg2 : g < w2.heap.size + 1 + 1 := by omega
  have hg3 : g < w2.heap.size + 1 + 1 + 1 := by omega
  have hz1 : w2.heap.size < w2.heap.size + 1 := by omega
  have hz2 : w2.heap.size < w2.heap.size + 1 + 1 := by omega
  have hz3 : w2.heap.size < w2.heap.size + 1 + 1 + 1 := by omega
  go_wp2_with (fail)
  refine wp_loop_rounds 4 ?_
  repeat (rw [rounds_succ]; go_wp2_with (first
    | (go_at_call_of 48 (Value.complex FloatKind.f64 x y); (with_reducible refine (cscaleS_c rx ry rt _ (by rw [e1]; exact n1) (by rw [e2]; exact n2)).mono ?_); rw [e1, e2]; rintro e wa ⟨rfl, rfl⟩)
    | (go_at_call_of 48 (Value.complex FloatKind.f64 x' y'); (with_reducible refine (cscaleS_c rx' ry' rt' _ (by rw [e3]; exact n3) (by rw [e4]; exact n4)).mono ?_); rw [e3, e4]; rintro e wa ⟨rfl, rfl⟩)
    | fail))
  go_wp2_with (first
    | (go_at_call 127; go_loud ((with_reducible refine (psum2_c (a := u) (b := v) (c := u') (d := v') (by simp <;> omega) (by repeat (first | with_reducible exact cu_new rfl | with_reducible refine cu_drewN ?_ | with_reducible refine cu_set (by decide) ?_ | with_reducible refine cu_same ?_ | with_reducible refine cu_alloc ?_ | with_reducible exact hc_new (by decide) | with_reducible refine hc_drewN ?_ | with_reducible refine hc_alloc ?_ | with_reducible refine hc_set ?_)) (by repeat (first | with_reducible exact cu_new rfl | with_reducible refine cu_drewN ?_ | with_reducible refine cu_set (by decide) ?_ | with_reducible refine cu_same ?_ | with_reducible refine cu_alloc ?_ | with_reducible exact hc_new (by decide) | with_reducible refine hc_drewN ?_ | with_reducible refine hc_alloc ?_ | with_reducible refine hc_set ?_)) ru rv ru' rv' e5 e6 n5 n6).mono ?_); rintro e wb ⟨rfl, rfl⟩))
    | (go_at_call 61; (with_reducible refine (cfinite_c rC rD _).mono ?_); rw [f7, f8]; rintro e wb ⟨n, rfl, rfl⟩)
    | fail)
  go_ret3
  refine ⟨rfl, gr_trans G2.out ?_⟩
  repeat (first | with_reducible exact Grown.refl _ | with_reducible apply gr_drewN | with_reducible apply Grown.alloc | (with_reducible refine Grown.setCell ?_ (by simp <;> omega) _))
theorem wsum2_c {g a b s z V : Nat} {cap : Nat} {w : World} (hcap : 2 ≤ cap) (htop : cap ≤ 9223372036854775807) (h0 : w.cell? ⟨g, 0, none⟩ = some (.float .f64 a)) (h1 : w.cell? ⟨g, 1, none⟩ = some (.float .f64 b)) (ra : Rep a a) (rb : Rep b b) (rz : Rep z z) (e1 : fadd a b = s) (n1 : isN s = false) (e2 : fdiv s z = V) (f2 : Proofs.Ytcfkhhnkboealaa.fin V = true) :
    Calls Try.prog 128 #[.slice (some ⟨g, 0, none⟩) 2 cap, .float .f64 z] w (fun e w' => e = .returned (.tuple #[.float .f64 V, .int .i64 0]) ∧ Grown w w') := by
  have w00 : World := default
  have rs : Rep s s := by have := self_of (ra.add rb (w := w00)) (by rw [e1]; exact n1); rwa [e1] at this
  have rV : Rep V V := by have := self_of (rs.quo rz (w := w00)) (by rw [e2]; exact fin_notN f2); rwa [e2] at this
  have q2 : ∀ W, fres .quo s z W = V := fun W => ((rs.quo rz).eq_of (by rw [e2]; exact fin_notN f2)).trans e2
  go_enter Try.func128, Try.ntmps128
  go_wp2_with (first
    | (go_at_call 12; go_loud ((with_reducible refine (sumR_c g 2 cap (fun j => if j = 0 then a else b) _ hcap htop (fun j hj => by { rcases (show j = 0 ∨ j = 1 by omega) with rfl | rfl; simpa using ra.lt; simpa using rb.lt }) (fun j hj => by { rcases (show j = 0 ∨ j = 1 by omega) with rfl | rfl; simpa using h0; simpa using h1 })).mono ?_); rintro e w' ⟨r, n, rfl, hr, rfl⟩; rw [show ((List.range 2).map fun j => nrm (if j = 0 then a else b)) = [nrm a, nrm b] from rfl, ra.eq, rb.eq, show sumF [a, b] = fadd a b from rfl, e1] at hr; obtain rfl : s = r := (hr.eq_of n1).symm))
    | (go_at_call 88; (with_reducible refine (finite_c rV _).mono ?_); rw [f2]; rintro e w' ⟨n, rfl, rfl⟩)
    | fail)
  go_ret2
  exact ⟨rfl, by repeat (first | with_reducible exact Grown.refl _ | with_reducible apply gr_drewN)⟩
end Go.Proofs.Ytcfkhhnkboealaa
