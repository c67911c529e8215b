/- Half planes bent to polygons: a node of the rule of four. -/
import Derived.Test.YtcfkhhnkboealaaZd
namespace Go.Proofs.Ytcfkhhnkboealaa
open Go.RowKit
set_option linter.unusedVariables false
set_option linter.unusedSimpArgs false
set_option maxRecDepth 100000
set_option maxHeartbeats 4000000
theorem res8 {tmps : Array Value} {W : World} {b : Nat} {v0 v1 v2 v3 v4 v5 v6 v7 : Value} (hp : tmps.getD 0 undef = .pointer (some ⟨b, 0, none⟩)) (h0 : W.cell? ⟨b, 0, none⟩ = some v0) (h1 : W.cell? ⟨b, 1, none⟩ = some v1) (h2 : W.cell? ⟨b, 2, none⟩ = some v2) (h3 : W.cell? ⟨b, 3, none⟩ = some v3) (h4 : W.cell? ⟨b, 4, none⟩ = some v4) (h5 : W.cell? ⟨b, 5, none⟩ = some v5) (h6 : W.cell? ⟨b, 6, none⟩ = some v6) (h7 : W.cell? ⟨b, 7, none⟩ = some v7) :
    (results Try.f164 tmps).run Try.prog W = .ok (.agg #[v0, v1, v2, v3, v4, v5, v6, v7]) W := by
  have l := run_loadVar_mid (P := Try.prog) W b 0 161 [v0, v1, v2, v3, v4, v5, v6, v7] _ (fun j u hj => by
    match j, hj with
    | 0, hj => (simp at hj; subst hj; exact h0)
    | 1, hj => (simp at hj; subst hj; exact h1)
    | 2, hj => (simp at hj; subst hj; exact h2)
    | 3, hj => (simp at hj; subst hj; exact h3)
    | 4, hj => (simp at hj; subst hj; exact h4)
    | 5, hj => (simp at hj; subst hj; exact h5)
    | 6, hj => (simp at hj; subst hj; exact h6)
    | 7, hj => (simp at hj; subst hj; exact h7)) Try.underlying161 rfl (by kernel_rfl)
  have hp' : tmps[0]?.getD undef = .pointer (some ⟨b, 0, none⟩) := by simpa using hp
  have e : Try.f164.results = #[.cell 0 161] := rfl
  simp [results, e, hp', asAddr, l]
theorem rule_c (w : World) : Calls Try.prog 164 #[] w (fun e w' => e = .returned (.agg #[.float .f64 13824800083116702085, .float .f64 4599938015721666155, .float .f64 13818664611150118396, .float .f64 4604049220898137290, .float .f64 4595292574295342588, .float .f64 4604049220898137290, .float .f64 4601428046261926277, .float .f64 4599938015721666155]) ∧ Grown w w') := by
  have P1 : Rep 4605931645889296773 4605931645889296773 := Rep.self (by decide) (by decide +kernel)
  have Q1 : Rep 4599796173922713084 4599796173922713084 := Rep.self (by decide) (by decide +kernel)
  have P2 : Rep 13829303682744072581 13829303682744072581 := Rep.self (by decide) (by decide +kernel)
  have Q2 : Rep 13823168210777488892 13823168210777488892 := Rep.self (by decide) (by decide +kernel)
  have a1 : ∀ W, fres .quo 4605931645889296773 4611686018427387904 W = 4601428046261926277 := fun W => ((P1.quo Rep.two).eq_of (by decide +kernel)).trans (by decide +kernel)
  have a2 : ∀ W, fres .quo 4599796173922713084 4611686018427387904 W = 4595292574295342588 := fun W => ((Q1.quo Rep.two).eq_of (by decide +kernel)).trans (by decide +kernel)
  have a3 : ∀ W, fres .quo 13829303682744072581 4611686018427387904 W = 13824800083116702085 := fun W => ((P2.quo Rep.two).eq_of (by decide +kernel)).trans (by decide +kernel)
  have a4 : ∀ W, fres .quo 13823168210777488892 4611686018427387904 W = 13818664611150118396 := fun W => ((Q2.quo Rep.two).eq_of (by decide +kernel)).trans (by decide +kernel)
  have b1 : fdr .quo 4605931645889296773 4611686018427387904 = 0 := fdr_quo (by decide +kernel)
  have b2 : fdr .quo 4599796173922713084 4611686018427387904 = 0 := fdr_quo (by decide +kernel)
  have b3 : fdr .quo 13829303682744072581 4611686018427387904 = 0 := fdr_quo (by decide +kernel)
  have b4 : fdr .quo 13823168210777488892 4611686018427387904 = 0 := fdr_quo (by decide +kernel)
  clear P1 Q1 P2 Q2
  go_enter Try.func164, Try.ntmps164
  go_wp2
  have n0 : ∀ i, i < 8 → HasCell ((w.alloc (.cells #[.float .f64 0, .float .f64 0, .float .f64 0, .float .f64 0, .float .f64 0, .float .f64 0, .float .f64 0, .float .f64 0] 161)).drewN 0) ⟨w.heap.size, i, none⟩ := fun i hi => hc_drewN (hc_new hi)
  refine bodyPost_ret (res8 rfl ?_ ?_ ?_ ?_ ?_ ?_ ?_ ?_) rfl ⟨rfl, ?_⟩
  case refine_9 => repeat (first | with_reducible exact Grown.refl _ | with_reducible apply gr_drewN | with_reducible apply Grown.alloc | (with_reducible refine Grown.setCell ?_ (by simp <;> omega) _))
  all_goals repeat (first | with_reducible refine cu_set (by decide) ?_ | (with_reducible refine cu_same ?_) | with_reducible refine hc_set ?_ | exact n0 _ (by decide))
/-- a node's part: at the place m + t h, times the weight u. -/
def nodeP (fs gs : List Nat) (mx my hx hy t u k : Nat) : Nat × Nat :=
  (fmul (slopeP fs gs (fadd mx (fmul t hx)) (fabs (fadd my (fmul t hy))) k).1 u, fmul (slopeP fs gs (fadd mx (fmul t hx)) (fabs (fadd my (fmul t hy))) k).2 u)
theorem node_c {w : World} {b cap n b2 c2 ba bg bm bh mx my hx hy t u fmx fmy fhx fhy ft fu : Nat} {xs fs ys gs : List Nat} (h : FW w b cap xs fs) (hn : xs.length = n) (k : FW w b2 c2 ys gs) (kn : ys.length = n) (h1 : 3 ≤ n)
    (ca : w.cell? ⟨ba, 0, none⟩ = some (.slice (some ⟨b, 0, none⟩) n cap)) (cg : w.cell? ⟨bg, 0, none⟩ = some (.slice (some ⟨b2, 0, none⟩) n c2)) (cm : w.cell? ⟨bm, 0, none⟩ = some (.complex .f64 mx my)) (ch : w.cell? ⟨bh, 0, none⟩ = some (.complex .f64 hx hy))
    (rmx : Rep mx fmx) (rmy : Rep my fmy) (rhx : Rep hx fhx) (rhy : Rep hy fhy) (rt : Rep t ft) (ru : Rep u fu) (num : numP fs gs (fadd fmx (fmul ft fhx)) = true) :
    Calls Try.prog 166 #[.agg #[.float .f64 t, .float .f64 u], .pointer (some ⟨ba, 0, none⟩), .pointer (some ⟨bg, 0, none⟩), .pointer (some ⟨bm, 0, none⟩), .pointer (some ⟨bh, 0, none⟩)] w (RetCG (nodeP fs gs fmx fmy fhx fhy ft fu (n - 1)).1 (nodeP fs gs fmx fmy fhx fhy ft fu (n - 1)).2 w) := by
  have H := Lib.hid h
  have K := Lib.hid k
  have la : ba < w.heap.size := World.block_lt_of_cell? w _ ca
  have lg : bg < w.heap.size := World.block_lt_of_cell? w _ cg
  have lm : bm < w.heap.size := World.block_lt_of_cell? w _ cm
  have lh : bh < w.heap.size := World.block_lt_of_cell? w _ ch
  have NUM := Lib.hid num
  clear h k num
  go_enter Try.func166, Try.ntmps166
  go_upto_region 1 with fail
  obtain ⟨W, eW⟩ : ∃ W, w.alloc (.cells #[.float .f64 t, .float .f64 u] 160) = W := ⟨_, rfl⟩
  have GW : RowKit.Hid (Grown w W) := Lib.hid (by rw [← eW]; exact (Grown.refl w).alloc _ _)
  obtain ⟨bn, en⟩ : ∃ m, w.heap.size = m := ⟨_, rfl⟩
  have k0 : W.cell? ⟨bn, 0, none⟩ = some (.float .f64 t) := by rw [← eW, ← en]; exact cu_new rfl
  have k1 : W.cell? ⟨bn, 1, none⟩ = some (.float .f64 u) := by rw [← eW, ← en]; exact cu_new rfl
  have ln : bn < W.heap.size := World.block_lt_of_cell? W _ k0
  have ca1 : W.cell? ⟨ba, 0, none⟩ = _ := (grown_cell GW.out la).trans ca
  have cg1 : W.cell? ⟨bg, 0, none⟩ = _ := (grown_cell GW.out lg).trans cg
  have cm1 : W.cell? ⟨bm, 0, none⟩ = _ := (grown_cell GW.out lm).trans cm
  have ch1 : W.cell? ⟨bh, 0, none⟩ = _ := (grown_cell GW.out lh).trans ch
  have la1 := Nat.lt_of_lt_of_le la GW.out.2.2
  have lg1 := Nat.lt_of_lt_of_le lg GW.out.2.2
  have lm1 := Nat.lt_of_lt_of_le lm GW.out.2.2
  have lh1 := Nat.lt_of_lt_of_le lh GW.out.2.2
  have H1 := Lib.hid (H.out.up (GrW.of GW.out))
  have K1 := Lib.hid (K.out.up (GrW.of GW.out))
  clear ca cg cm ch la lg lm lh H K
  rw [eW, en]
  clear eW en
  go_region_held3 (fun w' => w'.cell? ⟨bn, 0, none⟩ = some (.float .f64 t) ∧ w'.cell? ⟨bn, 1, none⟩ = some (.float .f64 u) ∧ w'.cell? ⟨ba, 0, none⟩ = some (.slice (some ⟨b, 0, none⟩) n cap) ∧ w'.cell? ⟨bg, 0, none⟩ = some (.slice (some ⟨b2, 0, none⟩) n c2) ∧ w'.cell? ⟨bm, 0, none⟩ = some (.complex .f64 mx my) ∧ w'.cell? ⟨bh, 0, none⟩ = some (.complex .f64 hx hy)) (first | exact ⟨by assumption, by assumption, by assumption, by assumption, by assumption, by assumption⟩ | go_keep) (first
    | (go_at_call 165; go_loud ((with_reducible refine (along_c rmx rmy rhx rhy rt _).mono ?_); rintro e w' ⟨zx, zy, n1, rfl, hzx, hzy, rfl⟩))
    | (go_at_call 136; go_loud ((with_reducible refine (slope_c (H1.out.up ((GrW.refl W).drewN _)) hn (K1.out.up ((GrW.refl W).drewN _)) kn h1 hzx hzy NUM.out).mono ?_); rintro e W2 ⟨p, q, rfl, hp, hq, g2⟩; have G2 := Lib.hid (gr_trans (gr_drewN _ GW.out) g2); have HP := Lib.hid (And.intro hp hq); have j0 : W2.cell? ⟨bn, 0, none⟩ = _ := (grown_cell g2 ln).trans k0; have j1 : W2.cell? ⟨bn, 1, none⟩ = _ := (grown_cell g2 ln).trans k1; have j2 : W2.cell? ⟨ba, 0, none⟩ = _ := (grown_cell g2 la1).trans ca1; have j3 : W2.cell? ⟨bg, 0, none⟩ = _ := (grown_cell g2 lg1).trans cg1; have j4 : W2.cell? ⟨bm, 0, none⟩ = _ := (grown_cell g2 lm1).trans cm1; have j5 : W2.cell? ⟨bh, 0, none⟩ = _ := (grown_cell g2 lh1).trans ch1; clear g2 hp hq))
    | (go_at_call 48; go_loud ((with_reducible refine (cscale_c HP.out.1 HP.out.2 ru _).mono ?_); rintro e w' ⟨p2, q2, n2, rfl, hp2, hq2, rfl⟩))
    | fail)
  all_goals go_wp2_with fail
  all_goals go_ret
  all_goals exact ⟨_, _, rfl, hp2, hq2, gr_drewN _ G2.out⟩
end Go.Proofs.Ytcfkhhnkboealaa
