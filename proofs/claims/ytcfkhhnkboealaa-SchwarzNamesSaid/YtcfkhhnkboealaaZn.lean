/- Half planes bent to polygons: the law's first examples. -/
import Derived.Test.YtcfkhhnkboealaaZm
namespace Go.Proofs.Ytcfkhhnkboealaa
open Go.RowKit
set_option linter.unusedVariables false
set_option linter.unusedSimpArgs false
set_option maxRecDepth 100000
set_option maxHeartbeats 4000000
theorem fit12 (W : World) : Calls Try.prog 139 #[.complex .f64 4607182418800017408 0, .float .f64 4611686018427387904] W (RetI .i64 0 W) := fitOk_c sO Rep.c0 sT W (by decide +kernel) (by decide +kernel) (by decide +kernel)
theorem fit02 (W : World) : Calls Try.prog 139 #[.complex .f64 0 0, .float .f64 4611686018427387904] W (RetI .i64 0 W) := fitOk_c Rep.c0 Rep.c0 sT W (by decide +kernel) (by decide +kernel) (by decide +kernel)
theorem strip12_c (w : World) : Calls Try.prog 83 #[.complex .f64 4607182418800017408 0, .float .f64 4611686018427387904] w (RetCE 0 0 0 w) :=
  stripOk_c sO Rep.c0 sT w fit12 (by decide +kernel) (by decide +kernel) (p := 0) (q := 0) (u := 4603909380684499075) (by decide +kernel) (by decide +kernel) (by decide +kernel) (by decide +kernel) (by decide +kernel) (by decide +kernel) (by decide +kernel)
theorem back02_c (w : World) : Calls Try.prog 85 #[.complex .f64 0 0, .float .f64 4611686018427387904] w (RetCEG 4607182418800017408 0 0 w) :=
  backOk_c Rep.c0 Rep.c0 sT w fit02 (by decide +kernel) (by decide +kernel) (p := 0) (q := 0) (u := 4609753056924675352) (by decide +kernel) (by decide +kernel) (by decide +kernel) (by decide +kernel) (by decide +kernel) (by decide +kernel)
theorem RetF.quiet1 {P : Program} {f : FuncId} {args : Array Value} {w : World} {n F m : Nat} (h : Calls P f args (w.drewN n) (RetF F (w.drewN n))) (hn : isN m = false) (e : F = m) :
    Calls P f args (w.drewN n) fun e w'' => e = .returned (.float .f64 m) ∧ ∃ k, w'' = w.drewN k :=
  h.mono fun _ _ ⟨r, k, he, hr, hw⟩ => ⟨by rw [he, hr.eq_of (by rw [e]; exact hn), e], n + k, by rw [hw, World.drewN_drewN]⟩
theorem corn_cells {W : World} {o : Nat} (R : RowC W o 4 4 (crn sqX) (crn sqY)) : W.cell? ⟨o, 0, none⟩ = some (.complex .f64 0 0) ∧ W.cell? ⟨o, 1, none⟩ = some (.complex .f64 13597742194483763538 4609784505740040908) ∧ W.cell? ⟨o, 2, none⟩ = some (.complex .f64 13835102255934011388 4609784505740040907) := by
  obtain ⟨r0, s0, c0, p0, q0⟩ := R.done 0 (by decide)
  obtain ⟨r1, s1, c1, p1, q1⟩ := R.done 1 (by decide)
  obtain ⟨r2, s2, c2, p2, q2⟩ := R.done 2 (by decide)
  rw [sqCrn.1] at p1
  rw [sqCrn.2.1] at q1
  rw [sqCrn.2.2.1] at p2
  rw [sqCrn.2.2.2] at q2
  rw [crn] at p0 q0
  obtain rfl := p0.eq_of (by decide +kernel)
  obtain rfl := q0.eq_of (by decide +kernel)
  obtain rfl := p1.eq_of (by decide +kernel)
  obtain rfl := q1.eq_of (by decide +kernel)
  obtain rfl := p2.eq_of (by decide +kernel)
  obtain rfl := q2.eq_of (by decide +kernel)
  exact ⟨c0, c1, c2⟩
theorem alive19_c (w : World) : Calls Try.prog 86 #[] w (fun e w' => e = .returned (.bool true) ∧ GrW w w') := by
  have o0 : (FloatKind.f64.format.order 0 0 == some .eq) = true := by decide +kernel
  have o1 : (FloatKind.f64.format.order 13597742194483763538 0 == some .eq) = false := by decide +kernel
  have o2 : (FloatKind.f64.format.order 4607182418800017408 4607182418800017408 == some .eq) = true := by decide +kernel
  have cs : ∀ W, (binOp .sub 60 (.complex .f64 13835102255934011388 4609784505740040907) (.complex .f64 13597742194483763538 4609784505740040908)).run Try.prog W = .ok (.complex .f64 13835102255934011387 13596367275031527424) W := fun W => run_complex_sum W .sub (Or.inr rfl) _ .f64 _ _ _ _ _ _ (by decide +kernel)
  have x1 : Rep 13596367275031527424 13596367275031527424 := Rep.self (by decide) (by decide +kernel)
  have x2 : Rep 4609784505740040908 4609784505740040908 := Rep.self (by decide) (by decide +kernel)
  have x3 : Rep 13835102255934011387 13835102255934011387 := Rep.self (by decide) (by decide +kernel)
  have x4 : Rep 13597742194483763538 13597742194483763538 := Rep.self (by decide) (by decide +kernel)
  have x5 : Rep 13598969361971550924 13598969361971550924 := Rep.self (by decide) (by decide +kernel)
  have x6 : Rep 4378931452077549362 4378931452077549362 := Rep.self (by decide) (by decide +kernel)
  have x7 : Rep 4373258379783582616 4373258379783582616 := Rep.self (by decide) (by decide +kernel)
  have x8 : Rep 4472074429978902528 4472074429978902528 := Rep.self (by decide) (by decide +kernel)
  have m1 : ∀ W, fres .mul 13596367275031527424 4609784505740040908 W = 13598969361971550924 := fun W => ((x1.mul x2).eq_of (by decide +kernel)).trans (by decide +kernel)
  have m2 : ∀ W, fres .mul 13835102255934011387 13597742194483763538 W = 4378931452077549362 := fun W => ((x3.mul x4).eq_of (by decide +kernel)).trans (by decide +kernel)
  have m3 : ∀ W, fres .add 13598969361971550924 4378931452077549362 W = 4373258379783582616 := fun W => ((x5.add x6).eq_of (by decide +kernel)).trans (by decide +kernel)
  have d1 : fdr .mul 13596367275031527424 4609784505740040908 = 0 := fdr_mul (by decide +kernel)
  have d2 : fdr .mul 13835102255934011387 13597742194483763538 = 0 := fdr_mul (by decide +kernel)
  have d3 : fdr .add 13598969361971550924 4378931452077549362 = 0 := fdr_add (by decide +kernel)
  go_enter Try.func86, Try.ntmps86
  go_upto_region 4 with (first
    | (go_at_call 140; (with_reducible refine (square19_c _).mono ?_); rintro e w1 ⟨g, h, rfl, H, K, g1⟩; have HK := Lib.hid (And.intro H (And.intro K g1)); clear H K g1)
    | (go_at_call 82; (with_reducible refine (corn4_c HK.out.1 HK.out.2.1).mono ?_); rintro e w2 ⟨o, rfl, R, g2⟩; have GR := Lib.hid (And.intro R (HK.out.2.2.trans g2)); clear R g2)
    | (go_at_call 83; (with_reducible refine (strip12_c _).mono ?_); rintro e w3 ⟨d, rfl, hw3⟩; have GS := Lib.hid (show GrW w2 w3 by rw [hw3]; exact (GrW.refl _).drewN _); clear hw3)
    | fail)
  go_upto_region 5 with (first
    | (go_at_call 85; go_loud ((with_reducible refine (back02_c _).mono ?_); rintro e w4 ⟨rfl, g4⟩; have GB := Lib.hid (GR.out.2.trans (GS.out.trans g4)); obtain ⟨c0, c1, c2⟩ := corn_cells (GR.out.1.up (GS.out.trans g4)); clear g4 GS HK))
    | fail)
  have ql : (FloatKind.f64.format.order 4373258379783582616 4472074429978902528 == some .lt) = true := by decide +kernel
  go_quiet (first
    | (go_at_call 23; exact RetF.quiet1 (abs_c x7 _) (by decide +kernel) (show fabs 4373258379783582616 = 4373258379783582616 by decide +kernel)))
  go_wp2_with fail
  go_ret
  exact ⟨rfl, GB.out.drewN _⟩
end Go.Proofs.Ytcfkhhnkboealaa
