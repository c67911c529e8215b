/- Whirls: what the document's examples say. -/
import Derived.Test.YtcfkhhnkboealaaYn
namespace Go.Proofs.Ytcfkhhnkboealaa
open Go.RowKit
set_option linter.unusedVariables false
set_option linter.unusedSimpArgs false
set_option maxRecDepth 100000
set_option maxHeartbeats 4000000
theorem list2_new (w : World) (x y t x' y' t' : Nat) (T : TypeId) : W2 (w.alloc (.cells #[.complex .f64 x y, .float .f64 t, .complex .f64 x' y', .float .f64 t'] T)) w.heap.size 2 x y t x' y' t' :=
  ⟨by simp, by decide, by decide, cu_new rfl, cu_new rfl, cu_new rfl, cu_new rfl⟩
theorem list1_new (w : World) (x y t : Nat) (T : TypeId) : W1 (w.alloc (.cells #[.complex .f64 x y, .float .f64 t] T)) w.heap.size 1 x y t :=
  ⟨by simp, by decide, by decide, cu_new rfl, cu_new rfl⟩
theorem a28p_c (x y : Nat) (w : World) : Calls Try.prog 63 #[.float .f64 x, .float .f64 y, .float .f64 4607182418800017408] w (fun e w' => e = .returned (.agg #[.complex .f64 x y, .float .f64 4618760256179416344]) ∧ Grown w w') := a28_c w Rep.cone (by decide +kernel) (by decide +kernel)
theorem a28n_c (x y : Nat) (w : World) : Calls Try.prog 63 #[.float .f64 x, .float .f64 y, .float .f64 13830554455654793216] w (fun e w' => e = .returned (.agg #[.complex .f64 x y, .float .f64 13842132293034192152]) ∧ Grown w w') := a28_c w (Rep.lit6 (by decide) (by decide +kernel)) (by decide +kernel) (by decide +kernel)
theorem l6 {f : Nat} (h : f < 18446744073709551616) (hn : isN f = false) : Rep f f := Rep.lit6 h hn
theorem waysv_c {g cap : Nat} {w : World} (h : W2 w g cap 4607182418800017408 0 4618760256179416344 13830554455654793216 0 4618760256179416344) : Calls Try.prog 64 #[.slice (some ⟨g, 0, none⟩) 2 cap] w (RetW2 9223372036854775808 4602678819172646912 9223372036854775808 13826050856027422720 w) := by
  have k := Ways2_c h (Rep.lit6 (by decide) (by decide +kernel)) (Rep.lit6 (by decide) (by decide +kernel)) (Rep.lit6 (by decide) (by decide +kernel)) (Rep.lit6 (by decide) (by decide +kernel)) (Rep.lit6 (by decide) (by decide +kernel)) (Rep.lit6 (by decide) (by decide +kernel)) (by decide +kernel) (by decide +kernel) (by decide +kernel) (by decide +kernel)
  rw [show wvX 4607182418800017408 0 13830554455654793216 0 4618760256179416344 = 9223372036854775808 by decide +kernel, show wvY 4607182418800017408 0 13830554455654793216 0 4618760256179416344 = 4602678819172646912 by decide +kernel, show wvX 13830554455654793216 0 4607182418800017408 0 4618760256179416344 = 9223372036854775808 by decide +kernel, show wvY 13830554455654793216 0 4607182418800017408 0 4618760256179416344 = 13826050856027422720 by decide +kernel] at k
  exact k
theorem alive28_c (w : World) : Calls Try.prog 77 #[] w (fun e w' => e = .returned (.bool true) ∧ GrW w w') := by
  have hfd : ∀ w : World, (Instr.field 82 (.agg #[.complex .f64 0 0, .float .f64 4618760256179416344]) 1).run Try.prog w = .ok (.float .f64 4618760256179416344) w := fun _ => by kernel_rfl
  have o1 : (FloatKind.f64.format.order 9223372036854775808 0 == some .eq) = true := by decide +kernel
  have o2 : (FloatKind.f64.format.order 4602678819172646912 4602678819172646912 == some .eq) = true := by decide +kernel
  have o3 : (FloatKind.f64.format.order 9223372036854775808 0 == some .eq) = true := by decide +kernel
  have o4 : (FloatKind.f64.format.order 13826050856027422720 13826050856027422720 == some .eq) = true := by decide +kernel
  have o5 : (FloatKind.f64.format.order 4598081683437013084 4596373779694328218 == some .gt) = true := by decide +kernel
  have o6 : (FloatKind.f64.format.order 13821453720291788892 13819745816549104026 == some .lt) = true := by decide +kernel
  have o7 : (FloatKind.f64.format.order 4618760256179416344 4618760256179416344 == some .eq) = true := by decide +kernel
  go_enter Try.func77, Try.ntmps77
  go_wp2_with (first
    | (go_at_call 63; go_loud ((with_reducible refine (a28p_c _ _ _).mono ?_); rintro e w1 ⟨rfl, g1⟩; first | (have GA := Lib.hid (GA.out.trans (GrW.of g1)); clear g1) | (have GA := Lib.hid (GrW.of g1); clear g1)))
    | (go_at_call 65; (with_reducible refine (list28_c _ _ _ _).mono ?_); rintro e w2 ⟨rfl, hw2⟩; subst hw2)
    | fail)
  go_at_call 64; refine (waysv_c (list2_new _ _ _ _ _ _ _ _)).mono ?_
  rintro e W ⟨v, rfl, hv0, hv1, gv, gv2, GV⟩
  have GB := Lib.hid ((GA.out.alloc _).trans (GrW.of GV))
  have vlo : w.heap.size ≤ v := Nat.le_trans GA.out.size (by simp at gv; omega)
  clear GA GV gv
  go_wp2_with (first
    | (go_at_call 63; go_loud ((with_reducible refine (a28p_c _ _ _).mono ?_); rintro e w1 ⟨rfl, g1⟩; first | (have GA := Lib.hid (GA.out.trans (GrW.of g1)); clear g1) | (have GA := Lib.hid (GrW.of g1); clear g1)))
    | (go_at_call 65; (with_reducible refine (list28_c _ _ _ _).mono ?_); rintro e w2 ⟨rfl, hw2⟩; subst hw2)
    | fail)
  go_at_call 68; refine (run4_c (list2_new _ _ _ _ _ _ _ _)).mono ?_
  rintro e W3 ⟨g, c, rfl, H3, glo, G3⟩
  have GC := Lib.hid ((GA.out.alloc _).trans G3)
  have u0 := (GC.out.cell (a := ⟨v, 0, none⟩) gv2).trans hv0
  have u1 := (GC.out.cell (a := ⟨v, 1, none⟩) gv2).trans hv1
  have GD := Lib.hid (GB.out.trans GC.out)
  have q0 := H3.c0
  have q1 := H3.c1
  have q2 := H3.c2
  have q3 := H3.c3
  have top := H3.top
  have lc := H3.lc
  clear GA GB G3 hv0 hv1
  have gv3 := Nat.lt_of_lt_of_le gv2 GC.out.size
  have gg := H3.lt
  have u0' := u0
  have u1' := u1
  have q0' := q0
  have q1' := q1
  have q2' := q2
  clear GC H3
  go_upto_region 6 with fail
  go_region_held3 (fun w' => w'.cell? ⟨v, 0, none⟩ = some (.complex .f64 9223372036854775808 4602678819172646912) ∧ w'.cell? ⟨v, 1, none⟩ = some (.complex .f64 9223372036854775808 13826050856027422720) ∧ w'.cell? ⟨g, 0, none⟩ = some (.complex .f64 4606902407043659015 4598081683437013084) ∧ w'.cell? ⟨g, 2, none⟩ = some (.complex .f64 13830274443898434823 13821453720291788892) ∧ w'.cell? ⟨g, 1, none⟩ = some (.float .f64 4618760256179416344)) (first | exact ⟨by assumption, by assumption, by assumption, by assumption, by assumption⟩ | go_keep) (first
    | (go_at_call 63; (with_reducible refine (a28p_c _ _ _).mono ?_); rintro e w4 ⟨rfl, g1⟩; have GE := Lib.hid (gr_trans (gr_drew1 (Grown.refl W3)) g1); have u0 := (((GrW.of GE.out).cell (a := ⟨v, 0, none⟩) gv3).trans u0'); have u1 := (((GrW.of GE.out).cell (a := ⟨v, 1, none⟩) gv3).trans u1'); have q0 := (((GrW.of GE.out).cell (a := ⟨g, 0, none⟩) gg).trans q0'); have q1 := (((GrW.of GE.out).cell (a := ⟨g, 1, none⟩) gg).trans q1'); have q2 := (((GrW.of GE.out).cell (a := ⟨g, 2, none⟩) gg).trans q2'))
    | fail)
  go_wp2_with fail
  go_ret
  exact ⟨rfl, GD.out.trans (GrW.of GE.out)⟩
end Go.Proofs.Ytcfkhhnkboealaa
