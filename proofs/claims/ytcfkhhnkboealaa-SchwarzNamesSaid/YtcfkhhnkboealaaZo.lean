/- Half planes bent to polygons: the law's examples. -/
import Derived.Test.YtcfkhhnkboealaaZn
import Derived.Test.YtcfkhhnkboealaaZp
namespace Go.Proofs.Ytcfkhhnkboealaa
open Go.RowKit
set_option linter.unusedVariables false
set_option linter.unusedSimpArgs false
set_option maxRecDepth 100000
set_option maxHeartbeats 4000000
structure SK (w W : World) (g h : Nat) : Prop where
  a : FW W g 3 sqA3 sqA3
  b : FW W h 3 sqG3 sqG3
  gr : GrW w W
theorem SK.up {w W W' : World} {g h : Nat} (s : SK w W g h) (k : GrW W W') : SK w W' g h := ⟨s.a.up k, s.b.up k, s.gr.trans k⟩
/-- an answer, and a world that has grown. -/
def RetV (v : Value) (W : World) (e : Ending) (w' : World) : Prop := e = .returned v ∧ GrW W w'
theorem RetI.v {v : Int} {w : World} {e : Ending} {w' : World} {W : World} (g : GrW W w) (h : RetI .i64 v w e w') : RetV (.int .i64 v) W e w' := by
  obtain ⟨n, h1, rfl⟩ := h
  exact ⟨h1, g.drewN n⟩
theorem RetCE.v {a b : Nat} {v : Int} {w : World} {e : Ending} {w' : World} (h : RetCE a b v w e w') : RetV (.tuple #[.complex .f64 a b, .int .i64 v]) w e w' := h.g
theorem mk_flt17 (w : World) : (Instr.makeSlice 24 (.int .i64 17) (.int .i64 17)).run Try.prog w = .ok (.slice (some ⟨w.heap.size, 0, none⟩) 17 17) (w.alloc (.cells (madeCells #[.float .f64 0] 17) 25)) := by
  obtain ⟨i, hi, e1, e2, e3⟩ := infoF64'
  have := run_make (P := Try.prog) w 24 25 i (.float .f64 0) Try.underlying24 hi e1 .i64 .i64 (17 : Int) (17 : Int) (by omega) (Int.le_refl _) (by rw [e3]; omega) (by omega)
  rw [e2] at this
  simpa [Value.cells] using this
theorem gAlloc {W : World} {o : Obj} : GrW W (W.alloc o) := (GrW.refl W).alloc o
theorem gAlloc2 {W : World} {o o' : Obj} : GrW W ((W.alloc o).alloc o') := ((GrW.refl W).alloc o).alloc o'
theorem sI : Rep 9218868437227405312 9218868437227405312 := Rep.self (by decide) (by decide +kernel)
theorem sN : Rep 9223372036854775808 9223372036854775808 := Rep.self (by decide) (by decide +kernel)
theorem sT3 : Rep 4613937818241073152 4613937818241073152 := Rep.self (by decide) (by decide +kernel)
theorem s41 : Rep 4422534834077827072 4422534834077827072 := Rep.self (by decide) (by decide +kernel)
theorem nan19_c (w : World) : Calls Try.prog 67 #[] w (fun e w' => ∃ r, e = .returned (.float .f64 r) ∧ Rep r nanB ∧ GrW w w') := by
  refine (nan_c w).mono ?_
  rintro e w' ⟨r, n, rfl, hr, rfl⟩
  exact ⟨r, rfl, hr, (GrW.refl w).drewN n⟩
theorem inf19_c (w : World) : Calls Try.prog 75 #[.int .i64 1] w (fun e w' => e = .returned (.float .f64 9218868437227405312) ∧ GrW w w') := by
  refine (inf_c 1 w).mono ?_
  rintro e w' ⟨r, n, rfl, hr, rfl⟩
  obtain rfl := hr.eq_of (by decide +kernel)
  exact ⟨by rfl, (GrW.refl w).drewN n⟩
theorem cps19_c (w : World) : Calls Try.prog 84 #[.float .f64 0, .float .f64 13830554455654793216] w (fun e w' => e = .returned (.float .f64 9223372036854775808) ∧ GrW w w') := by
  refine (copysign_c Rep.c0 sM w (by decide +kernel) (by decide +kernel)).mono ?_
  rintro e w' ⟨r, n, rfl, hr, rfl⟩
  rw [show copyF 0 13830554455654793216 = 9223372036854775808 by decide +kernel] at hr
  obtain rfl := hr.eq_of (by decide +kernel)
  exact ⟨rfl, (GrW.refl w).drewN n⟩
theorem ck1 {w W : World} {g h : Nat} (S : SK w W g h) : Calls Try.prog 79 #[.slice (some ⟨g, 0, none⟩) 3 3, .slice (some ⟨h, 0, none⟩) 3 3] W (RetV (.int .i64 0) W) :=
  (chk3_c S.a S.b).mono fun _ _ r => RetI.v (GrW.refl W) r
theorem ck2 {W : World} : Calls Try.prog 79 #[.slice (some ⟨W.heap.size, 0, none⟩) 2 2, .slice (some ⟨W.heap.size + 1, 0, none⟩) 2 2] ((W.alloc (.cells #[.float .f64 0, .float .f64 4607182418800017408] 25)).alloc (.cells #[.float .f64 4602678819172646912, .float .f64 4602678819172646912] 25)) (RetV (.int .i64 4) W) :=
  (polyFew_c (by decide) _).mono fun _ _ r => RetI.v gAlloc2 r
theorem ck3 {w W : World} {g h : Nat} (S : SK w W g h) : Calls Try.prog 79 #[.slice (some ⟨W.heap.size, 0, none⟩) 3 3, .slice (some ⟨h, 0, none⟩) 3 3] (W.alloc (.cells #[.float .f64 0, .float .f64 4607182418800017408, .float .f64 4607182418800017408] 25)) (RetV (.int .i64 190) W) :=
  (polyBad_c (m := 1) (fw3 W _ Rep.c0 sO sO) rfl (S.up gAlloc).b rfl (by decide) (by decide) (by decide +kernel) (by decide +kernel) (by decide +kernel) (by decide) (by decide +kernel) (by decide +kernel) (by decide +kernel)).mono fun _ _ r => RetI.v gAlloc r
theorem ck4 {w W : World} {g h : Nat} (S : SK w W g h) : Calls Try.prog 79 #[.slice (some ⟨g, 0, none⟩) 3 3, .slice (some ⟨W.heap.size, 0, none⟩) 3 3] (W.alloc (.cells #[.float .f64 4607182418800017408, .float .f64 4607182418800017408, .float .f64 4607182418800017408] 25)) (RetV (.int .i64 190) W) :=
  (polySum_c (t := false) (S.up gAlloc).a rfl (fw3 W _ sO sO sO) rfl (by decide) (by decide) (by decide +kernel) (by decide +kernel) (by decide +kernel) (by decide +kernel)).mono fun _ _ r => RetI.v gAlloc r
theorem ck5 {w W : World} {g h : Nat} (S : SK w W g h) : Calls Try.prog 79 #[.slice (some ⟨g, 0, none⟩) 3 3, .slice (some ⟨W.heap.size, 0, none⟩) 2 2] (W.alloc (.cells #[.float .f64 4602678819172646912, .float .f64 4602678819172646912] 25)) (RetV (.int .i64 4) W) :=
  (polyUneven_c (S.up gAlloc).a rfl (by decide) (by decide) (by decide +kernel) (by decide)).mono fun _ _ r => RetI.v gAlloc r
theorem ck6 {W : World} : Calls Try.prog 79 #[.slice (some ⟨W.heap.size, 0, none⟩) 17 17, .slice none 0 0] (W.alloc (.cells (madeCells #[.float .f64 0] 17) 25)) (RetV (.int .i64 4) W) :=
  (polyFew_c (by decide) _).mono fun _ _ r => RetI.v gAlloc r
theorem ck7 {W : World} {r : Nat} (hr : Rep r nanB) : Calls Try.prog 79 #[.slice (some ⟨W.heap.size, 0, none⟩) 3 3, .slice none 0 0] (W.alloc (.cells #[.float .f64 0, .float .f64 4607182418800017408, .float .f64 r] 25)) (RetV (.int .i64 5) W) :=
  (polyWild_c (n := 3) (fw3 W _ Rep.c0 sO hr) rfl (by decide) (by decide) (by decide +kernel)).mono fun _ _ r => RetI.v gAlloc r
theorem ck8 {w W : World} {g h : Nat} (S : SK w W g h) : Calls Try.prog 79 #[.slice (some ⟨g, 0, none⟩) 3 3, .slice (some ⟨W.heap.size, 0, none⟩) 3 3] (W.alloc (.cells #[.float .f64 0, .float .f64 4607182418800017408, .float .f64 9218868437227405312] 25)) (RetV (.int .i64 5) W) :=
  (polyWild2_c (S.up gAlloc).a rfl (fw3 W _ Rep.c0 sO sI) rfl (by decide) (by decide) (by decide +kernel) (by decide +kernel)).mono fun _ _ r => RetI.v gAlloc r
theorem sl1 {w W : World} {g h : Nat} (S : SK w W g h) : Calls Try.prog 80 #[.slice (some ⟨g, 0, none⟩) 3 3, .slice (some ⟨h, 0, none⟩) 3 3, .complex .f64 0 13830554455654793216] W (RetV (.tuple #[.complex .f64 0 0, .int .i64 6]) W) :=
  (slopeErr_c (v := 6) (by decide) (chk3_c S.a S.b) (fun V => upperLow_c Rep.c0 sM V (by decide +kernel) (by decide +kernel))).mono fun _ _ r => r.v
theorem sl2 {w W : World} {g h : Nat} (S : SK w W g h) : Calls Try.prog 80 #[.slice (some ⟨g, 0, none⟩) 3 3, .slice (some ⟨h, 0, none⟩) 3 3, .complex .f64 13830554455654793216 0] W (RetV (.tuple #[.complex .f64 0 0, .int .i64 6]) W) :=
  slopeBad_c S.a rfl S.b rfl (by decide) (chk3_c S.a S.b) (fun V => upperOk_c sM Rep.c0 V (by decide +kernel) (by decide +kernel)) sM Rep.c0 sqBad.1 sqBad.2
theorem sl3 {w W : World} {g h : Nat} (S : SK w W g h) {r : Nat} (hr : Rep r nanB) : Calls Try.prog 80 #[.slice (some ⟨g, 0, none⟩) 3 3, .slice (some ⟨h, 0, none⟩) 3 3, .complex .f64 r 0] W (RetV (.tuple #[.complex .f64 0 0, .int .i64 5]) W) :=
  (slopeErr_c (v := 5) (by decide) (chk3_c S.a S.b) (fun V => upperWild_c hr Rep.c0 V (by decide +kernel))).mono fun _ _ r => r.v
theorem bt1 {w W : World} {g h : Nat} (S : SK w W g h) : Calls Try.prog 81 #[.slice (some ⟨g, 0, none⟩) 3 3, .slice (some ⟨h, 0, none⟩) 3 3, .complex .f64 0 4607182418800017408, .complex .f64 0 4607182418800017408, .int .i64 3] W (RetV (.tuple #[.complex .f64 9223372036854775808 0, .int .i64 0]) W) :=
  betweenAll_c (m := 3) (by decide) (by decide) (chk3_c S.a S.b) (fun V => upperOk_c Rep.c0 sO V (by decide +kernel) (by decide +kernel)) (fun V k => tri_c (S.a.up k) (S.b.up k))
theorem bt2 {w W : World} {g h : Nat} (S : SK w W g h) : Calls Try.prog 81 #[.slice (some ⟨g, 0, none⟩) 3 3, .slice (some ⟨h, 0, none⟩) 3 3, .complex .f64 0 4607182418800017408, .complex .f64 0 4607182418800017408, .int .i64 0] W (RetV (.tuple #[.complex .f64 0 0, .int .i64 2]) W) :=
  (betweenArg_c (m := 0) (by decide) (chk3_c S.a S.b) (fun V => upperOk_c Rep.c0 sO V (by decide +kernel) (by decide +kernel))).mono fun _ _ r => r.v
theorem cn1 {w W : World} {g h : Nat} (S : SK w W g h) : Calls Try.prog 82 #[.slice (some ⟨g, 0, none⟩) 3 3, .slice (some ⟨h, 0, none⟩) 3 3, .int .i64 16385] W (RetV (.tuple #[.slice none 0 0, .int .i64 2]) W) :=
  (cornersArg_c (m := 16385) (by decide) (chk3_c S.a S.b)).mono fun _ _ ⟨d, h1, h2⟩ => ⟨h1, by rw [h2]; exact (GrW.refl W).drewN d⟩
theorem st1 {W : World} : Calls Try.prog 83 #[.complex .f64 13830554455654793216 9223372036854775808, .float .f64 4611686018427387904] W (RetV (.tuple #[.complex .f64 0 4611686018427387904, .int .i64 0]) W) :=
  (stripOk_c sM sN sT W (fun V => fitOk_c sM sN sT V (by decide +kernel) (by decide +kernel) (by decide +kernel)) (by decide +kernel) (by decide +kernel) (p := 0) (q := 4614256656552045848) (u := 4603909380684499075) (by decide +kernel) (by decide +kernel) (by decide +kernel) (by decide +kernel) (by decide +kernel) (by decide +kernel) (by decide +kernel)).mono fun _ _ r => r.v
theorem st2 {W : World} : Calls Try.prog 83 #[.complex .f64 0 0, .float .f64 4611686018427387904] W (RetV (.tuple #[.complex .f64 0 0, .int .i64 6]) W) :=
  (stripNo_c Rep.c0 Rep.c0 W (fun V => fitOk_c Rep.c0 Rep.c0 sT V (by decide +kernel) (by decide +kernel) (by decide +kernel)) (by decide +kernel) (by decide +kernel) (by decide +kernel)).mono fun _ _ r => r.v
theorem st3 {W : World} : Calls Try.prog 83 #[.complex .f64 4607182418800017408 0, .float .f64 4422534834077827072] W (RetV (.tuple #[.complex .f64 0 0, .int .i64 5]) W) :=
  (stripErr_c W (v := 5) (by decide) (fun V => fitBad_c sO Rep.c0 s41 V (by decide +kernel) (by decide +kernel))).mono fun _ _ r => r.v
theorem bk1 {W : World} : Calls Try.prog 85 #[.complex .f64 0 4613937818241073152, .float .f64 4611686018427387904] W (RetV (.tuple #[.complex .f64 0 0, .int .i64 6]) W) :=
  (backNo_c sT3 sT W (fun V => fitOk_c Rep.c0 sT3 sT V (by decide +kernel) (by decide +kernel) (by decide +kernel)) (by decide +kernel) (by decide +kernel)).mono fun _ _ r => r.v
theorem names19_c (w : World) : Calls Try.prog 10 #[] w (fun e w' => e = .returned (.bool true) ∧ GrW w w') := by
  have h17 := mk_flt17
  go_enter Try.func10, Try.ntmps10
  go_upto_region 2 with fail
  refine wp_name fun W eW => ?_
  have h2 := fw3 (w.alloc (.cells #[.float .f64 13830554455654793216, .float .f64 0, .float .f64 4607182418800017408] 25)) 25 sH sQ sQ
  rw [show (w.alloc (.cells #[.float .f64 13830554455654793216, .float .f64 0, .float .f64 4607182418800017408] 25)).heap.size = w.heap.size + 1 from size_alloc _ _] at h2
  have HK : RowKit.Hid (SK w W w.heap.size (w.heap.size + 1)) := Lib.hid (by rw [eW]; exact ⟨(fw3 w _ sM Rep.c0 sO).up gAlloc, h2, gAlloc2⟩)
  clear eW h2
  generalize w.heap.size + 1 = h at HK ⊢
  generalize w.heap.size = g at HK ⊢
  go_upto_region 3 with (first
    | (go_at_call 79; (with_reducible refine (ck1 HK.out).mono ?_); rintro e w5 ⟨rfl, g5⟩; have HK2 := Lib.hid (HK.out.up g5); clear g5 HK; have HK := HK2; clear HK2)
    | (go_at_call 79; (with_reducible refine (ck2).mono ?_); rintro e w5 ⟨rfl, g5⟩; have HK2 := Lib.hid (HK.out.up g5); clear g5 HK; have HK := HK2; clear HK2)
    | (go_at_call 79; (with_reducible refine (ck3 HK.out).mono ?_); rintro e w5 ⟨rfl, g5⟩; have HK2 := Lib.hid (HK.out.up g5); clear g5 HK; have HK := HK2; clear HK2)
    | (go_at_call 79; (with_reducible refine (ck4 HK.out).mono ?_); rintro e w5 ⟨rfl, g5⟩; have HK2 := Lib.hid (HK.out.up g5); clear g5 HK; have HK := HK2; clear HK2)
    | (go_at_call 79; (with_reducible refine (ck5 HK.out).mono ?_); rintro e w5 ⟨rfl, g5⟩; have HK2 := Lib.hid (HK.out.up g5); clear g5 HK; have HK := HK2; clear HK2)
    | (go_at_call 79; (with_reducible refine (ck6).mono ?_); rintro e w5 ⟨rfl, g5⟩; have HK2 := Lib.hid (HK.out.up g5); clear g5 HK; have HK := HK2; clear HK2)
    | (go_at_call 79; (with_reducible refine (ck7 HR.out).mono ?_); rintro e w5 ⟨rfl, g5⟩; have HK2 := Lib.hid (HK.out.up g5); clear g5 HK; have HK := HK2; clear HK2)
    | (go_at_call 79; (with_reducible refine (ck8 HK.out).mono ?_); rintro e w5 ⟨rfl, g5⟩; have HK2 := Lib.hid (HK.out.up g5); clear g5 HK; have HK := HK2; clear HK2)
    | (go_at_call 67; (with_reducible refine (nan19_c _).mono ?_); rintro e w5 ⟨rN, rfl, hr, g5⟩; have HR := Lib.hid hr; clear hr; have HK2 := Lib.hid (HK.out.up g5); clear g5 HK; have HK := HK2; clear HK2)
    | (go_at_call 75; (with_reducible refine (inf19_c _).mono ?_); rintro e w5 ⟨rfl, g5⟩; have HK2 := Lib.hid (HK.out.up g5); clear g5 HK; have HK := HK2; clear HK2)
    | fail)
  try clear HR
  go_upto_region 13 with (first
    | (go_at_call 80; (with_reducible refine (sl1 HK.out).mono ?_); rintro e w5 ⟨rfl, g5⟩; have HK2 := Lib.hid (HK.out.up g5); clear g5 HK; have HK := HK2; clear HK2)
    | (go_at_call 80; (with_reducible refine (sl2 HK.out).mono ?_); rintro e w5 ⟨rfl, g5⟩; have HK2 := Lib.hid (HK.out.up g5); clear g5 HK; have HK := HK2; clear HK2)
    | (go_at_call 80; (with_reducible refine (sl3 HK.out HR.out).mono ?_); rintro e w5 ⟨rfl, g5⟩; have HK2 := Lib.hid (HK.out.up g5); clear g5 HK; have HK := HK2; clear HK2)
    | (go_at_call 67; (with_reducible refine (nan19_c _).mono ?_); rintro e w5 ⟨rN, rfl, hr, g5⟩; have HR := Lib.hid hr; clear hr; have HK2 := Lib.hid (HK.out.up g5); clear g5 HK; have HK := HK2; clear HK2)
    | (go_at_call 81; (with_reducible refine (bt1 HK.out).mono ?_); rintro e w5 ⟨rfl, g5⟩; have HK2 := Lib.hid (HK.out.up g5); clear g5 HK; have HK := HK2; clear HK2)
    | (go_at_call 81; (with_reducible refine (bt2 HK.out).mono ?_); rintro e w5 ⟨rfl, g5⟩; have HK2 := Lib.hid (HK.out.up g5); clear g5 HK; have HK := HK2; clear HK2)
    | (go_at_call 82; (with_reducible refine (cn1 HK.out).mono ?_); rintro e w5 ⟨rfl, g5⟩; have HK2 := Lib.hid (HK.out.up g5); clear g5 HK; have HK := HK2; clear HK2)
    | (go_at_call 84; (with_reducible refine (cps19_c _).mono ?_); rintro e w5 ⟨rfl, g5⟩; have HK2 := Lib.hid (HK.out.up g5); clear g5 HK; have HK := HK2; clear HK2)
    | (go_at_call 83; (with_reducible refine (st1).mono ?_); rintro e w5 ⟨rfl, g5⟩; have HK2 := Lib.hid (HK.out.up g5); clear g5 HK; have HK := HK2; clear HK2)
    | (go_at_call 83; (with_reducible refine (st2).mono ?_); rintro e w5 ⟨rfl, g5⟩; have HK2 := Lib.hid (HK.out.up g5); clear g5 HK; have HK := HK2; clear HK2)
    | (go_at_call 83; (with_reducible refine (st3).mono ?_); rintro e w5 ⟨rfl, g5⟩; have HK2 := Lib.hid (HK.out.up g5); clear g5 HK; have HK := HK2; clear HK2)
    | (go_at_call 85; (with_reducible refine (bk1).mono ?_); rintro e w5 ⟨rfl, g5⟩; have HK2 := Lib.hid (HK.out.up g5); clear g5 HK; have HK := HK2; clear HK2)
    | fail)
  have o1 : (FloatKind.f64.format.order 9223372036854775808 0 == some .eq) = true := by decide +kernel
  have o2 : (FloatKind.f64.format.order 0 0 == some .eq) = true := by decide +kernel
  have m1 : ∀ V, fres .sub 4611686018427387904 4611686018427387904 V = 0 := fun V => ((sT.sub sT).eq_of (by decide +kernel)).trans (by decide +kernel)
  have d1 : fdr .sub 4611686018427387904 4611686018427387904 = 0 := fdr_sub (by decide +kernel)
  have ql : Proofs.Ytcfkhhnkboealaa.flt (fabs 0) 4427038433705197568 = true := by decide +kernel
  have c40 : Rep 4427038433705197568 4427038433705197568 := Rep.self (by decide) (by decide +kernel)
  go_wp2_with (first
    | (go_at_call 86; (with_reducible refine (alive19_c _).mono ?_); rintro e w5 ⟨rfl, g5⟩; have HK2 := Lib.hid (HK.out.up g5); clear g5 HK; have HK := HK2; clear HK2)
    | (go_at_call 23; (with_reducible refine (abs_c Rep.c0 _).mono ?_); rintro e w' ⟨r, n, rfl, hr, rfl⟩; have q := hr.lt' c40; rw [ql] at q)
    | fail)
  go_ret
  exact ⟨rfl, HK.out.gr.drewN _⟩
end Go.Proofs.Ytcfkhhnkboealaa
