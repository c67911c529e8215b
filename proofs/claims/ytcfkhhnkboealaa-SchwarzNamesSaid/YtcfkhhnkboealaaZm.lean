/- Half planes bent to polygons: the square's corners; the law's first examples. -/
import Derived.Test.YtcfkhhnkboealaaZl
import Derived.Laws.ComplexArith
namespace Go.Proofs.Ytcfkhhnkboealaa
open Go.RowKit
set_option linter.unusedVariables false
set_option linter.unusedSimpArgs false
set_option maxRecDepth 100000
set_option maxHeartbeats 4000000
def sqX : Nat → Nat
  | 0 => 13597742194483763538
  | 1 => 13835102255934011387
  | _ => 4367322464734115603
def sqY : Nat → Nat
  | 0 => 4609784505740040908
  | 1 => 13596880189142003764
  | _ => 13833156542594816712
theorem sqFin : ∀ i, i + 1 < 4 → (fin (crn sqX (i + 1)) && fin (crn sqY (i + 1))) = true := by
  intro i hi
  match i, hi with
  | 0, _ => decide +kernel
  | 1, _ => decide +kernel
  | 2, _ => decide +kernel
theorem sqRep : ∀ i, i + 1 < 4 → Rep (sqX i) (sqX i) ∧ Rep (sqY i) (sqY i) := by
  intro i hi
  match i, hi with
  | 0, _ => exact ⟨Rep.self (by decide) (by decide +kernel), Rep.self (by decide) (by decide +kernel)⟩
  | 1, _ => exact ⟨Rep.self (by decide) (by decide +kernel), Rep.self (by decide) (by decide +kernel)⟩
  | 2, _ => exact ⟨Rep.self (by decide) (by decide +kernel), Rep.self (by decide) (by decide +kernel)⟩
theorem sqCrn : crn sqX 1 = 13597742194483763538 ∧ crn sqY 1 = 4609784505740040908 ∧ crn sqX 2 = 13835102255934011388 ∧ crn sqY 2 = 4609784505740040907 := by decide +kernel
theorem chk4_c {w : World} {g h : Nat} (H : FW w g 4 sqA4 sqA4) (K : FW w h 4 sqG4 sqG4) : Calls Try.prog 79 #[.slice (some ⟨g, 0, none⟩) 4 4, .slice (some ⟨h, 0, none⟩) 4 4] w (RetI .i64 0 w) :=
  polySum_c H rfl K rfl (by decide) (by decide) sqOk.1 sqOk.2.1 sqGood4 sqEnd.1
theorem chk3_c {w : World} {g h : Nat} (H : FW w g 3 sqA3 sqA3) (K : FW w h 3 sqG3 sqG3) : Calls Try.prog 79 #[.slice (some ⟨g, 0, none⟩) 3 3, .slice (some ⟨h, 0, none⟩) 3 3] w (RetI .i64 0 w) :=
  polySum_c H rfl K rfl (by decide) (by decide) sqOk.2.2.1 sqOk.2.2.2 sqGood3 sqEnd.2
theorem side0_c {w : World} {g h : Nat} (H : FW w g 4 sqA4 sqA4) (K : FW w h 4 sqG4 sqG4) : Calls Try.prog 138 #[.slice (some ⟨g, 0, none⟩) 4 4, .slice (some ⟨h, 0, none⟩) 4 4, .complex .f64 13830554455654793216 0, .complex .f64 0 0, .int .i64 (4 : Nat)] w (fun e w' => e = .returned (.tuple #[.complex .f64 13597742194483763538 4609784505740040908, .int .i64 0]) ∧ GrW w w') :=
  between_c H rfl K rfl (by decide) sM Rep.c0 Rep.c0 Rep.c0 (by decide) (by decide) sqH.2.2.2.1 sqH.1 (by decide +kernel) (by decide +kernel) (by decide +kernel) (by decide +kernel) (by decide +kernel) sqNum0 sqS0X sqS0Y (by decide +kernel)
theorem side1_c {w : World} {g h : Nat} (H : FW w g 4 sqA4 sqA4) (K : FW w h 4 sqG4 sqG4) : Calls Try.prog 138 #[.slice (some ⟨g, 0, none⟩) 4 4, .slice (some ⟨h, 0, none⟩) 4 4, .complex .f64 0 0, .complex .f64 4607182418800017408 0, .int .i64 (4 : Nat)] w (fun e w' => e = .returned (.tuple #[.complex .f64 13835102255934011387 13596880189142003764, .int .i64 0]) ∧ GrW w w') :=
  between_c H rfl K rfl (by decide) Rep.c0 Rep.c0 sO Rep.c0 (by decide) (by decide) sqH.2.2.2.2.1 sqH.1 (by decide +kernel) (by decide +kernel) (by decide +kernel) (by decide +kernel) (by decide +kernel) sqNum1 sqS1X sqS1Y (by decide +kernel)
theorem side2_c {w : World} {g h : Nat} (H : FW w g 4 sqA4 sqA4) (K : FW w h 4 sqG4 sqG4) : Calls Try.prog 138 #[.slice (some ⟨g, 0, none⟩) 4 4, .slice (some ⟨h, 0, none⟩) 4 4, .complex .f64 4607182418800017408 0, .complex .f64 4611686018427387904 0, .int .i64 (4 : Nat)] w (fun e w' => e = .returned (.tuple #[.complex .f64 4367322464734115603 13833156542594816712, .int .i64 0]) ∧ GrW w w') :=
  between_c H rfl K rfl (by decide) sO Rep.c0 sT Rep.c0 (by decide) (by decide) sqH.2.2.2.2.2 sqH.1 (by decide +kernel) (by decide +kernel) (by decide +kernel) (by decide +kernel) (by decide +kernel) sqNum2 sqS2X sqS2Y (by decide +kernel)
theorem tri_c {w : World} {g h : Nat} (H : FW w g 3 sqA3 sqA3) (K : FW w h 3 sqG3 sqG3) : Calls Try.prog 138 #[.slice (some ⟨g, 0, none⟩) 3 3, .slice (some ⟨h, 0, none⟩) 3 3, .complex .f64 0 4607182418800017408, .complex .f64 0 4607182418800017408, .int .i64 (3 : Nat)] w (fun e w' => e = .returned (.tuple #[.complex .f64 9223372036854775808 0, .int .i64 0]) ∧ GrW w w') :=
  between_c H rfl K rfl (by decide) Rep.c0 sO Rep.c0 sO (by decide) (by decide) sqH.2.1 sqH.2.2.1 (by decide +kernel) (by decide +kernel) (by decide +kernel) (by decide +kernel) (by decide +kernel) sqNumT sqTX sqTY (by decide +kernel)
theorem corn4_c {w : World} {g h : Nat} (H : FW w g 4 sqA4 sqA4) (K : FW w h 4 sqG4 sqG4) : Calls Try.prog 82 #[.slice (some ⟨g, 0, none⟩) 4 4, .slice (some ⟨h, 0, none⟩) 4 4, .int .i64 4] w (fun e w' => ∃ o, e = .returned (.tuple #[.slice (some ⟨o, 0, none⟩) 4 4, .int .i64 0]) ∧ RowC w' o 4 4 (crn sqX) (crn sqY) ∧ GrW w w') :=
  corners_c (m := 4) H rfl K rfl (by decide) (by decide) (by decide) (by decide) (chk4_c H K) sqX sqY (fun i hi W k => by
    match i, hi with
    | 0, _ => exact side0_c (H.up k) (K.up k)
    | 1, _ => exact side1_c (H.up k) (K.up k)
    | 2, _ => exact side2_c (H.up k) (K.up k)) sqRep sqFin
end Go.Proofs.Ytcfkhhnkboealaa
