/-
  DERIVED. GIVEN WITH THE SEED: THE CARDS: each row of YtndknkdfbjfjcaaDoorRows.lean that lists a variable, with what it lists TIED to the program's text (the seventh form; the later family's looks); each row that meets fmt, with fmt's text TOLD by the authors' own Lean function (tested against real Go, not proved from fmt's source: count such statements apart). THE CARD IS WHAT COUNTS. Prove the row's statement (the work); the ties are given (YtndknkdfbjfjcaaDoorTie.lean); close each card by the builder's one call (the guide's Derived/Test/ToyasCard.lean, 'card_holds'). Laid BY PROGRAM, IN A SANDBOX (cutbox-door.mjs). By AI agents, Wed Nov 11 2026. No macro, syntax, notation, axiom, sorry.
-/
import Derived.Test.YtndknkdfbjfjcaaDoorRows
import GoSem.ClaimSeven
namespace Go.Proofs.YtndknkdfbjfjcaaDoor
namespace Rows

/-- THE TIED CARD OF 'eddylaw04.ElemExps'. -/
def elemExpsCard : Claim7 := { stood := { row := elemExpsRow, standIns := [], harness := (true, "0f531a19dc00c1f178bedfda43916f2076cd6e6d4dad4d008c76a110f6f4e0f3"), looks := false }, kinds := [], alts := [], laidByText := true, laidKinds := [.data], laidTests := true, laidLooks := .later }
def ElemExpsCardSaid : Prop := Claim7.holds Tryd.pinned (.plain (OpenSpec.ofChange elemExpsSpec)) elemExpsCard

/-- THE TIED CARD OF 'eddylaw04.ElemHalves'. -/
def elemHalvesCard : Claim7 := { stood := { row := elemHalvesRow, standIns := [], harness := (true, "0f531a19dc00c1f178bedfda43916f2076cd6e6d4dad4d008c76a110f6f4e0f3"), looks := false }, kinds := [], alts := [], laidByText := true, laidKinds := [.data], laidTests := true, laidLooks := .later }
def ElemHalvesCardSaid : Prop := Claim7.holds Tryd.pinned (.plain (OpenSpec.ofChange elemHalvesSpec)) elemHalvesCard

/-- THE TIED CARD OF 'eddylaw01.FloatNear'. -/
def floatNearCard : Claim7 := { stood := { row := floatNearRow, standIns := [], harness := (true, "0f531a19dc00c1f178bedfda43916f2076cd6e6d4dad4d008c76a110f6f4e0f3"), looks := false }, kinds := [], alts := [], laidByText := true, laidKinds := [.data], laidTests := true, laidLooks := .later }
def FloatNearCardSaid : Prop := Claim7.holds Tryd.pinned (.plain (OpenSpec.ofChange floatNearSpec)) floatNearCard

/-- THE TIED CARD OF 'eddylaw07.PowerSines'. -/
def powerSinesCard : Claim7 := { stood := { row := powerSinesRow, standIns := [], harness := (true, "0f531a19dc00c1f178bedfda43916f2076cd6e6d4dad4d008c76a110f6f4e0f3"), looks := false }, kinds := [], alts := [], laidByText := true, laidKinds := [.data], laidTests := true, laidLooks := .later }
def PowerSinesCardSaid : Prop := Claim7.holds Tryd.pinned (.plain (OpenSpec.ofChange powerSinesSpec)) powerSinesCard

/-- THE TIED CARD OF 'eddylaw07.PowerSheets'. -/
def powerSheetsCard : Claim7 := { stood := { row := powerSheetsRow, standIns := [], harness := (true, "0f531a19dc00c1f178bedfda43916f2076cd6e6d4dad4d008c76a110f6f4e0f3"), looks := false }, kinds := [], alts := [], laidByText := true, laidKinds := [.data], laidTests := true, laidLooks := .later }
def PowerSheetsCardSaid : Prop := Claim7.holds Tryd.pinned (.plain (OpenSpec.ofChange powerSheetsSpec)) powerSheetsCard

/-- THE TIED CARD OF 'eddylaw06.RootOne'. -/
def rootOneCard : Claim7 := { stood := { row := rootOneRow, standIns := [], harness := (true, "0f531a19dc00c1f178bedfda43916f2076cd6e6d4dad4d008c76a110f6f4e0f3"), looks := false }, kinds := [], alts := [], laidByText := true, laidKinds := [.data], laidTests := true, laidLooks := .later }
def RootOneCardSaid : Prop := Claim7.holds Tryd.pinned (.plain (OpenSpec.ofChange rootOneSpec)) rootOneCard

/-- THE TIED CARD OF 'eddylaw06.RootPlace'. -/
def rootPlaceCard : Claim7 := { stood := { row := rootPlaceRow, standIns := [], harness := (true, "0f531a19dc00c1f178bedfda43916f2076cd6e6d4dad4d008c76a110f6f4e0f3"), looks := false }, kinds := [], alts := [], laidByText := true, laidKinds := [.data], laidTests := true, laidLooks := .later }
def RootPlaceCardSaid : Prop := Claim7.holds Tryd.pinned (.plain (OpenSpec.ofChange rootPlaceSpec)) rootPlaceCard

/-- THE SECOND FORM's CARD OF 'eddylaw04.ElemExps'. -/
def elemExpsUptoCard : Claim7 := { stood := { row := elemExpsUptoRow, standIns := [], harness := (true, "0f531a19dc00c1f178bedfda43916f2076cd6e6d4dad4d008c76a110f6f4e0f3"), looks := false }, kinds := [], alts := [], laidByText := true, laidKinds := [.data], laidTests := true, laidLooks := .later }
def ElemExpsUptoCardSaid : Prop := Claim7.holds Tryd.pinned (.plain (OpenSpec.upto elemExpsSpec)) elemExpsUptoCard

/-- THE SECOND FORM's CARD OF 'eddylaw04.ElemHalves'. -/
def elemHalvesUptoCard : Claim7 := { stood := { row := elemHalvesUptoRow, standIns := [], harness := (true, "0f531a19dc00c1f178bedfda43916f2076cd6e6d4dad4d008c76a110f6f4e0f3"), looks := false }, kinds := [], alts := [], laidByText := true, laidKinds := [.data], laidTests := true, laidLooks := .later }
def ElemHalvesUptoCardSaid : Prop := Claim7.holds Tryd.pinned (.plain (OpenSpec.upto elemHalvesSpec)) elemHalvesUptoCard

/-- THE SECOND FORM's CARD OF 'eddylaw01.FloatNear'. -/
def floatNearUptoCard : Claim7 := { stood := { row := floatNearUptoRow, standIns := [], harness := (true, "0f531a19dc00c1f178bedfda43916f2076cd6e6d4dad4d008c76a110f6f4e0f3"), looks := false }, kinds := [], alts := [], laidByText := true, laidKinds := [.data], laidTests := true, laidLooks := .later }
def FloatNearUptoCardSaid : Prop := Claim7.holds Tryd.pinned (.plain (OpenSpec.upto floatNearSpec)) floatNearUptoCard

/-- THE SECOND FORM's CARD OF 'eddylaw07.PowerSines'. -/
def powerSinesUptoCard : Claim7 := { stood := { row := powerSinesUptoRow, standIns := [], harness := (true, "0f531a19dc00c1f178bedfda43916f2076cd6e6d4dad4d008c76a110f6f4e0f3"), looks := false }, kinds := [], alts := [], laidByText := true, laidKinds := [.data], laidTests := true, laidLooks := .later }
def PowerSinesUptoCardSaid : Prop := Claim7.holds Tryd.pinned (.plain (OpenSpec.upto powerSinesSpec)) powerSinesUptoCard

/-- THE SECOND FORM's CARD OF 'eddylaw07.PowerSheets'. -/
def powerSheetsUptoCard : Claim7 := { stood := { row := powerSheetsUptoRow, standIns := [], harness := (true, "0f531a19dc00c1f178bedfda43916f2076cd6e6d4dad4d008c76a110f6f4e0f3"), looks := false }, kinds := [], alts := [], laidByText := true, laidKinds := [.data], laidTests := true, laidLooks := .later }
def PowerSheetsUptoCardSaid : Prop := Claim7.holds Tryd.pinned (.plain (OpenSpec.upto powerSheetsSpec)) powerSheetsUptoCard

/-- THE SECOND FORM's CARD OF 'eddylaw06.RootOne'. -/
def rootOneUptoCard : Claim7 := { stood := { row := rootOneUptoRow, standIns := [], harness := (true, "0f531a19dc00c1f178bedfda43916f2076cd6e6d4dad4d008c76a110f6f4e0f3"), looks := false }, kinds := [], alts := [], laidByText := true, laidKinds := [.data], laidTests := true, laidLooks := .later }
def RootOneUptoCardSaid : Prop := Claim7.holds Tryd.pinned (.plain (OpenSpec.upto rootOneSpec)) rootOneUptoCard

/-- THE SECOND FORM's CARD OF 'eddylaw06.RootPlace'. -/
def rootPlaceUptoCard : Claim7 := { stood := { row := rootPlaceUptoRow, standIns := [], harness := (true, "0f531a19dc00c1f178bedfda43916f2076cd6e6d4dad4d008c76a110f6f4e0f3"), looks := false }, kinds := [], alts := [], laidByText := true, laidKinds := [.data], laidTests := true, laidLooks := .later }
def RootPlaceUptoCardSaid : Prop := Claim7.holds Tryd.pinned (.plain (OpenSpec.upto rootPlaceSpec)) rootPlaceUptoCard
end Rows
end Go.Proofs.YtndknkdfbjfjcaaDoor
