/-
  DERIVED. GIVEN WITH THE SEED: THE CARDS: each row of YtcfkhhnkboealaaDoorRows.lean that lists a variable, with what it lists TIED to the program's text (the seventh form; the later family's looks); each row that meets fmt, with fmt's text TOLD by the authors' own Lean function (tested against real Go, not proved from fmt's source: count such statements apart). THE CARD IS WHAT COUNTS. Prove the row's statement (the work); the ties are given (YtcfkhhnkboealaaDoorTie.lean); close each card by the builder's one call (the guide's Derived/Test/ToyasCard.lean, 'card_holds'). Laid BY PROGRAM, IN A SANDBOX (cutbox-door.mjs). By AI agents, Wed Nov 11 2026. No macro, syntax, notation, axiom, sorry.
-/
import Derived.Test.YtcfkhhnkboealaaDoorRows
import GoSem.ClaimSeven
namespace Go.Proofs.YtcfkhhnkboealaaDoor
namespace Rows

/-- THE TIED CARD OF 'eddylaw04.ElemTruly'. -/
def elemTrulyCard : Claim7 := { stood := { row := elemTrulyRow, standIns := [], harness := (true, "add8215e72a52433d31e82aab2ea39df79767057a839b04bfc3a32bd451bdf23"), looks := false }, kinds := [], alts := [], laidByText := true, laidKinds := [.data], laidTests := true, laidLooks := .later }
def ElemTrulyCardSaid : Prop := Claim7.holds Tryd.pinned (.plain (OpenSpec.ofChange elemTrulySpec)) elemTrulyCard

/-- THE TIED CARD OF 'eddylaw04.ElemTrue'. -/
def elemTrueCard : Claim7 := { stood := { row := elemTrueRow, standIns := [], harness := (true, "add8215e72a52433d31e82aab2ea39df79767057a839b04bfc3a32bd451bdf23"), looks := false }, kinds := [], alts := [], laidByText := true, laidKinds := [.data], laidTests := true, laidLooks := .later }
def ElemTrueCardSaid : Prop := Claim7.holds Tryd.pinned (.plain (OpenSpec.ofChange elemTrueSpec)) elemTrueCard

/-- THE TIED CARD OF 'eddylaw04.ElemHalf'. -/
def elemHalfCard : Claim7 := { stood := { row := elemHalfRow, standIns := [], harness := (true, "add8215e72a52433d31e82aab2ea39df79767057a839b04bfc3a32bd451bdf23"), looks := false }, kinds := [], alts := [], laidByText := true, laidKinds := [.data], laidTests := true, laidLooks := .later }
def ElemHalfCardSaid : Prop := Claim7.holds Tryd.pinned (.plain (OpenSpec.ofChange elemHalfSpec)) elemHalfCard

/-- THE TIED CARD OF 'eddylaw05.AngleTrue'. -/
def angleTrueCard : Claim7 := { stood := { row := angleTrueRow, standIns := [], harness := (true, "add8215e72a52433d31e82aab2ea39df79767057a839b04bfc3a32bd451bdf23"), looks := false }, kinds := [], alts := [], laidByText := true, laidKinds := [.data], laidTests := true, laidLooks := .later }
def AngleTrueCardSaid : Prop := Claim7.holds Tryd.pinned (.plain (OpenSpec.ofChange angleTrueSpec)) angleTrueCard

/-- THE TIED CARD OF 'eddylaw05.AngleNear'. -/
def angleNearCard : Claim7 := { stood := { row := angleNearRow, standIns := [], harness := (true, "add8215e72a52433d31e82aab2ea39df79767057a839b04bfc3a32bd451bdf23"), looks := false }, kinds := [], alts := [], laidByText := true, laidKinds := [.data], laidTests := true, laidLooks := .later }
def AngleNearCardSaid : Prop := Claim7.holds Tryd.pinned (.plain (OpenSpec.ofChange angleNearSpec)) angleNearCard

/-- THE SECOND FORM's CARD OF 'eddylaw04.ElemTruly'. -/
def elemTrulyUptoCard : Claim7 := { stood := { row := elemTrulyUptoRow, standIns := [], harness := (true, "add8215e72a52433d31e82aab2ea39df79767057a839b04bfc3a32bd451bdf23"), looks := false }, kinds := [], alts := [], laidByText := true, laidKinds := [.data], laidTests := true, laidLooks := .later }
def ElemTrulyUptoCardSaid : Prop := Claim7.holds Tryd.pinned (.plain (OpenSpec.upto elemTrulySpec)) elemTrulyUptoCard

/-- THE SECOND FORM's CARD OF 'eddylaw04.ElemTrue'. -/
def elemTrueUptoCard : Claim7 := { stood := { row := elemTrueUptoRow, standIns := [], harness := (true, "add8215e72a52433d31e82aab2ea39df79767057a839b04bfc3a32bd451bdf23"), looks := false }, kinds := [], alts := [], laidByText := true, laidKinds := [.data], laidTests := true, laidLooks := .later }
def ElemTrueUptoCardSaid : Prop := Claim7.holds Tryd.pinned (.plain (OpenSpec.upto elemTrueSpec)) elemTrueUptoCard

/-- THE SECOND FORM's CARD OF 'eddylaw04.ElemHalf'. -/
def elemHalfUptoCard : Claim7 := { stood := { row := elemHalfUptoRow, standIns := [], harness := (true, "add8215e72a52433d31e82aab2ea39df79767057a839b04bfc3a32bd451bdf23"), looks := false }, kinds := [], alts := [], laidByText := true, laidKinds := [.data], laidTests := true, laidLooks := .later }
def ElemHalfUptoCardSaid : Prop := Claim7.holds Tryd.pinned (.plain (OpenSpec.upto elemHalfSpec)) elemHalfUptoCard

/-- THE SECOND FORM's CARD OF 'eddylaw05.AngleTrue'. -/
def angleTrueUptoCard : Claim7 := { stood := { row := angleTrueUptoRow, standIns := [], harness := (true, "add8215e72a52433d31e82aab2ea39df79767057a839b04bfc3a32bd451bdf23"), looks := false }, kinds := [], alts := [], laidByText := true, laidKinds := [.data], laidTests := true, laidLooks := .later }
def AngleTrueUptoCardSaid : Prop := Claim7.holds Tryd.pinned (.plain (OpenSpec.upto angleTrueSpec)) angleTrueUptoCard

/-- THE SECOND FORM's CARD OF 'eddylaw05.AngleNear'. -/
def angleNearUptoCard : Claim7 := { stood := { row := angleNearUptoRow, standIns := [], harness := (true, "add8215e72a52433d31e82aab2ea39df79767057a839b04bfc3a32bd451bdf23"), looks := false }, kinds := [], alts := [], laidByText := true, laidKinds := [.data], laidTests := true, laidLooks := .later }
def AngleNearUptoCardSaid : Prop := Claim7.holds Tryd.pinned (.plain (OpenSpec.upto angleNearSpec)) angleNearUptoCard
end Rows
end Go.Proofs.YtcfkhhnkboealaaDoor
