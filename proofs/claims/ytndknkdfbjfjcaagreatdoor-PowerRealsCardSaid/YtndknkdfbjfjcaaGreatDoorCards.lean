/-
  DERIVED. GIVEN WITH THE SEED: THE CARDS: each row of YtndknkdfbjfjcaaGreatDoorRows.lean that lists a variable, with what it lists TIED to the program's text (the seventh form; the later family's looks); each row that meets fmt, with fmt's text TOLD by the authors' own Lean function (tested against real Go, not proved from fmt's source: count such statements apart). THE CARD IS WHAT COUNTS. Prove the row's statement (the work); the ties are given (YtndknkdfbjfjcaaGreatDoorTie.lean); close each card by the builder's one call (the guide's Derived/Test/ToyasCard.lean, 'card_holds'). Laid BY PROGRAM, IN A SANDBOX (cutbox-door.mjs). By AI agents, Wed Nov 11 2026. No macro, syntax, notation, axiom, sorry.
-/
import Derived.Test.YtndknkdfbjfjcaaGreatDoorRows
import GoSem.ClaimSeven
namespace Go.Proofs.YtndknkdfbjfjcaaGreatDoor
namespace Rows

/-- THE TIED CARD OF 'eddylaw07.PowerExps'. -/
def powerExpsCard : Claim7 := { stood := { row := powerExpsRow, standIns := [], harness := (true, "1046e7d6cd372cedd95dfa5a09db9a7663c4c11264ead50df560b436a79cff9d"), looks := false }, kinds := [], alts := [], laidByText := true, laidKinds := [.data], laidTests := true, laidLooks := .later }
def PowerExpsCardSaid : Prop := Claim7.holds Tryz.pinned (.plain (OpenSpec.ofChange powerExpsSpec)) powerExpsCard

/-- THE TIED CARD OF 'eddylaw07.PowerReals'. -/
def powerRealsCard : Claim7 := { stood := { row := powerRealsRow, standIns := [], harness := (true, "1046e7d6cd372cedd95dfa5a09db9a7663c4c11264ead50df560b436a79cff9d"), looks := false }, kinds := [], alts := [], laidByText := true, laidKinds := [.data], laidTests := true, laidLooks := .later }
def PowerRealsCardSaid : Prop := Claim7.holds Tryz.pinned (.plain (OpenSpec.ofChange powerRealsSpec)) powerRealsCard

/-- THE SECOND FORM's CARD OF 'eddylaw07.PowerExps'. -/
def powerExpsUptoCard : Claim7 := { stood := { row := powerExpsUptoRow, standIns := [], harness := (true, "1046e7d6cd372cedd95dfa5a09db9a7663c4c11264ead50df560b436a79cff9d"), looks := false }, kinds := [], alts := [], laidByText := true, laidKinds := [.data], laidTests := true, laidLooks := .later }
def PowerExpsUptoCardSaid : Prop := Claim7.holds Tryz.pinned (.plain (OpenSpec.upto powerExpsSpec)) powerExpsUptoCard

/-- THE SECOND FORM's CARD OF 'eddylaw07.PowerReals'. -/
def powerRealsUptoCard : Claim7 := { stood := { row := powerRealsUptoRow, standIns := [], harness := (true, "1046e7d6cd372cedd95dfa5a09db9a7663c4c11264ead50df560b436a79cff9d"), looks := false }, kinds := [], alts := [], laidByText := true, laidKinds := [.data], laidTests := true, laidLooks := .later }
def PowerRealsUptoCardSaid : Prop := Claim7.holds Tryz.pinned (.plain (OpenSpec.upto powerRealsSpec)) powerRealsUptoCard
end Rows
end Go.Proofs.YtndknkdfbjfjcaaGreatDoor
