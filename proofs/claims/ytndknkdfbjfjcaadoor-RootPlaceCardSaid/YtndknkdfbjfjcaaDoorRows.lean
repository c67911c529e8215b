/-
  NARROWER THAN 'FOR EVERY INPUT', by the rows' own cells (each row's printed sentence says how): ElemExps: laid · ElemHalves: laid · FloatNear: laid · PowerSines: laid · PowerSheets: laid · RootOne: laid · RootPlace: laid.
  DERIVED. THE GIVEN ROWS OF THIS SEAT. 7 by the template 'for every input the law returns true; each argument reads behind the call as it read before'; 0 by the template 'total and deterministic' (their statements: YtndknkdfbjfjcaaDoorTotals.lean).
  GIVEN WITH THE SEED: the statements are not yours to turn. If you find one false, say at which input.
  Laid BY PROGRAM, IN A SANDBOX (cutbox-rows.mjs): the forced cells as the released guide's own fill.sh prints them over the translation 5011f014ff7c5f44… (all of the seat's roots in one cut). By AI agents, Wed Nov 11 2026. No macro, syntax, notation, axiom, sorry.
-/
import Derived.Test.YtndknkdfbjfjcaaDoorChecked
import GoSem.Claim
import GoSem.ClaimJoined
import GoSem.ClaimMapViews
import Derived.JoinedTies
import Derived.KernelRfl
namespace Go.Proofs.YtndknkdfbjfjcaaDoor
/- THE CELL 'sum', in the pinned program and in every row, IS THE sha256 OF THE DUMP (.gsa) THAT YtndknkdfbjfjcaaDoorProg.lean LOADS. Nothing in Lean hashes anything: it is a label: what it is worth is what the hold of that sum in a sandbox is worth. -/
noncomputable def Tryd.pinned : Pinned := { name := "ytndknkdfbjfjcaadoor", sum := "5011f014ff7c5f44638cecd9fbb7767672cc734b3176d66a53cfd2fa1c2aed1c", checked := Tryd.checked }
namespace Rows
def none {H : Type} : Left H := { results := [], args := [] }

/- WHAT THE LISTED PACKAGE-LEVEL VARIABLES READ AS WHEN THE CALL BEGINS. Each datum BY PROGRAM (the guide's laid-datum.mjs) off the statement by which the dump's own 'gosem.cut.vars' lays the variable. In a bare row this is a premise. The card (YtndknkdfbjfjcaaDoorCards.lean) ties it to the program's text. -/
def laid_math_bits_deBruijn32tab {H : Type} : DataW H := .agg [.lit (.int .u8 0), .lit (.int .u8 1), .lit (.int .u8 28), .lit (.int .u8 2), .lit (.int .u8 29), .lit (.int .u8 14), .lit (.int .u8 24), .lit (.int .u8 3), .lit (.int .u8 30), .lit (.int .u8 22), .lit (.int .u8 20), .lit (.int .u8 15), .lit (.int .u8 25), .lit (.int .u8 17), .lit (.int .u8 4), .lit (.int .u8 8), .lit (.int .u8 31), .lit (.int .u8 27), .lit (.int .u8 13), .lit (.int .u8 23), .lit (.int .u8 21), .lit (.int .u8 19), .lit (.int .u8 16), .lit (.int .u8 7), .lit (.int .u8 26), .lit (.int .u8 12), .lit (.int .u8 18), .lit (.int .u8 6), .lit (.int .u8 11), .lit (.int .u8 5), .lit (.int .u8 10), .lit (.int .u8 9)]

/-- 'eddylaw04.ElemExps': WHATEVER THE INPUT: true; the input reads as it did. -/
def elemExpsSpec : ChangeSpec := { name := "elemExps", fn := fun _ => fun
  | [d] => { results := [.lit (.bool true)], args := [d] }
  | _ => none }
def elemExpsRow : OpenClaim := { program := "ytndknkdfbjfjcaadoor", sum := "5011f014ff7c5f44638cecd9fbb7767672cc734b3176d66a53cfd2fa1c2aed1c", func := "eddy/eddylaw04.ElemExps", spec := "elemExps", inPlace := ["math.Float64frombits", "math.RoundToEven", "math.Float64bits"], named := ["math/bits.deBruijn32tab"], apart := false, laid := [("math/bits.deBruijn32tab", laid_math_bits_deBruijn32tab)] }
def ElemExpsSaid : Prop := elemExpsRow.holds Tryd.pinned (OpenSpec.ofChange elemExpsSpec)

/-- ITS FALSE NEIGHBOUR: 'it returns false'. Refute it at one input. -/
def elemExpsWrong : ChangeSpec := { name := "elemExps", fn := fun _ => fun
  | [d] => { results := [.lit (.bool false)], args := [d] }
  | _ => none }
def ElemExpsWrongFalsely : Prop := elemExpsRow.holds Tryd.pinned (OpenSpec.ofChange elemExpsWrong)

/-- 'eddylaw04.ElemHalves': WHATEVER THE INPUT: true; the input reads as it did. -/
def elemHalvesSpec : ChangeSpec := { name := "elemHalves", fn := fun _ => fun
  | [d] => { results := [.lit (.bool true)], args := [d] }
  | _ => none }
def elemHalvesRow : OpenClaim := { program := "ytndknkdfbjfjcaadoor", sum := "5011f014ff7c5f44638cecd9fbb7767672cc734b3176d66a53cfd2fa1c2aed1c", func := "eddy/eddylaw04.ElemHalves", spec := "elemHalves", inPlace := ["math.Float64frombits", "math.RoundToEven", "math.Float64bits"], named := ["math/bits.deBruijn32tab"], apart := false, laid := [("math/bits.deBruijn32tab", laid_math_bits_deBruijn32tab)] }
def ElemHalvesSaid : Prop := elemHalvesRow.holds Tryd.pinned (OpenSpec.ofChange elemHalvesSpec)

/-- ITS FALSE NEIGHBOUR: 'it returns false'. Refute it at one input. -/
def elemHalvesWrong : ChangeSpec := { name := "elemHalves", fn := fun _ => fun
  | [d] => { results := [.lit (.bool false)], args := [d] }
  | _ => none }
def ElemHalvesWrongFalsely : Prop := elemHalvesRow.holds Tryd.pinned (OpenSpec.ofChange elemHalvesWrong)

/-- 'eddylaw01.FloatNear': WHATEVER THE INPUT: true; the input reads as it did. -/
def floatNearSpec : ChangeSpec := { name := "floatNear", fn := fun _ => fun
  | [d1, d2] => { results := [.lit (.bool true)], args := [d1, d2] }
  | _ => none }
def floatNearRow : OpenClaim := { program := "ytndknkdfbjfjcaadoor", sum := "5011f014ff7c5f44638cecd9fbb7767672cc734b3176d66a53cfd2fa1c2aed1c", func := "eddy/eddylaw01.FloatNear", spec := "floatNear", inPlace := ["math.Float64frombits", "math.Float64bits", "math.RoundToEven"], named := ["math/bits.deBruijn32tab"], apart := false, laid := [("math/bits.deBruijn32tab", laid_math_bits_deBruijn32tab)] }
def FloatNearSaid : Prop := floatNearRow.holds Tryd.pinned (OpenSpec.ofChange floatNearSpec)

/-- ITS FALSE NEIGHBOUR: 'it returns false'. Refute it at one input. -/
def floatNearWrong : ChangeSpec := { name := "floatNear", fn := fun _ => fun
  | [d1, d2] => { results := [.lit (.bool false)], args := [d1, d2] }
  | _ => none }
def FloatNearWrongFalsely : Prop := floatNearRow.holds Tryd.pinned (OpenSpec.ofChange floatNearWrong)

/-- 'eddylaw07.PowerSines': WHATEVER THE INPUT: true; the input reads as it did. -/
def powerSinesSpec : ChangeSpec := { name := "powerSines", fn := fun _ => fun
  | [d] => { results := [.lit (.bool true)], args := [d] }
  | _ => none }
def powerSinesRow : OpenClaim := { program := "ytndknkdfbjfjcaadoor", sum := "5011f014ff7c5f44638cecd9fbb7767672cc734b3176d66a53cfd2fa1c2aed1c", func := "eddy/eddylaw07.PowerSines", spec := "powerSines", inPlace := ["math.Float64frombits", "math.Float64bits", "math.RoundToEven"], unfollowed := true, recurses := true, named := ["math/bits.deBruijn32tab"], apart := false, laid := [("math/bits.deBruijn32tab", laid_math_bits_deBruijn32tab)] }
def PowerSinesSaid : Prop := powerSinesRow.holds Tryd.pinned (OpenSpec.ofChange powerSinesSpec)

/-- ITS FALSE NEIGHBOUR: 'it returns false'. Refute it at one input. -/
def powerSinesWrong : ChangeSpec := { name := "powerSines", fn := fun _ => fun
  | [d] => { results := [.lit (.bool false)], args := [d] }
  | _ => none }
def PowerSinesWrongFalsely : Prop := powerSinesRow.holds Tryd.pinned (OpenSpec.ofChange powerSinesWrong)

/-- 'eddylaw07.PowerSheets': WHATEVER THE INPUT: true; the input reads as it did. -/
def powerSheetsSpec : ChangeSpec := { name := "powerSheets", fn := fun _ => fun
  | [d1, d2] => { results := [.lit (.bool true)], args := [d1, d2] }
  | _ => none }
def powerSheetsRow : OpenClaim := { program := "ytndknkdfbjfjcaadoor", sum := "5011f014ff7c5f44638cecd9fbb7767672cc734b3176d66a53cfd2fa1c2aed1c", func := "eddy/eddylaw07.PowerSheets", spec := "powerSheets", inPlace := ["math.Float64frombits", "math.Float64bits", "math.sqrt"], named := ["math/bits.deBruijn32tab"], apart := false, laid := [("math/bits.deBruijn32tab", laid_math_bits_deBruijn32tab)] }
def PowerSheetsSaid : Prop := powerSheetsRow.holds Tryd.pinned (OpenSpec.ofChange powerSheetsSpec)

/-- ITS FALSE NEIGHBOUR: 'it returns false'. Refute it at one input. -/
def powerSheetsWrong : ChangeSpec := { name := "powerSheets", fn := fun _ => fun
  | [d1, d2] => { results := [.lit (.bool false)], args := [d1, d2] }
  | _ => none }
def PowerSheetsWrongFalsely : Prop := powerSheetsRow.holds Tryd.pinned (OpenSpec.ofChange powerSheetsWrong)

/-- 'eddylaw06.RootOne': WHATEVER THE INPUT: true; the input reads as it did. -/
def rootOneSpec : ChangeSpec := { name := "rootOne", fn := fun _ => fun
  | [d] => { results := [.lit (.bool true)], args := [d] }
  | _ => none }
def rootOneRow : OpenClaim := { program := "ytndknkdfbjfjcaadoor", sum := "5011f014ff7c5f44638cecd9fbb7767672cc734b3176d66a53cfd2fa1c2aed1c", func := "eddy/eddylaw06.RootOne", spec := "rootOne", inPlace := ["math.Float64bits", "math.Float64frombits", "math.sqrt"], named := ["math/bits.deBruijn32tab"], apart := false, laid := [("math/bits.deBruijn32tab", laid_math_bits_deBruijn32tab)] }
def RootOneSaid : Prop := rootOneRow.holds Tryd.pinned (OpenSpec.ofChange rootOneSpec)

/-- ITS FALSE NEIGHBOUR: 'it returns false'. Refute it at one input. -/
def rootOneWrong : ChangeSpec := { name := "rootOne", fn := fun _ => fun
  | [d] => { results := [.lit (.bool false)], args := [d] }
  | _ => none }
def RootOneWrongFalsely : Prop := rootOneRow.holds Tryd.pinned (OpenSpec.ofChange rootOneWrong)

/-- 'eddylaw06.RootPlace': WHATEVER THE INPUT: true; the input reads as it did. -/
def rootPlaceSpec : ChangeSpec := { name := "rootPlace", fn := fun _ => fun
  | [d1, d2, d3, d4, d5] => { results := [.lit (.bool true)], args := [d1, d2, d3, d4, d5] }
  | _ => none }
def rootPlaceRow : OpenClaim := { program := "ytndknkdfbjfjcaadoor", sum := "5011f014ff7c5f44638cecd9fbb7767672cc734b3176d66a53cfd2fa1c2aed1c", func := "eddy/eddylaw06.RootPlace", spec := "rootPlace", inPlace := ["math.Float64bits", "math.Float64frombits", "math.sqrt", "math.RoundToEven"], named := ["math/bits.deBruijn32tab"], apart := false, laid := [("math/bits.deBruijn32tab", laid_math_bits_deBruijn32tab)] }
def RootPlaceSaid : Prop := rootPlaceRow.holds Tryd.pinned (OpenSpec.ofChange rootPlaceSpec)

/-- ITS FALSE NEIGHBOUR: 'it returns false'. Refute it at one input. -/
def rootPlaceWrong : ChangeSpec := { name := "rootPlace", fn := fun _ => fun
  | [d1, d2, d3, d4, d5] => { results := [.lit (.bool false)], args := [d1, d2, d3, d4, d5] }
  | _ => none }
def RootPlaceWrongFalsely : Prop := rootPlaceRow.holds Tryd.pinned (OpenSpec.ofChange rootPlaceWrong)

/- THE SECOND FORM. 'bulk': how many values and letters a reading holds, each counted each time it is reached (what is shared counts as often as it is met; a slice's spare places count too). A statement '..UptoSaid' is the law's where the arguments, and the package variables that the reading takes, are together of bulk at most 1048576: NARROWER than '..Said'. Prove '..Said' where nothing that the law and all that it calls make is longer than what came in: it says more and counts as full. Else prove '..UptoSaid'. A law counts once. -/
mutual
def uptoBulk {H : Type} : DataW H → Nat
  | .lit (.string bytes) => bytes.length + 1
  | .lit _ => 1
  | .nil => 1
  | .ptr d => uptoBulk d + 1
  | .slice elems spare => uptoBulkAll elems + uptoBulkAll spare + 1
  | .agg parts => uptoBulkAll parts + 1
  | .iface _ d => uptoBulk d + 1
  | .map entries => uptoBulkEntries entries + 1
  | .held _ => 1
def uptoBulkAll {H : Type} : List (DataW H) → Nat
  | [] => 0
  | d :: r => uptoBulk d + uptoBulkAll r
def uptoBulkEntries {H : Type} : List (Lit × DataW H) → Nat
  | [] => 0
  | x :: r => uptoBulkEntry x + uptoBulkEntries r
def uptoBulkEntry {H : Type} : Lit × DataW H → Nat
  | (.string bytes, d) => bytes.length + uptoBulk d + 1
  | (_, d) => uptoBulk d + 1
 end
def uptoSmall : (H : Type) → List (DataW H) → Bool := fun _ ds => decide (uptoBulkAll ds ≤ 1048576)
def OpenSpec.upto (s : _root_.Go.ChangeSpec) : _root_.Go.OpenSpec := { _root_.Go.OpenSpec.ofChange s with cond := some uptoSmall }

/-- 'eddylaw04.ElemExps', WHERE WHAT IT READS IS OF BULK AT MOST 1048576: true; the input reads as it did. -/
def elemExpsUptoRow : OpenClaim := { program := "ytndknkdfbjfjcaadoor", sum := "5011f014ff7c5f44638cecd9fbb7767672cc734b3176d66a53cfd2fa1c2aed1c", func := "eddy/eddylaw04.ElemExps", spec := "elemExps", inPlace := ["math.Float64frombits", "math.RoundToEven", "math.Float64bits"], named := ["math/bits.deBruijn32tab"], apart := false, laid := [("math/bits.deBruijn32tab", laid_math_bits_deBruijn32tab)], narrowed := true }
def ElemExpsUptoSaid : Prop := elemExpsUptoRow.holds Tryd.pinned (OpenSpec.upto elemExpsSpec)

/-- 'eddylaw04.ElemHalves', WHERE WHAT IT READS IS OF BULK AT MOST 1048576: true; the input reads as it did. -/
def elemHalvesUptoRow : OpenClaim := { program := "ytndknkdfbjfjcaadoor", sum := "5011f014ff7c5f44638cecd9fbb7767672cc734b3176d66a53cfd2fa1c2aed1c", func := "eddy/eddylaw04.ElemHalves", spec := "elemHalves", inPlace := ["math.Float64frombits", "math.RoundToEven", "math.Float64bits"], named := ["math/bits.deBruijn32tab"], apart := false, laid := [("math/bits.deBruijn32tab", laid_math_bits_deBruijn32tab)], narrowed := true }
def ElemHalvesUptoSaid : Prop := elemHalvesUptoRow.holds Tryd.pinned (OpenSpec.upto elemHalvesSpec)

/-- 'eddylaw01.FloatNear', WHERE WHAT IT READS IS OF BULK AT MOST 1048576: true; the input reads as it did. -/
def floatNearUptoRow : OpenClaim := { program := "ytndknkdfbjfjcaadoor", sum := "5011f014ff7c5f44638cecd9fbb7767672cc734b3176d66a53cfd2fa1c2aed1c", func := "eddy/eddylaw01.FloatNear", spec := "floatNear", inPlace := ["math.Float64frombits", "math.Float64bits", "math.RoundToEven"], named := ["math/bits.deBruijn32tab"], apart := false, laid := [("math/bits.deBruijn32tab", laid_math_bits_deBruijn32tab)], narrowed := true }
def FloatNearUptoSaid : Prop := floatNearUptoRow.holds Tryd.pinned (OpenSpec.upto floatNearSpec)

/-- 'eddylaw07.PowerSines', WHERE WHAT IT READS IS OF BULK AT MOST 1048576: true; the input reads as it did. -/
def powerSinesUptoRow : OpenClaim := { program := "ytndknkdfbjfjcaadoor", sum := "5011f014ff7c5f44638cecd9fbb7767672cc734b3176d66a53cfd2fa1c2aed1c", func := "eddy/eddylaw07.PowerSines", spec := "powerSines", inPlace := ["math.Float64frombits", "math.Float64bits", "math.RoundToEven"], unfollowed := true, recurses := true, named := ["math/bits.deBruijn32tab"], apart := false, laid := [("math/bits.deBruijn32tab", laid_math_bits_deBruijn32tab)], narrowed := true }
def PowerSinesUptoSaid : Prop := powerSinesUptoRow.holds Tryd.pinned (OpenSpec.upto powerSinesSpec)

/-- 'eddylaw07.PowerSheets', WHERE WHAT IT READS IS OF BULK AT MOST 1048576: true; the input reads as it did. -/
def powerSheetsUptoRow : OpenClaim := { program := "ytndknkdfbjfjcaadoor", sum := "5011f014ff7c5f44638cecd9fbb7767672cc734b3176d66a53cfd2fa1c2aed1c", func := "eddy/eddylaw07.PowerSheets", spec := "powerSheets", inPlace := ["math.Float64frombits", "math.Float64bits", "math.sqrt"], named := ["math/bits.deBruijn32tab"], apart := false, laid := [("math/bits.deBruijn32tab", laid_math_bits_deBruijn32tab)], narrowed := true }
def PowerSheetsUptoSaid : Prop := powerSheetsUptoRow.holds Tryd.pinned (OpenSpec.upto powerSheetsSpec)

/-- 'eddylaw06.RootOne', WHERE WHAT IT READS IS OF BULK AT MOST 1048576: true; the input reads as it did. -/
def rootOneUptoRow : OpenClaim := { program := "ytndknkdfbjfjcaadoor", sum := "5011f014ff7c5f44638cecd9fbb7767672cc734b3176d66a53cfd2fa1c2aed1c", func := "eddy/eddylaw06.RootOne", spec := "rootOne", inPlace := ["math.Float64bits", "math.Float64frombits", "math.sqrt"], named := ["math/bits.deBruijn32tab"], apart := false, laid := [("math/bits.deBruijn32tab", laid_math_bits_deBruijn32tab)], narrowed := true }
def RootOneUptoSaid : Prop := rootOneUptoRow.holds Tryd.pinned (OpenSpec.upto rootOneSpec)

/-- 'eddylaw06.RootPlace', WHERE WHAT IT READS IS OF BULK AT MOST 1048576: true; the input reads as it did. -/
def rootPlaceUptoRow : OpenClaim := { program := "ytndknkdfbjfjcaadoor", sum := "5011f014ff7c5f44638cecd9fbb7767672cc734b3176d66a53cfd2fa1c2aed1c", func := "eddy/eddylaw06.RootPlace", spec := "rootPlace", inPlace := ["math.Float64bits", "math.Float64frombits", "math.sqrt", "math.RoundToEven"], named := ["math/bits.deBruijn32tab"], apart := false, laid := [("math/bits.deBruijn32tab", laid_math_bits_deBruijn32tab)], narrowed := true }
def RootPlaceUptoSaid : Prop := rootPlaceUptoRow.holds Tryd.pinned (OpenSpec.upto rootPlaceSpec)

end Rows
end Go.Proofs.YtndknkdfbjfjcaaDoor
