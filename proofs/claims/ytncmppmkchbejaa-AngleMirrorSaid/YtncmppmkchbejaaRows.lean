/-
  No cell of these rows narrows 'for every input' (looked for: loops, veiled, ifaces, maps, wideKeys, modest, calm, conditions, laid).
  DERIVED. THE GIVEN ROWS OF THIS SEAT. 3 by the template 'for every input the law returns true; each argument reads behind the call as it read before'; 0 by the template 'total and deterministic' (their statements: YtncmppmkchbejaaTotals.lean).
  GIVEN WITH THE SEED: the statements are not yours to turn. If you find one false, say at which input.
  Laid BY PROGRAM, IN A SANDBOX (cutbox-rows.mjs): the forced cells as the released guide's own fill.sh prints them over the translation b25b532a14d716a1… (all of the seat's roots in one cut). By AI agents, Wed Nov 11 2026. No macro, syntax, notation, axiom, sorry.
-/
import Derived.Test.YtncmppmkchbejaaChecked
import GoSem.Claim
import GoSem.ClaimJoined
import GoSem.ClaimMapViews
import Derived.JoinedTies
import Derived.KernelRfl
namespace Go.Proofs.Ytncmppmkchbejaa
/- THE CELL 'sum', in the pinned program and in every row, IS THE sha256 OF THE DUMP (.gsa) THAT YtncmppmkchbejaaProg.lean LOADS. Nothing in Lean hashes anything: it is a label: what it is worth is what the hold of that sum in a sandbox is worth. -/
noncomputable def Try.pinned : Pinned := { name := "ytncmppmkchbejaa", sum := "b25b532a14d716a19c17445a206cfbc359ab9df0cd17f05aa5041da5afbdf757", checked := Try.checked }
namespace Rows
def none {H : Type} : Left H := { results := [], args := [] }

/-- 'eddylaw05.AngleTurns': WHATEVER THE INPUT: true; the input reads as it did. -/
def angleTurnsSpec : ChangeSpec := { name := "angleTurns", fn := fun _ => fun
  | [d] => { results := [.lit (.bool true)], args := [d] }
  | _ => none }
def angleTurnsRow : OpenClaim := { program := "ytncmppmkchbejaa", sum := "b25b532a14d716a19c17445a206cfbc359ab9df0cd17f05aa5041da5afbdf757", func := "eddy/eddylaw05.AngleTurns", spec := "angleTurns", inPlace := ["math.Float64bits", "math.Float64frombits", "math.RoundToEven"], apart := false }
def AngleTurnsSaid : Prop := angleTurnsRow.holds Try.pinned (OpenSpec.ofChange angleTurnsSpec)

/-- ITS FALSE NEIGHBOUR: 'it returns false'. Refute it at one input. -/
def angleTurnsWrong : ChangeSpec := { name := "angleTurns", fn := fun _ => fun
  | [d] => { results := [.lit (.bool false)], args := [d] }
  | _ => none }
def AngleTurnsWrongFalsely : Prop := angleTurnsRow.holds Try.pinned (OpenSpec.ofChange angleTurnsWrong)

/-- 'eddylaw05.AnglePlaces': WHATEVER THE INPUT: true; the input reads as it did. -/
def anglePlacesSpec : ChangeSpec := { name := "anglePlaces", fn := fun _ => fun
  | [d1, d2] => { results := [.lit (.bool true)], args := [d1, d2] }
  | _ => none }
def anglePlacesRow : OpenClaim := { program := "ytncmppmkchbejaa", sum := "b25b532a14d716a19c17445a206cfbc359ab9df0cd17f05aa5041da5afbdf757", func := "eddy/eddylaw05.AnglePlaces", spec := "anglePlaces", inPlace := ["math.Float64bits", "math.Float64frombits", "math.RoundToEven"], apart := false }
def AnglePlacesSaid : Prop := anglePlacesRow.holds Try.pinned (OpenSpec.ofChange anglePlacesSpec)

/-- ITS FALSE NEIGHBOUR: 'it returns false'. Refute it at one input. -/
def anglePlacesWrong : ChangeSpec := { name := "anglePlaces", fn := fun _ => fun
  | [d1, d2] => { results := [.lit (.bool false)], args := [d1, d2] }
  | _ => none }
def AnglePlacesWrongFalsely : Prop := anglePlacesRow.holds Try.pinned (OpenSpec.ofChange anglePlacesWrong)

/-- 'eddylaw05.AngleMirror': WHATEVER THE INPUT: true; the input reads as it did. -/
def angleMirrorSpec : ChangeSpec := { name := "angleMirror", fn := fun _ => fun
  | [d1, d2] => { results := [.lit (.bool true)], args := [d1, d2] }
  | _ => none }
def angleMirrorRow : OpenClaim := { program := "ytncmppmkchbejaa", sum := "b25b532a14d716a19c17445a206cfbc359ab9df0cd17f05aa5041da5afbdf757", func := "eddy/eddylaw05.AngleMirror", spec := "angleMirror", inPlace := ["math.Float64bits", "math.Float64frombits", "math.RoundToEven"], apart := false }
def AngleMirrorSaid : Prop := angleMirrorRow.holds Try.pinned (OpenSpec.ofChange angleMirrorSpec)

/-- ITS FALSE NEIGHBOUR: 'it returns false'. Refute it at one input. -/
def angleMirrorWrong : ChangeSpec := { name := "angleMirror", fn := fun _ => fun
  | [d1, d2] => { results := [.lit (.bool false)], args := [d1, d2] }
  | _ => none }
def AngleMirrorWrongFalsely : Prop := angleMirrorRow.holds Try.pinned (OpenSpec.ofChange angleMirrorWrong)

/- THE SECOND FORM. 'bulk': how many values and letters a reading holds, each counted each time it is reached (what is shared counts as often as it is met; a slice's spare places count too). A statement '..UptoSaid' is the law's where the arguments, and the package variables that the reading takes, are together of bulk at most 1048576: NARROWER than '..Said'. Prove '..Said' where nothing that the law and all that it calls make is longer than what came in: it says more and counts as full. Else prove '..UptoSaid'. A law counts once. -/
mutual
def uptoBulk {H : Type} : DataW H → Nat
  | .lit (.string bytes) => bytes.length + 1
  | .lit _ => 1
  | .nil => 1
  | .ptr d => uptoBulk d + 1
  | .slice elems spare => uptoBulkAll elems + uptoBulkAll spare + 1
  | .agg parts => uptoBulkAll parts + 1
  | .iface _ d => uptoBulk d + 1
  | .map entries => uptoBulkEntries entries + 1
  | .held _ => 1
def uptoBulkAll {H : Type} : List (DataW H) → Nat
  | [] => 0
  | d :: r => uptoBulk d + uptoBulkAll r
def uptoBulkEntries {H : Type} : List (Lit × DataW H) → Nat
  | [] => 0
  | x :: r => uptoBulkEntry x + uptoBulkEntries r
def uptoBulkEntry {H : Type} : Lit × DataW H → Nat
  | (.string bytes, d) => bytes.length + uptoBulk d + 1
  | (_, d) => uptoBulk d + 1
 end
def uptoSmall : (H : Type) → List (DataW H) → Bool := fun _ ds => decide (uptoBulkAll ds ≤ 1048576)
def OpenSpec.upto (s : _root_.Go.ChangeSpec) : _root_.Go.OpenSpec := { _root_.Go.OpenSpec.ofChange s with cond := some uptoSmall }

/-- 'eddylaw05.AngleTurns', WHERE WHAT IT READS IS OF BULK AT MOST 1048576: true; the input reads as it did. -/
def angleTurnsUptoRow : OpenClaim := { program := "ytncmppmkchbejaa", sum := "b25b532a14d716a19c17445a206cfbc359ab9df0cd17f05aa5041da5afbdf757", func := "eddy/eddylaw05.AngleTurns", spec := "angleTurns", inPlace := ["math.Float64bits", "math.Float64frombits", "math.RoundToEven"], apart := false, narrowed := true }
def AngleTurnsUptoSaid : Prop := angleTurnsUptoRow.holds Try.pinned (OpenSpec.upto angleTurnsSpec)

/-- 'eddylaw05.AnglePlaces', WHERE WHAT IT READS IS OF BULK AT MOST 1048576: true; the input reads as it did. -/
def anglePlacesUptoRow : OpenClaim := { program := "ytncmppmkchbejaa", sum := "b25b532a14d716a19c17445a206cfbc359ab9df0cd17f05aa5041da5afbdf757", func := "eddy/eddylaw05.AnglePlaces", spec := "anglePlaces", inPlace := ["math.Float64bits", "math.Float64frombits", "math.RoundToEven"], apart := false, narrowed := true }
def AnglePlacesUptoSaid : Prop := anglePlacesUptoRow.holds Try.pinned (OpenSpec.upto anglePlacesSpec)

/-- 'eddylaw05.AngleMirror', WHERE WHAT IT READS IS OF BULK AT MOST 1048576: true; the input reads as it did. -/
def angleMirrorUptoRow : OpenClaim := { program := "ytncmppmkchbejaa", sum := "b25b532a14d716a19c17445a206cfbc359ab9df0cd17f05aa5041da5afbdf757", func := "eddy/eddylaw05.AngleMirror", spec := "angleMirror", inPlace := ["math.Float64bits", "math.Float64frombits", "math.RoundToEven"], apart := false, narrowed := true }
def AngleMirrorUptoSaid : Prop := angleMirrorUptoRow.holds Try.pinned (OpenSpec.upto angleMirrorSpec)

end Rows
end Go.Proofs.Ytncmppmkchbejaa
