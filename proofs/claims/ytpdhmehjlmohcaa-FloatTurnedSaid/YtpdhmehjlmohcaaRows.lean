/-
  No cell of these rows narrows 'for every input' (looked for: loops, veiled, ifaces, maps, wideKeys, modest, calm, conditions, laid).
  DERIVED. THE GIVEN ROWS OF THIS SEAT. 7 by the template 'for every input the law returns true; each argument reads behind the call as it read before'; 0 by the template 'total and deterministic' (their statements: YtpdhmehjlmohcaaTotals.lean).
  GIVEN WITH THE SEED: the statements are not yours to turn. If you find one false, say at which input.
  Laid BY PROGRAM, IN A SANDBOX (cutbox-rows.mjs): the forced cells as the released guide's own fill.sh prints them over the translation ee6725086d2aa3d6… (all of the seat's roots in one cut). By AI agents, Wed Nov 11 2026. No macro, syntax, notation, axiom, sorry.
-/
import Derived.Test.YtpdhmehjlmohcaaChecked
import GoSem.Claim
import GoSem.ClaimJoined
import GoSem.ClaimMapViews
import Derived.JoinedTies
import Derived.KernelRfl
namespace Go.Proofs.Ytpdhmehjlmohcaa
/- THE CELL 'sum', in the pinned program and in every row, IS THE sha256 OF THE DUMP (.gsa) THAT YtpdhmehjlmohcaaProg.lean LOADS. Nothing in Lean hashes anything: it is a label: what it is worth is what the hold of that sum in a sandbox is worth. -/
noncomputable def Try.pinned : Pinned := { name := "ytpdhmehjlmohcaa", sum := "ee6725086d2aa3d6065d0d931b9f9ad929f7de2475d3a560f5d812c989cd9912", checked := Try.checked }
namespace Rows
def none {H : Type} : Left H := { results := [], args := [] }

/-- 'eddylaw01.FloatSame': WHATEVER THE INPUT: true; the input reads as it did. -/
def floatSameSpec : ChangeSpec := { name := "floatSame", fn := fun _ => fun
  | [d1, d2] => { results := [.lit (.bool true)], args := [d1, d2] }
  | _ => none }
def floatSameRow : OpenClaim := { program := "ytpdhmehjlmohcaa", sum := "ee6725086d2aa3d6065d0d931b9f9ad929f7de2475d3a560f5d812c989cd9912", func := "eddy/eddylaw01.FloatSame", spec := "floatSame", inPlace := ["math.Float64frombits", "math.Float64bits"], apart := false }
def FloatSameSaid : Prop := floatSameRow.holds Try.pinned (OpenSpec.ofChange floatSameSpec)

/-- ITS FALSE NEIGHBOUR: 'it returns false'. Refute it at one input. -/
def floatSameWrong : ChangeSpec := { name := "floatSame", fn := fun _ => fun
  | [d1, d2] => { results := [.lit (.bool false)], args := [d1, d2] }
  | _ => none }
def FloatSameWrongFalsely : Prop := floatSameRow.holds Try.pinned (OpenSpec.ofChange floatSameWrong)

/-- 'eddylaw01.FloatSums': WHATEVER THE INPUT: true; the input reads as it did. -/
def floatSumsSpec : ChangeSpec := { name := "floatSums", fn := fun _ => fun
  | [d1, d2, d3] => { results := [.lit (.bool true)], args := [d1, d2, d3] }
  | _ => none }
def floatSumsRow : OpenClaim := { program := "ytpdhmehjlmohcaa", sum := "ee6725086d2aa3d6065d0d931b9f9ad929f7de2475d3a560f5d812c989cd9912", func := "eddy/eddylaw01.FloatSums", spec := "floatSums", inPlace := ["math.Float64frombits", "math.Float64bits"], apart := false }
def FloatSumsSaid : Prop := floatSumsRow.holds Try.pinned (OpenSpec.ofChange floatSumsSpec)

/-- ITS FALSE NEIGHBOUR: 'it returns false'. Refute it at one input. -/
def floatSumsWrong : ChangeSpec := { name := "floatSums", fn := fun _ => fun
  | [d1, d2, d3] => { results := [.lit (.bool false)], args := [d1, d2, d3] }
  | _ => none }
def FloatSumsWrongFalsely : Prop := floatSumsRow.holds Try.pinned (OpenSpec.ofChange floatSumsWrong)

/-- 'eddylaw01.FloatStairs': WHATEVER THE INPUT: true; the input reads as it did. -/
def floatStairsSpec : ChangeSpec := { name := "floatStairs", fn := fun _ => fun
  | [d] => { results := [.lit (.bool true)], args := [d] }
  | _ => none }
def floatStairsRow : OpenClaim := { program := "ytpdhmehjlmohcaa", sum := "ee6725086d2aa3d6065d0d931b9f9ad929f7de2475d3a560f5d812c989cd9912", func := "eddy/eddylaw01.FloatStairs", spec := "floatStairs", inPlace := ["math.Float64frombits", "math.Float64bits"], apart := false }
def FloatStairsSaid : Prop := floatStairsRow.holds Try.pinned (OpenSpec.ofChange floatStairsSpec)

/-- ITS FALSE NEIGHBOUR: 'it returns false'. Refute it at one input. -/
def floatStairsWrong : ChangeSpec := { name := "floatStairs", fn := fun _ => fun
  | [d] => { results := [.lit (.bool false)], args := [d] }
  | _ => none }
def FloatStairsWrongFalsely : Prop := floatStairsRow.holds Try.pinned (OpenSpec.ofChange floatStairsWrong)

/-- 'eddylaw01.FloatLost': WHATEVER THE INPUT: true; the input reads as it did. -/
def floatLostSpec : ChangeSpec := { name := "floatLost", fn := fun _ => fun
  | [d1, d2] => { results := [.lit (.bool true)], args := [d1, d2] }
  | _ => none }
def floatLostRow : OpenClaim := { program := "ytpdhmehjlmohcaa", sum := "ee6725086d2aa3d6065d0d931b9f9ad929f7de2475d3a560f5d812c989cd9912", func := "eddy/eddylaw01.FloatLost", spec := "floatLost", inPlace := ["math.Float64frombits", "math.Float64bits"], apart := false }
def FloatLostSaid : Prop := floatLostRow.holds Try.pinned (OpenSpec.ofChange floatLostSpec)

/-- ITS FALSE NEIGHBOUR: 'it returns false'. Refute it at one input. -/
def floatLostWrong : ChangeSpec := { name := "floatLost", fn := fun _ => fun
  | [d1, d2] => { results := [.lit (.bool false)], args := [d1, d2] }
  | _ => none }
def FloatLostWrongFalsely : Prop := floatLostRow.holds Try.pinned (OpenSpec.ofChange floatLostWrong)

/-- 'eddylaw01.FloatTwos': WHATEVER THE INPUT: true; the input reads as it did. -/
def floatTwosSpec : ChangeSpec := { name := "floatTwos", fn := fun _ => fun
  | [d1, d2] => { results := [.lit (.bool true)], args := [d1, d2] }
  | _ => none }
def floatTwosRow : OpenClaim := { program := "ytpdhmehjlmohcaa", sum := "ee6725086d2aa3d6065d0d931b9f9ad929f7de2475d3a560f5d812c989cd9912", func := "eddy/eddylaw01.FloatTwos", spec := "floatTwos", inPlace := ["math.Float64frombits", "math.Float64bits"], apart := false }
def FloatTwosSaid : Prop := floatTwosRow.holds Try.pinned (OpenSpec.ofChange floatTwosSpec)

/-- ITS FALSE NEIGHBOUR: 'it returns false'. Refute it at one input. -/
def floatTwosWrong : ChangeSpec := { name := "floatTwos", fn := fun _ => fun
  | [d1, d2] => { results := [.lit (.bool false)], args := [d1, d2] }
  | _ => none }
def FloatTwosWrongFalsely : Prop := floatTwosRow.holds Try.pinned (OpenSpec.ofChange floatTwosWrong)

/-- 'eddylaw01.FloatTurned': WHATEVER THE INPUT: true; the input reads as it did. -/
def floatTurnedSpec : ChangeSpec := { name := "floatTurned", fn := fun _ => fun
  | [d1, d2, d3] => { results := [.lit (.bool true)], args := [d1, d2, d3] }
  | _ => none }
def floatTurnedRow : OpenClaim := { program := "ytpdhmehjlmohcaa", sum := "ee6725086d2aa3d6065d0d931b9f9ad929f7de2475d3a560f5d812c989cd9912", func := "eddy/eddylaw01.FloatTurned", spec := "floatTurned", inPlace := ["math.Float64frombits", "math.Float64bits", "math.RoundToEven"], apart := false }
def FloatTurnedSaid : Prop := floatTurnedRow.holds Try.pinned (OpenSpec.ofChange floatTurnedSpec)

/-- ITS FALSE NEIGHBOUR: 'it returns false'. Refute it at one input. -/
def floatTurnedWrong : ChangeSpec := { name := "floatTurned", fn := fun _ => fun
  | [d1, d2, d3] => { results := [.lit (.bool false)], args := [d1, d2, d3] }
  | _ => none }
def FloatTurnedWrongFalsely : Prop := floatTurnedRow.holds Try.pinned (OpenSpec.ofChange floatTurnedWrong)

/-- 'eddylaw01.FloatNames': WHATEVER THE INPUT: true; the input reads as it did. -/
def floatNamesSpec : ChangeSpec := { name := "floatNames", fn := fun _ => fun
  | [] => { results := [.lit (.bool true)], args := [] }
  | _ => none }
def floatNamesRow : OpenClaim := { program := "ytpdhmehjlmohcaa", sum := "ee6725086d2aa3d6065d0d931b9f9ad929f7de2475d3a560f5d812c989cd9912", func := "eddy/eddylaw01.FloatNames", spec := "floatNames", inPlace := ["math.Float64frombits", "math.Float64bits", "math.RoundToEven"], apart := false }
def FloatNamesSaid : Prop := floatNamesRow.holds Try.pinned (OpenSpec.ofChange floatNamesSpec)

/-- ITS FALSE NEIGHBOUR: 'it returns false'. Refute it at one input. -/
def floatNamesWrong : ChangeSpec := { name := "floatNames", fn := fun _ => fun
  | [] => { results := [.lit (.bool false)], args := [] }
  | _ => none }
def FloatNamesWrongFalsely : Prop := floatNamesRow.holds Try.pinned (OpenSpec.ofChange floatNamesWrong)

/- THE SECOND FORM. 'bulk': how many values and letters a reading holds, each counted each time it is reached (what is shared counts as often as it is met; a slice's spare places count too). A statement '..UptoSaid' is the law's where the arguments, and the package variables that the reading takes, are together of bulk at most 1048576: NARROWER than '..Said'. Prove '..Said' where nothing that the law and all that it calls make is longer than what came in: it says more and counts as full. Else prove '..UptoSaid'. A law counts once. -/
mutual
def uptoBulk {H : Type} : DataW H → Nat
  | .lit (.string bytes) => bytes.length + 1
  | .lit _ => 1
  | .nil => 1
  | .ptr d => uptoBulk d + 1
  | .slice elems spare => uptoBulkAll elems + uptoBulkAll spare + 1
  | .agg parts => uptoBulkAll parts + 1
  | .iface _ d => uptoBulk d + 1
  | .map entries => uptoBulkEntries entries + 1
  | .held _ => 1
def uptoBulkAll {H : Type} : List (DataW H) → Nat
  | [] => 0
  | d :: r => uptoBulk d + uptoBulkAll r
def uptoBulkEntries {H : Type} : List (Lit × DataW H) → Nat
  | [] => 0
  | x :: r => uptoBulkEntry x + uptoBulkEntries r
def uptoBulkEntry {H : Type} : Lit × DataW H → Nat
  | (.string bytes, d) => bytes.length + uptoBulk d + 1
  | (_, d) => uptoBulk d + 1
 end
def uptoSmall : (H : Type) → List (DataW H) → Bool := fun _ ds => decide (uptoBulkAll ds ≤ 1048576)
def OpenSpec.upto (s : _root_.Go.ChangeSpec) : _root_.Go.OpenSpec := { _root_.Go.OpenSpec.ofChange s with cond := some uptoSmall }

/-- 'eddylaw01.FloatSame', WHERE WHAT IT READS IS OF BULK AT MOST 1048576: true; the input reads as it did. -/
def floatSameUptoRow : OpenClaim := { program := "ytpdhmehjlmohcaa", sum := "ee6725086d2aa3d6065d0d931b9f9ad929f7de2475d3a560f5d812c989cd9912", func := "eddy/eddylaw01.FloatSame", spec := "floatSame", inPlace := ["math.Float64frombits", "math.Float64bits"], apart := false, narrowed := true }
def FloatSameUptoSaid : Prop := floatSameUptoRow.holds Try.pinned (OpenSpec.upto floatSameSpec)

/-- 'eddylaw01.FloatSums', WHERE WHAT IT READS IS OF BULK AT MOST 1048576: true; the input reads as it did. -/
def floatSumsUptoRow : OpenClaim := { program := "ytpdhmehjlmohcaa", sum := "ee6725086d2aa3d6065d0d931b9f9ad929f7de2475d3a560f5d812c989cd9912", func := "eddy/eddylaw01.FloatSums", spec := "floatSums", inPlace := ["math.Float64frombits", "math.Float64bits"], apart := false, narrowed := true }
def FloatSumsUptoSaid : Prop := floatSumsUptoRow.holds Try.pinned (OpenSpec.upto floatSumsSpec)

/-- 'eddylaw01.FloatStairs', WHERE WHAT IT READS IS OF BULK AT MOST 1048576: true; the input reads as it did. -/
def floatStairsUptoRow : OpenClaim := { program := "ytpdhmehjlmohcaa", sum := "ee6725086d2aa3d6065d0d931b9f9ad929f7de2475d3a560f5d812c989cd9912", func := "eddy/eddylaw01.FloatStairs", spec := "floatStairs", inPlace := ["math.Float64frombits", "math.Float64bits"], apart := false, narrowed := true }
def FloatStairsUptoSaid : Prop := floatStairsUptoRow.holds Try.pinned (OpenSpec.upto floatStairsSpec)

/-- 'eddylaw01.FloatLost', WHERE WHAT IT READS IS OF BULK AT MOST 1048576: true; the input reads as it did. -/
def floatLostUptoRow : OpenClaim := { program := "ytpdhmehjlmohcaa", sum := "ee6725086d2aa3d6065d0d931b9f9ad929f7de2475d3a560f5d812c989cd9912", func := "eddy/eddylaw01.FloatLost", spec := "floatLost", inPlace := ["math.Float64frombits", "math.Float64bits"], apart := false, narrowed := true }
def FloatLostUptoSaid : Prop := floatLostUptoRow.holds Try.pinned (OpenSpec.upto floatLostSpec)

/-- 'eddylaw01.FloatTwos', WHERE WHAT IT READS IS OF BULK AT MOST 1048576: true; the input reads as it did. -/
def floatTwosUptoRow : OpenClaim := { program := "ytpdhmehjlmohcaa", sum := "ee6725086d2aa3d6065d0d931b9f9ad929f7de2475d3a560f5d812c989cd9912", func := "eddy/eddylaw01.FloatTwos", spec := "floatTwos", inPlace := ["math.Float64frombits", "math.Float64bits"], apart := false, narrowed := true }
def FloatTwosUptoSaid : Prop := floatTwosUptoRow.holds Try.pinned (OpenSpec.upto floatTwosSpec)

/-- 'eddylaw01.FloatTurned', WHERE WHAT IT READS IS OF BULK AT MOST 1048576: true; the input reads as it did. -/
def floatTurnedUptoRow : OpenClaim := { program := "ytpdhmehjlmohcaa", sum := "ee6725086d2aa3d6065d0d931b9f9ad929f7de2475d3a560f5d812c989cd9912", func := "eddy/eddylaw01.FloatTurned", spec := "floatTurned", inPlace := ["math.Float64frombits", "math.Float64bits", "math.RoundToEven"], apart := false, narrowed := true }
def FloatTurnedUptoSaid : Prop := floatTurnedUptoRow.holds Try.pinned (OpenSpec.upto floatTurnedSpec)

/-- 'eddylaw01.FloatNames', WHERE WHAT IT READS IS OF BULK AT MOST 1048576: true; the input reads as it did. -/
def floatNamesUptoRow : OpenClaim := { program := "ytpdhmehjlmohcaa", sum := "ee6725086d2aa3d6065d0d931b9f9ad929f7de2475d3a560f5d812c989cd9912", func := "eddy/eddylaw01.FloatNames", spec := "floatNames", inPlace := ["math.Float64frombits", "math.Float64bits", "math.RoundToEven"], apart := false, narrowed := true }
def FloatNamesUptoSaid : Prop := floatNamesUptoRow.holds Try.pinned (OpenSpec.upto floatNamesSpec)

end Rows
end Go.Proofs.Ytpdhmehjlmohcaa
