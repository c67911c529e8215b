/-
  No cell of these rows narrows 'for every input' (looked for: loops, veiled, ifaces, maps, wideKeys, modest, calm, conditions, laid).
  DERIVED. THE GIVEN ROWS OF THIS SEAT. 8 by the template 'for every input the law returns true; each argument reads behind the call as it read before'; 0 by the template 'total and deterministic' (their statements: YtcfkhhnkboealaaTotals.lean).
  GIVEN WITH THE SEED: the statements are not yours to turn. If you find one false, say at which input.
  Laid BY PROGRAM, IN A SANDBOX (cutbox-rows.mjs): the forced cells as the released guide's own fill.sh prints them over the translation c3ff782fdf7c0aca… (all of the seat's roots in one cut). By AI agents, Wed Nov 11 2026. No macro, syntax, notation, axiom, sorry.
-/
import Derived.Test.YtcfkhhnkboealaaChecked
import GoSem.Claim
import GoSem.ClaimJoined
import GoSem.ClaimMapViews
import Derived.JoinedTies
import Derived.KernelRfl
namespace Go.Proofs.Ytcfkhhnkboealaa
/- THE CELL 'sum', in the pinned program and in every row, IS THE sha256 OF THE DUMP (.gsa) THAT YtcfkhhnkboealaaProg.lean LOADS. Nothing in Lean hashes anything: it is a label: what it is worth is what the hold of that sum in a sandbox is worth. -/
noncomputable def Try.pinned : Pinned := { name := "ytcfkhhnkboealaa", sum := "c3ff782fdf7c0acaf6367b519d2488d503619c0690c49dca67f2b52f97d755a4", checked := Try.checked }
namespace Rows
def none {H : Type} : Left H := { results := [], args := [] }

/-- 'eddylaw01.FloatSums': WHATEVER THE INPUT: true; the input reads as it did. -/
def floatSumsSpec : ChangeSpec := { name := "floatSums", fn := fun _ => fun
  | [d1, d2, d3] => { results := [.lit (.bool true)], args := [d1, d2, d3] }
  | _ => none }
def floatSumsRow : OpenClaim := { program := "ytcfkhhnkboealaa", sum := "c3ff782fdf7c0acaf6367b519d2488d503619c0690c49dca67f2b52f97d755a4", func := "eddy/eddylaw01.FloatSums", spec := "floatSums", inPlace := ["math.Float64frombits", "math.Float64bits"], apart := false }
def FloatSumsSaid : Prop := floatSumsRow.holds Try.pinned (OpenSpec.ofChange floatSumsSpec)

/-- ITS FALSE NEIGHBOUR: 'it returns false'. Refute it at one input. -/
def floatSumsWrong : ChangeSpec := { name := "floatSums", fn := fun _ => fun
  | [d1, d2, d3] => { results := [.lit (.bool false)], args := [d1, d2, d3] }
  | _ => none }
def FloatSumsWrongFalsely : Prop := floatSumsRow.holds Try.pinned (OpenSpec.ofChange floatSumsWrong)

/-- 'eddylaw01.FloatLost': WHATEVER THE INPUT: true; the input reads as it did. -/
def floatLostSpec : ChangeSpec := { name := "floatLost", fn := fun _ => fun
  | [d1, d2] => { results := [.lit (.bool true)], args := [d1, d2] }
  | _ => none }
def floatLostRow : OpenClaim := { program := "ytcfkhhnkboealaa", sum := "c3ff782fdf7c0acaf6367b519d2488d503619c0690c49dca67f2b52f97d755a4", func := "eddy/eddylaw01.FloatLost", spec := "floatLost", inPlace := ["math.Float64frombits", "math.Float64bits"], apart := false }
def FloatLostSaid : Prop := floatLostRow.holds Try.pinned (OpenSpec.ofChange floatLostSpec)

/-- ITS FALSE NEIGHBOUR: 'it returns false'. Refute it at one input. -/
def floatLostWrong : ChangeSpec := { name := "floatLost", fn := fun _ => fun
  | [d1, d2] => { results := [.lit (.bool false)], args := [d1, d2] }
  | _ => none }
def FloatLostWrongFalsely : Prop := floatLostRow.holds Try.pinned (OpenSpec.ofChange floatLostWrong)

/-- 'eddylaw01.FloatTwos': WHATEVER THE INPUT: true; the input reads as it did. -/
def floatTwosSpec : ChangeSpec := { name := "floatTwos", fn := fun _ => fun
  | [d1, d2] => { results := [.lit (.bool true)], args := [d1, d2] }
  | _ => none }
def floatTwosRow : OpenClaim := { program := "ytcfkhhnkboealaa", sum := "c3ff782fdf7c0acaf6367b519d2488d503619c0690c49dca67f2b52f97d755a4", func := "eddy/eddylaw01.FloatTwos", spec := "floatTwos", inPlace := ["math.Float64frombits", "math.Float64bits"], apart := false }
def FloatTwosSaid : Prop := floatTwosRow.holds Try.pinned (OpenSpec.ofChange floatTwosSpec)

/-- ITS FALSE NEIGHBOUR: 'it returns false'. Refute it at one input. -/
def floatTwosWrong : ChangeSpec := { name := "floatTwos", fn := fun _ => fun
  | [d1, d2] => { results := [.lit (.bool false)], args := [d1, d2] }
  | _ => none }
def FloatTwosWrongFalsely : Prop := floatTwosRow.holds Try.pinned (OpenSpec.ofChange floatTwosWrong)

/-- 'eddylaw06.RootTrue': WHATEVER THE INPUT: true; the input reads as it did. -/
def rootTrueSpec : ChangeSpec := { name := "rootTrue", fn := fun _ => fun
  | [d] => { results := [.lit (.bool true)], args := [d] }
  | _ => none }
def rootTrueRow : OpenClaim := { program := "ytcfkhhnkboealaa", sum := "c3ff782fdf7c0acaf6367b519d2488d503619c0690c49dca67f2b52f97d755a4", func := "eddy/eddylaw06.RootTrue", spec := "rootTrue", inPlace := ["math.Float64bits", "math.Float64frombits", "math.sqrt"], apart := false }
def RootTrueSaid : Prop := rootTrueRow.holds Try.pinned (OpenSpec.ofChange rootTrueSpec)

/-- ITS FALSE NEIGHBOUR: 'it returns false'. Refute it at one input. -/
def rootTrueWrong : ChangeSpec := { name := "rootTrue", fn := fun _ => fun
  | [d] => { results := [.lit (.bool false)], args := [d] }
  | _ => none }
def RootTrueWrongFalsely : Prop := rootTrueRow.holds Try.pinned (OpenSpec.ofChange rootTrueWrong)

/-- 'eddylaw06.RootScaled': WHATEVER THE INPUT: true; the input reads as it did. -/
def rootScaledSpec : ChangeSpec := { name := "rootScaled", fn := fun _ => fun
  | [d1, d2] => { results := [.lit (.bool true)], args := [d1, d2] }
  | _ => none }
def rootScaledRow : OpenClaim := { program := "ytcfkhhnkboealaa", sum := "c3ff782fdf7c0acaf6367b519d2488d503619c0690c49dca67f2b52f97d755a4", func := "eddy/eddylaw06.RootScaled", spec := "rootScaled", inPlace := ["math.Float64bits", "math.Float64frombits", "math.sqrt", "math.RoundToEven"], apart := false }
def RootScaledSaid : Prop := rootScaledRow.holds Try.pinned (OpenSpec.ofChange rootScaledSpec)

/-- ITS FALSE NEIGHBOUR: 'it returns false'. Refute it at one input. -/
def rootScaledWrong : ChangeSpec := { name := "rootScaled", fn := fun _ => fun
  | [d1, d2] => { results := [.lit (.bool false)], args := [d1, d2] }
  | _ => none }
def RootScaledWrongFalsely : Prop := rootScaledRow.holds Try.pinned (OpenSpec.ofChange rootScaledWrong)

/-- 'eddylaw07.PowerBack': WHATEVER THE INPUT: true; the input reads as it did. -/
def powerBackSpec : ChangeSpec := { name := "powerBack", fn := fun _ => fun
  | [d1, d2] => { results := [.lit (.bool true)], args := [d1, d2] }
  | _ => none }
def powerBackRow : OpenClaim := { program := "ytcfkhhnkboealaa", sum := "c3ff782fdf7c0acaf6367b519d2488d503619c0690c49dca67f2b52f97d755a4", func := "eddy/eddylaw07.PowerBack", spec := "powerBack", inPlace := ["math.Float64frombits", "math.RoundToEven", "math.Float64bits", "math.sqrt"], apart := false }
def PowerBackSaid : Prop := powerBackRow.holds Try.pinned (OpenSpec.ofChange powerBackSpec)

/-- ITS FALSE NEIGHBOUR: 'it returns false'. Refute it at one input. -/
def powerBackWrong : ChangeSpec := { name := "powerBack", fn := fun _ => fun
  | [d1, d2] => { results := [.lit (.bool false)], args := [d1, d2] }
  | _ => none }
def PowerBackWrongFalsely : Prop := powerBackRow.holds Try.pinned (OpenSpec.ofChange powerBackWrong)

/-- 'eddylaw28.WhirlNames': WHATEVER THE INPUT: true; the input reads as it did. -/
def whirlNamesSpec : ChangeSpec := { name := "whirlNames", fn := fun _ => fun
  | [] => { results := [.lit (.bool true)], args := [] }
  | _ => none }
def whirlNamesRow : OpenClaim := { program := "ytcfkhhnkboealaa", sum := "c3ff782fdf7c0acaf6367b519d2488d503619c0690c49dca67f2b52f97d755a4", func := "eddy/eddylaw28.WhirlNames", spec := "whirlNames", inPlace := ["math.Float64frombits", "math.Float64bits", "math.sqrt"], apart := false }
def WhirlNamesSaid : Prop := whirlNamesRow.holds Try.pinned (OpenSpec.ofChange whirlNamesSpec)

/-- ITS FALSE NEIGHBOUR: 'it returns false'. Refute it at one input. -/
def whirlNamesWrong : ChangeSpec := { name := "whirlNames", fn := fun _ => fun
  | [] => { results := [.lit (.bool false)], args := [] }
  | _ => none }
def WhirlNamesWrongFalsely : Prop := whirlNamesRow.holds Try.pinned (OpenSpec.ofChange whirlNamesWrong)

/-- 'eddylaw19.SchwarzNames': WHATEVER THE INPUT: true; the input reads as it did. -/
def schwarzNamesSpec : ChangeSpec := { name := "schwarzNames", fn := fun _ => fun
  | [] => { results := [.lit (.bool true)], args := [] }
  | _ => none }
def schwarzNamesRow : OpenClaim := { program := "ytcfkhhnkboealaa", sum := "c3ff782fdf7c0acaf6367b519d2488d503619c0690c49dca67f2b52f97d755a4", func := "eddy/eddylaw19.SchwarzNames", spec := "schwarzNames", inPlace := ["math.Float64bits", "math.Float64frombits", "math.sqrt", "math.RoundToEven"], unfollowed := true, recurses := true, apart := false }
def SchwarzNamesSaid : Prop := schwarzNamesRow.holds Try.pinned (OpenSpec.ofChange schwarzNamesSpec)

/-- ITS FALSE NEIGHBOUR: 'it returns false'. Refute it at one input. -/
def schwarzNamesWrong : ChangeSpec := { name := "schwarzNames", fn := fun _ => fun
  | [] => { results := [.lit (.bool false)], args := [] }
  | _ => none }
def SchwarzNamesWrongFalsely : Prop := schwarzNamesRow.holds Try.pinned (OpenSpec.ofChange schwarzNamesWrong)

/- THE SECOND FORM. 'bulk': how many values and letters a reading holds, each counted each time it is reached (what is shared counts as often as it is met; a slice's spare places count too). A statement '..UptoSaid' is the law's where the arguments, and the package variables that the reading takes, are together of bulk at most 1048576: NARROWER than '..Said'. Prove '..Said' where nothing that the law and all that it calls make is longer than what came in: it says more and counts as full. Else prove '..UptoSaid'. A law counts once. -/
mutual
def uptoBulk {H : Type} : DataW H → Nat
  | .lit (.string bytes) => bytes.length + 1
  | .lit _ => 1
  | .nil => 1
  | .ptr d => uptoBulk d + 1
  | .slice elems spare => uptoBulkAll elems + uptoBulkAll spare + 1
  | .agg parts => uptoBulkAll parts + 1
  | .iface _ d => uptoBulk d + 1
  | .map entries => uptoBulkEntries entries + 1
  | .held _ => 1
def uptoBulkAll {H : Type} : List (DataW H) → Nat
  | [] => 0
  | d :: r => uptoBulk d + uptoBulkAll r
def uptoBulkEntries {H : Type} : List (Lit × DataW H) → Nat
  | [] => 0
  | x :: r => uptoBulkEntry x + uptoBulkEntries r
def uptoBulkEntry {H : Type} : Lit × DataW H → Nat
  | (.string bytes, d) => bytes.length + uptoBulk d + 1
  | (_, d) => uptoBulk d + 1
 end
def uptoSmall : (H : Type) → List (DataW H) → Bool := fun _ ds => decide (uptoBulkAll ds ≤ 1048576)
def OpenSpec.upto (s : _root_.Go.ChangeSpec) : _root_.Go.OpenSpec := { _root_.Go.OpenSpec.ofChange s with cond := some uptoSmall }

/-- 'eddylaw01.FloatSums', WHERE WHAT IT READS IS OF BULK AT MOST 1048576: true; the input reads as it did. -/
def floatSumsUptoRow : OpenClaim := { program := "ytcfkhhnkboealaa", sum := "c3ff782fdf7c0acaf6367b519d2488d503619c0690c49dca67f2b52f97d755a4", func := "eddy/eddylaw01.FloatSums", spec := "floatSums", inPlace := ["math.Float64frombits", "math.Float64bits"], apart := false, narrowed := true }
def FloatSumsUptoSaid : Prop := floatSumsUptoRow.holds Try.pinned (OpenSpec.upto floatSumsSpec)

/-- 'eddylaw01.FloatLost', WHERE WHAT IT READS IS OF BULK AT MOST 1048576: true; the input reads as it did. -/
def floatLostUptoRow : OpenClaim := { program := "ytcfkhhnkboealaa", sum := "c3ff782fdf7c0acaf6367b519d2488d503619c0690c49dca67f2b52f97d755a4", func := "eddy/eddylaw01.FloatLost", spec := "floatLost", inPlace := ["math.Float64frombits", "math.Float64bits"], apart := false, narrowed := true }
def FloatLostUptoSaid : Prop := floatLostUptoRow.holds Try.pinned (OpenSpec.upto floatLostSpec)

/-- 'eddylaw01.FloatTwos', WHERE WHAT IT READS IS OF BULK AT MOST 1048576: true; the input reads as it did. -/
def floatTwosUptoRow : OpenClaim := { program := "ytcfkhhnkboealaa", sum := "c3ff782fdf7c0acaf6367b519d2488d503619c0690c49dca67f2b52f97d755a4", func := "eddy/eddylaw01.FloatTwos", spec := "floatTwos", inPlace := ["math.Float64frombits", "math.Float64bits"], apart := false, narrowed := true }
def FloatTwosUptoSaid : Prop := floatTwosUptoRow.holds Try.pinned (OpenSpec.upto floatTwosSpec)

/-- 'eddylaw06.RootTrue', WHERE WHAT IT READS IS OF BULK AT MOST 1048576: true; the input reads as it did. -/
def rootTrueUptoRow : OpenClaim := { program := "ytcfkhhnkboealaa", sum := "c3ff782fdf7c0acaf6367b519d2488d503619c0690c49dca67f2b52f97d755a4", func := "eddy/eddylaw06.RootTrue", spec := "rootTrue", inPlace := ["math.Float64bits", "math.Float64frombits", "math.sqrt"], apart := false, narrowed := true }
def RootTrueUptoSaid : Prop := rootTrueUptoRow.holds Try.pinned (OpenSpec.upto rootTrueSpec)

/-- 'eddylaw06.RootScaled', WHERE WHAT IT READS IS OF BULK AT MOST 1048576: true; the input reads as it did. -/
def rootScaledUptoRow : OpenClaim := { program := "ytcfkhhnkboealaa", sum := "c3ff782fdf7c0acaf6367b519d2488d503619c0690c49dca67f2b52f97d755a4", func := "eddy/eddylaw06.RootScaled", spec := "rootScaled", inPlace := ["math.Float64bits", "math.Float64frombits", "math.sqrt", "math.RoundToEven"], apart := false, narrowed := true }
def RootScaledUptoSaid : Prop := rootScaledUptoRow.holds Try.pinned (OpenSpec.upto rootScaledSpec)

/-- 'eddylaw07.PowerBack', WHERE WHAT IT READS IS OF BULK AT MOST 1048576: true; the input reads as it did. -/
def powerBackUptoRow : OpenClaim := { program := "ytcfkhhnkboealaa", sum := "c3ff782fdf7c0acaf6367b519d2488d503619c0690c49dca67f2b52f97d755a4", func := "eddy/eddylaw07.PowerBack", spec := "powerBack", inPlace := ["math.Float64frombits", "math.RoundToEven", "math.Float64bits", "math.sqrt"], apart := false, narrowed := true }
def PowerBackUptoSaid : Prop := powerBackUptoRow.holds Try.pinned (OpenSpec.upto powerBackSpec)

/-- 'eddylaw28.WhirlNames', WHERE WHAT IT READS IS OF BULK AT MOST 1048576: true; the input reads as it did. -/
def whirlNamesUptoRow : OpenClaim := { program := "ytcfkhhnkboealaa", sum := "c3ff782fdf7c0acaf6367b519d2488d503619c0690c49dca67f2b52f97d755a4", func := "eddy/eddylaw28.WhirlNames", spec := "whirlNames", inPlace := ["math.Float64frombits", "math.Float64bits", "math.sqrt"], apart := false, narrowed := true }
def WhirlNamesUptoSaid : Prop := whirlNamesUptoRow.holds Try.pinned (OpenSpec.upto whirlNamesSpec)

/-- 'eddylaw19.SchwarzNames', WHERE WHAT IT READS IS OF BULK AT MOST 1048576: true; the input reads as it did. -/
def schwarzNamesUptoRow : OpenClaim := { program := "ytcfkhhnkboealaa", sum := "c3ff782fdf7c0acaf6367b519d2488d503619c0690c49dca67f2b52f97d755a4", func := "eddy/eddylaw19.SchwarzNames", spec := "schwarzNames", inPlace := ["math.Float64bits", "math.Float64frombits", "math.sqrt", "math.RoundToEven"], unfollowed := true, recurses := true, apart := false, narrowed := true }
def SchwarzNamesUptoSaid : Prop := schwarzNamesUptoRow.holds Try.pinned (OpenSpec.upto schwarzNamesSpec)

end Rows
end Go.Proofs.Ytcfkhhnkboealaa
