/-
  No cell of these rows narrows 'for every input' (looked for: loops, veiled, ifaces, maps, wideKeys, modest, calm, conditions, laid).
  DERIVED. THE GIVEN ROWS OF THIS SEAT. 3 by the template 'for every input the law returns true; each argument reads behind the call as it read before'; 0 by the template 'total and deterministic' (their statements: YtcbjiegheckomaaTotals.lean).
  GIVEN WITH THE SEED: the statements are not yours to turn. If you find one false, say at which input.
  Laid BY PROGRAM, IN A SANDBOX (cutbox-rows.mjs): the forced cells as the released guide's own fill.sh prints them over the translation c50f3ebb145f40f8… (all of the seat's roots in one cut). By AI agents, Wed Nov 11 2026. No macro, syntax, notation, axiom, sorry.
-/
import Derived.Test.YtcbjiegheckomaaChecked
import GoSem.Claim
import GoSem.ClaimJoined
import GoSem.ClaimMapViews
import Derived.JoinedTies
import Derived.KernelRfl
namespace Go.Proofs.Ytcbjiegheckomaa
/- THE CELL 'sum', in the pinned program and in every row, IS THE sha256 OF THE DUMP (.gsa) THAT YtcbjiegheckomaaProg.lean LOADS. Nothing in Lean hashes anything: it is a label: what it is worth is what the hold of that sum in a sandbox is worth. -/
noncomputable def Try.pinned : Pinned := { name := "ytcbjiegheckomaa", sum := "c50f3ebb145f40f88fbe4fb0d21c4c6766f8d378a01f6f7ebe393ca0460a8a1d", checked := Try.checked }
namespace Rows
def none {H : Type} : Left H := { results := [], args := [] }

/-- 'eddylaw04.ElemLogs': WHATEVER THE INPUT: true; the input reads as it did. -/
def elemLogsSpec : ChangeSpec := { name := "elemLogs", fn := fun _ => fun
  | [d] => { results := [.lit (.bool true)], args := [d] }
  | _ => none }
def elemLogsRow : OpenClaim := { program := "ytcbjiegheckomaa", sum := "c50f3ebb145f40f88fbe4fb0d21c4c6766f8d378a01f6f7ebe393ca0460a8a1d", func := "eddy/eddylaw04.ElemLogs", spec := "elemLogs", inPlace := ["math.Float64bits", "math.Float64frombits"], apart := false }
def ElemLogsSaid : Prop := elemLogsRow.holds Try.pinned (OpenSpec.ofChange elemLogsSpec)

/-- ITS FALSE NEIGHBOUR: 'it returns false'. Refute it at one input. -/
def elemLogsWrong : ChangeSpec := { name := "elemLogs", fn := fun _ => fun
  | [d] => { results := [.lit (.bool false)], args := [d] }
  | _ => none }
def ElemLogsWrongFalsely : Prop := elemLogsRow.holds Try.pinned (OpenSpec.ofChange elemLogsWrong)

/-- 'eddylaw04.ElemTwos': WHATEVER THE INPUT: true; the input reads as it did. -/
def elemTwosSpec : ChangeSpec := { name := "elemTwos", fn := fun _ => fun
  | [d1, d2] => { results := [.lit (.bool true)], args := [d1, d2] }
  | _ => none }
def elemTwosRow : OpenClaim := { program := "ytcbjiegheckomaa", sum := "c50f3ebb145f40f88fbe4fb0d21c4c6766f8d378a01f6f7ebe393ca0460a8a1d", func := "eddy/eddylaw04.ElemTwos", spec := "elemTwos", inPlace := ["math.Float64bits", "math.Float64frombits", "math.RoundToEven"], apart := false }
def ElemTwosSaid : Prop := elemTwosRow.holds Try.pinned (OpenSpec.ofChange elemTwosSpec)

/-- ITS FALSE NEIGHBOUR: 'it returns false'. Refute it at one input. -/
def elemTwosWrong : ChangeSpec := { name := "elemTwos", fn := fun _ => fun
  | [d1, d2] => { results := [.lit (.bool false)], args := [d1, d2] }
  | _ => none }
def ElemTwosWrongFalsely : Prop := elemTwosRow.holds Try.pinned (OpenSpec.ofChange elemTwosWrong)

/-- 'eddylaw04.ElemNames': WHATEVER THE INPUT: true; the input reads as it did. -/
def elemNamesSpec : ChangeSpec := { name := "elemNames", fn := fun _ => fun
  | [] => { results := [.lit (.bool true)], args := [] }
  | _ => none }
def elemNamesRow : OpenClaim := { program := "ytcbjiegheckomaa", sum := "c50f3ebb145f40f88fbe4fb0d21c4c6766f8d378a01f6f7ebe393ca0460a8a1d", func := "eddy/eddylaw04.ElemNames", spec := "elemNames", inPlace := ["math.Float64frombits", "math.Float64bits", "math.RoundToEven"], apart := false }
def ElemNamesSaid : Prop := elemNamesRow.holds Try.pinned (OpenSpec.ofChange elemNamesSpec)

/-- ITS FALSE NEIGHBOUR: 'it returns false'. Refute it at one input. -/
def elemNamesWrong : ChangeSpec := { name := "elemNames", fn := fun _ => fun
  | [] => { results := [.lit (.bool false)], args := [] }
  | _ => none }
def ElemNamesWrongFalsely : Prop := elemNamesRow.holds Try.pinned (OpenSpec.ofChange elemNamesWrong)

/- THE SECOND FORM. 'bulk': how many values and letters a reading holds, each counted each time it is reached (what is shared counts as often as it is met; a slice's spare places count too). A statement '..UptoSaid' is the law's where the arguments, and the package variables that the reading takes, are together of bulk at most 1048576: NARROWER than '..Said'. Prove '..Said' where nothing that the law and all that it calls make is longer than what came in: it says more and counts as full. Else prove '..UptoSaid'. A law counts once. -/
mutual
def uptoBulk {H : Type} : DataW H → Nat
  | .lit (.string bytes) => bytes.length + 1
  | .lit _ => 1
  | .nil => 1
  | .ptr d => uptoBulk d + 1
  | .slice elems spare => uptoBulkAll elems + uptoBulkAll spare + 1
  | .agg parts => uptoBulkAll parts + 1
  | .iface _ d => uptoBulk d + 1
  | .map entries => uptoBulkEntries entries + 1
  | .held _ => 1
def uptoBulkAll {H : Type} : List (DataW H) → Nat
  | [] => 0
  | d :: r => uptoBulk d + uptoBulkAll r
def uptoBulkEntries {H : Type} : List (Lit × DataW H) → Nat
  | [] => 0
  | x :: r => uptoBulkEntry x + uptoBulkEntries r
def uptoBulkEntry {H : Type} : Lit × DataW H → Nat
  | (.string bytes, d) => bytes.length + uptoBulk d + 1
  | (_, d) => uptoBulk d + 1
 end
def uptoSmall : (H : Type) → List (DataW H) → Bool := fun _ ds => decide (uptoBulkAll ds ≤ 1048576)
def OpenSpec.upto (s : _root_.Go.ChangeSpec) : _root_.Go.OpenSpec := { _root_.Go.OpenSpec.ofChange s with cond := some uptoSmall }

/-- 'eddylaw04.ElemLogs', WHERE WHAT IT READS IS OF BULK AT MOST 1048576: true; the input reads as it did. -/
def elemLogsUptoRow : OpenClaim := { program := "ytcbjiegheckomaa", sum := "c50f3ebb145f40f88fbe4fb0d21c4c6766f8d378a01f6f7ebe393ca0460a8a1d", func := "eddy/eddylaw04.ElemLogs", spec := "elemLogs", inPlace := ["math.Float64bits", "math.Float64frombits"], apart := false, narrowed := true }
def ElemLogsUptoSaid : Prop := elemLogsUptoRow.holds Try.pinned (OpenSpec.upto elemLogsSpec)

/-- 'eddylaw04.ElemTwos', WHERE WHAT IT READS IS OF BULK AT MOST 1048576: true; the input reads as it did. -/
def elemTwosUptoRow : OpenClaim := { program := "ytcbjiegheckomaa", sum := "c50f3ebb145f40f88fbe4fb0d21c4c6766f8d378a01f6f7ebe393ca0460a8a1d", func := "eddy/eddylaw04.ElemTwos", spec := "elemTwos", inPlace := ["math.Float64bits", "math.Float64frombits", "math.RoundToEven"], apart := false, narrowed := true }
def ElemTwosUptoSaid : Prop := elemTwosUptoRow.holds Try.pinned (OpenSpec.upto elemTwosSpec)

/-- 'eddylaw04.ElemNames', WHERE WHAT IT READS IS OF BULK AT MOST 1048576: true; the input reads as it did. -/
def elemNamesUptoRow : OpenClaim := { program := "ytcbjiegheckomaa", sum := "c50f3ebb145f40f88fbe4fb0d21c4c6766f8d378a01f6f7ebe393ca0460a8a1d", func := "eddy/eddylaw04.ElemNames", spec := "elemNames", inPlace := ["math.Float64frombits", "math.Float64bits", "math.RoundToEven"], apart := false, narrowed := true }
def ElemNamesUptoSaid : Prop := elemNamesUptoRow.holds Try.pinned (OpenSpec.upto elemNamesSpec)

end Rows
end Go.Proofs.Ytcbjiegheckomaa
