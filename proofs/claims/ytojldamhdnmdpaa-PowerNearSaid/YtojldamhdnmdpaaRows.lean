/-
  No cell of these rows narrows 'for every input' (looked for: loops, veiled, ifaces, maps, wideKeys, modest, calm, conditions, laid).
  DERIVED. THE GIVEN ROWS OF THIS SEAT. 5 by the template 'for every input the law returns true; each argument reads behind the call as it read before'; 0 by the template 'total and deterministic' (their statements: YtojldamhdnmdpaaTotals.lean).
  GIVEN WITH THE SEED: the statements are not yours to turn. If you find one false, say at which input.
  Laid BY PROGRAM, IN A SANDBOX (cutbox-rows.mjs): the forced cells as the released guide's own fill.sh prints them over the translation 15a49854bd208c92… (all of the seat's roots in one cut). By AI agents, Wed Nov 11 2026. No macro, syntax, notation, axiom, sorry.
-/
import Derived.Test.YtojldamhdnmdpaaChecked
import GoSem.Claim
import GoSem.ClaimJoined
import GoSem.ClaimMapViews
import Derived.JoinedTies
import Derived.KernelRfl
namespace Go.Proofs.Ytojldamhdnmdpaa
/- THE CELL 'sum', in the pinned program and in every row, IS THE sha256 OF THE DUMP (.gsa) THAT YtojldamhdnmdpaaProg.lean LOADS. Nothing in Lean hashes anything: it is a label: what it is worth is what the hold of that sum in a sandbox is worth. -/
noncomputable def Try.pinned : Pinned := { name := "ytojldamhdnmdpaa", sum := "15a49854bd208c929c7031c4c3d168a9e0487f7b04fa0fafb3666a3ce078c67b", checked := Try.checked }
namespace Rows
def none {H : Type} : Left H := { results := [], args := [] }

/-- 'eddylaw07.PowerNear': WHATEVER THE INPUT: true; the input reads as it did. -/
def powerNearSpec : ChangeSpec := { name := "powerNear", fn := fun _ => fun
  | [d] => { results := [.lit (.bool true)], args := [d] }
  | _ => none }
def powerNearRow : OpenClaim := { program := "ytojldamhdnmdpaa", sum := "15a49854bd208c929c7031c4c3d168a9e0487f7b04fa0fafb3666a3ce078c67b", func := "eddy/eddylaw07.PowerNear", spec := "powerNear", inPlace := ["math.Float64frombits", "math.RoundToEven", "math.Float64bits", "math.sqrt"], apart := false }
def PowerNearSaid : Prop := powerNearRow.holds Try.pinned (OpenSpec.ofChange powerNearSpec)

/-- ITS FALSE NEIGHBOUR: 'it returns false'. Refute it at one input. -/
def powerNearWrong : ChangeSpec := { name := "powerNear", fn := fun _ => fun
  | [d] => { results := [.lit (.bool false)], args := [d] }
  | _ => none }
def PowerNearWrongFalsely : Prop := powerNearRow.holds Try.pinned (OpenSpec.ofChange powerNearWrong)

/-- 'eddylaw07.PowerBack': WHATEVER THE INPUT: true; the input reads as it did. -/
def powerBackSpec : ChangeSpec := { name := "powerBack", fn := fun _ => fun
  | [d1, d2] => { results := [.lit (.bool true)], args := [d1, d2] }
  | _ => none }
def powerBackRow : OpenClaim := { program := "ytojldamhdnmdpaa", sum := "15a49854bd208c929c7031c4c3d168a9e0487f7b04fa0fafb3666a3ce078c67b", func := "eddy/eddylaw07.PowerBack", spec := "powerBack", inPlace := ["math.Float64frombits", "math.RoundToEven", "math.Float64bits", "math.sqrt"], apart := false }
def PowerBackSaid : Prop := powerBackRow.holds Try.pinned (OpenSpec.ofChange powerBackSpec)

/-- ITS FALSE NEIGHBOUR: 'it returns false'. Refute it at one input. -/
def powerBackWrong : ChangeSpec := { name := "powerBack", fn := fun _ => fun
  | [d1, d2] => { results := [.lit (.bool false)], args := [d1, d2] }
  | _ => none }
def PowerBackWrongFalsely : Prop := powerBackRow.holds Try.pinned (OpenSpec.ofChange powerBackWrong)

/-- 'eddylaw07.PowerTurned': WHATEVER THE INPUT: true; the input reads as it did. -/
def powerTurnedSpec : ChangeSpec := { name := "powerTurned", fn := fun _ => fun
  | [d] => { results := [.lit (.bool true)], args := [d] }
  | _ => none }
def powerTurnedRow : OpenClaim := { program := "ytojldamhdnmdpaa", sum := "15a49854bd208c929c7031c4c3d168a9e0487f7b04fa0fafb3666a3ce078c67b", func := "eddy/eddylaw07.PowerTurned", spec := "powerTurned", inPlace := ["math.Float64frombits", "math.RoundToEven", "math.Float64bits", "math.sqrt"], unfollowed := true, recurses := true, apart := false }
def PowerTurnedSaid : Prop := powerTurnedRow.holds Try.pinned (OpenSpec.ofChange powerTurnedSpec)

/-- ITS FALSE NEIGHBOUR: 'it returns false'. Refute it at one input. -/
def powerTurnedWrong : ChangeSpec := { name := "powerTurned", fn := fun _ => fun
  | [d] => { results := [.lit (.bool false)], args := [d] }
  | _ => none }
def PowerTurnedWrongFalsely : Prop := powerTurnedRow.holds Try.pinned (OpenSpec.ofChange powerTurnedWrong)

/-- 'eddylaw07.PowerNames': WHATEVER THE INPUT: true; the input reads as it did. -/
def powerNamesSpec : ChangeSpec := { name := "powerNames", fn := fun _ => fun
  | [] => { results := [.lit (.bool true)], args := [] }
  | _ => none }
def powerNamesRow : OpenClaim := { program := "ytojldamhdnmdpaa", sum := "15a49854bd208c929c7031c4c3d168a9e0487f7b04fa0fafb3666a3ce078c67b", func := "eddy/eddylaw07.PowerNames", spec := "powerNames", inPlace := ["math.Float64frombits", "math.Float64bits", "math.RoundToEven", "math.sqrt"], unfollowed := true, recurses := true, apart := false }
def PowerNamesSaid : Prop := powerNamesRow.holds Try.pinned (OpenSpec.ofChange powerNamesSpec)

/-- ITS FALSE NEIGHBOUR: 'it returns false'. Refute it at one input. -/
def powerNamesWrong : ChangeSpec := { name := "powerNames", fn := fun _ => fun
  | [] => { results := [.lit (.bool false)], args := [] }
  | _ => none }
def PowerNamesWrongFalsely : Prop := powerNamesRow.holds Try.pinned (OpenSpec.ofChange powerNamesWrong)

/-- 'eddylaw07.PowerMirror': WHATEVER THE INPUT: true; the input reads as it did. -/
def powerMirrorSpec : ChangeSpec := { name := "powerMirror", fn := fun _ => fun
  | [d1, d2] => { results := [.lit (.bool true)], args := [d1, d2] }
  | _ => none }
def powerMirrorRow : OpenClaim := { program := "ytojldamhdnmdpaa", sum := "15a49854bd208c929c7031c4c3d168a9e0487f7b04fa0fafb3666a3ce078c67b", func := "eddy/eddylaw07.PowerMirror", spec := "powerMirror", inPlace := ["math.Float64frombits", "math.RoundToEven", "math.Float64bits", "math.sqrt"], unfollowed := true, recurses := true, apart := false }
def PowerMirrorSaid : Prop := powerMirrorRow.holds Try.pinned (OpenSpec.ofChange powerMirrorSpec)

/-- ITS FALSE NEIGHBOUR: 'it returns false'. Refute it at one input. -/
def powerMirrorWrong : ChangeSpec := { name := "powerMirror", fn := fun _ => fun
  | [d1, d2] => { results := [.lit (.bool false)], args := [d1, d2] }
  | _ => none }
def PowerMirrorWrongFalsely : Prop := powerMirrorRow.holds Try.pinned (OpenSpec.ofChange powerMirrorWrong)

/- THE SECOND FORM. 'bulk': how many values and letters a reading holds, each counted each time it is reached (what is shared counts as often as it is met; a slice's spare places count too). A statement '..UptoSaid' is the law's where the arguments, and the package variables that the reading takes, are together of bulk at most 1048576: NARROWER than '..Said'. Prove '..Said' where nothing that the law and all that it calls make is longer than what came in: it says more and counts as full. Else prove '..UptoSaid'. A law counts once. -/
mutual
def uptoBulk {H : Type} : DataW H → Nat
  | .lit (.string bytes) => bytes.length + 1
  | .lit _ => 1
  | .nil => 1
  | .ptr d => uptoBulk d + 1
  | .slice elems spare => uptoBulkAll elems + uptoBulkAll spare + 1
  | .agg parts => uptoBulkAll parts + 1
  | .iface _ d => uptoBulk d + 1
  | .map entries => uptoBulkEntries entries + 1
  | .held _ => 1
def uptoBulkAll {H : Type} : List (DataW H) → Nat
  | [] => 0
  | d :: r => uptoBulk d + uptoBulkAll r
def uptoBulkEntries {H : Type} : List (Lit × DataW H) → Nat
  | [] => 0
  | x :: r => uptoBulkEntry x + uptoBulkEntries r
def uptoBulkEntry {H : Type} : Lit × DataW H → Nat
  | (.string bytes, d) => bytes.length + uptoBulk d + 1
  | (_, d) => uptoBulk d + 1
 end
def uptoSmall : (H : Type) → List (DataW H) → Bool := fun _ ds => decide (uptoBulkAll ds ≤ 1048576)
def OpenSpec.upto (s : _root_.Go.ChangeSpec) : _root_.Go.OpenSpec := { _root_.Go.OpenSpec.ofChange s with cond := some uptoSmall }

/-- 'eddylaw07.PowerNear', WHERE WHAT IT READS IS OF BULK AT MOST 1048576: true; the input reads as it did. -/
def powerNearUptoRow : OpenClaim := { program := "ytojldamhdnmdpaa", sum := "15a49854bd208c929c7031c4c3d168a9e0487f7b04fa0fafb3666a3ce078c67b", func := "eddy/eddylaw07.PowerNear", spec := "powerNear", inPlace := ["math.Float64frombits", "math.RoundToEven", "math.Float64bits", "math.sqrt"], apart := false, narrowed := true }
def PowerNearUptoSaid : Prop := powerNearUptoRow.holds Try.pinned (OpenSpec.upto powerNearSpec)

/-- 'eddylaw07.PowerBack', WHERE WHAT IT READS IS OF BULK AT MOST 1048576: true; the input reads as it did. -/
def powerBackUptoRow : OpenClaim := { program := "ytojldamhdnmdpaa", sum := "15a49854bd208c929c7031c4c3d168a9e0487f7b04fa0fafb3666a3ce078c67b", func := "eddy/eddylaw07.PowerBack", spec := "powerBack", inPlace := ["math.Float64frombits", "math.RoundToEven", "math.Float64bits", "math.sqrt"], apart := false, narrowed := true }
def PowerBackUptoSaid : Prop := powerBackUptoRow.holds Try.pinned (OpenSpec.upto powerBackSpec)

/-- 'eddylaw07.PowerTurned', WHERE WHAT IT READS IS OF BULK AT MOST 1048576: true; the input reads as it did. -/
def powerTurnedUptoRow : OpenClaim := { program := "ytojldamhdnmdpaa", sum := "15a49854bd208c929c7031c4c3d168a9e0487f7b04fa0fafb3666a3ce078c67b", func := "eddy/eddylaw07.PowerTurned", spec := "powerTurned", inPlace := ["math.Float64frombits", "math.RoundToEven", "math.Float64bits", "math.sqrt"], unfollowed := true, recurses := true, apart := false, narrowed := true }
def PowerTurnedUptoSaid : Prop := powerTurnedUptoRow.holds Try.pinned (OpenSpec.upto powerTurnedSpec)

/-- 'eddylaw07.PowerNames', WHERE WHAT IT READS IS OF BULK AT MOST 1048576: true; the input reads as it did. -/
def powerNamesUptoRow : OpenClaim := { program := "ytojldamhdnmdpaa", sum := "15a49854bd208c929c7031c4c3d168a9e0487f7b04fa0fafb3666a3ce078c67b", func := "eddy/eddylaw07.PowerNames", spec := "powerNames", inPlace := ["math.Float64frombits", "math.Float64bits", "math.RoundToEven", "math.sqrt"], unfollowed := true, recurses := true, apart := false, narrowed := true }
def PowerNamesUptoSaid : Prop := powerNamesUptoRow.holds Try.pinned (OpenSpec.upto powerNamesSpec)

/-- 'eddylaw07.PowerMirror', WHERE WHAT IT READS IS OF BULK AT MOST 1048576: true; the input reads as it did. -/
def powerMirrorUptoRow : OpenClaim := { program := "ytojldamhdnmdpaa", sum := "15a49854bd208c929c7031c4c3d168a9e0487f7b04fa0fafb3666a3ce078c67b", func := "eddy/eddylaw07.PowerMirror", spec := "powerMirror", inPlace := ["math.Float64frombits", "math.RoundToEven", "math.Float64bits", "math.sqrt"], unfollowed := true, recurses := true, apart := false, narrowed := true }
def PowerMirrorUptoSaid : Prop := powerMirrorUptoRow.holds Try.pinned (OpenSpec.upto powerMirrorSpec)

end Rows
end Go.Proofs.Ytojldamhdnmdpaa
