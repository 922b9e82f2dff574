/-
  NARROWER THAN 'FOR EVERY INPUT', by the rows' own cells (each row's printed sentence says how): Frames: laid · Turned: laid · Longest: laid · Deltas: laid · Canonical: laid · Apart: laid · Ordered: laid.
  DERIVED. THE GIVEN ROWS OF THIS SEAT. 7 by the template 'for every input the law returns true; each argument reads behind the call as it read before'; 0 by the template 'total and deterministic' (their statements: YtkkfmkhbdoeglaaDoorTotals.lean).
  GIVEN WITH THE SEED: the statements are not yours to turn. If you find one false, say at which input.
  Laid BY PROGRAM, IN A SANDBOX (cutbox-rows.mjs): the forced cells as the released guide's own fill.sh prints them over the translation c9e9bd2501710457… (all of the seat's roots in one cut). By AI agents, Wed Nov 11 2026. No macro, syntax, notation, axiom, sorry.
-/
import Derived.Test.YtkkfmkhbdoeglaaDoorChecked
import GoSem.Claim
import GoSem.ClaimJoined
import GoSem.ClaimMapViews
import Derived.JoinedTies
import Derived.KernelRfl
namespace Go.Proofs.YtkkfmkhbdoeglaaDoor
/- THE CELL 'sum', in the pinned program and in every row, IS THE sha256 OF THE DUMP (.gsa) THAT YtkkfmkhbdoeglaaDoorProg.lean LOADS. Nothing in Lean hashes anything: it is a label: what it is worth is what the hold of that sum in a sandbox is worth. -/
noncomputable def Tryd.pinned : Pinned := { name := "ytkkfmkhbdoeglaadoor", sum := "c9e9bd250171045787783c8d23384c55ebf224d65f69787306c873c1e98709f1", checked := Tryd.checked }
namespace Rows
def none {H : Type} : Left H := { results := [], args := [] }

/- WHAT THE LISTED PACKAGE-LEVEL VARIABLES READ AS WHEN THE CALL BEGINS. Each datum BY PROGRAM (the guide's laid-datum.mjs) off the statement by which the dump's own 'gosem.cut.vars' lays the variable. In a bare row this is a premise. The card (YtkkfmkhbdoeglaaDoorCards.lean) ties it to the program's text. -/
def laid_errors_errorType {H : Type} : DataW H := .iface "internal/reflectlite.rtype" (.agg [.ptr (.lit (.string [101, 114, 114, 111, 114]))])
def laid_overlay_overlay_shapes {H : Type} : DataW H := .agg [.agg [.lit (.int .i64 6), .lit (.int .i64 4)], .agg [.lit (.int .i64 5), .lit (.int .i64 4)], .agg [.lit (.int .i64 2), .lit (.int .i64 2)]]

/-- 'overlaylaw.Frames': WHATEVER THE INPUT: true; the input reads as it did. -/
def framesSpec : ChangeSpec := { name := "frames", fn := fun _ => fun
  | [d1, d2, d3] => { results := [.lit (.bool true)], args := [d1, d2, d3] }
  | _ => none }
def framesRow : OpenClaim := { program := "ytkkfmkhbdoeglaadoor", sum := "c9e9bd250171045787783c8d23384c55ebf224d65f69787306c873c1e98709f1", func := "overlay/overlaylaw.Frames", spec := "frames", inPlace := ["internal/reflectlite.ValueOf", "(internal/reflectlite.Value).Type", "(internal/reflectlite.Value).IsNil", "internal/reflectlite.TypeOf", "(internal/reflectlite.Value).Elem", "(internal/reflectlite.Value).Set"], unfollowed := true, recurses := true, named := ["errors.errorType"], plainKeys := false, apart := false, laid := [("errors.errorType", laid_errors_errorType)] }
def FramesSaid : Prop := framesRow.holds Tryd.pinned (OpenSpec.ofChange framesSpec)

/-- ITS FALSE NEIGHBOUR: 'it returns false'. Refute it at one input. -/
def framesWrong : ChangeSpec := { name := "frames", fn := fun _ => fun
  | [d1, d2, d3] => { results := [.lit (.bool false)], args := [d1, d2, d3] }
  | _ => none }
def FramesWrongFalsely : Prop := framesRow.holds Tryd.pinned (OpenSpec.ofChange framesWrong)

/-- 'overlaykeep.Turned': WHATEVER THE INPUT: true; the input reads as it did. -/
def turnedSpec : ChangeSpec := { name := "turned", fn := fun _ => fun
  | [d1, d2, d3, d4] => { results := [.lit (.bool true)], args := [d1, d2, d3, d4] }
  | _ => none }
def turnedRow : OpenClaim := { program := "ytkkfmkhbdoeglaadoor", sum := "c9e9bd250171045787783c8d23384c55ebf224d65f69787306c873c1e98709f1", func := "overlay/overlaykeep.Turned", spec := "turned", inPlace := ["internal/reflectlite.ValueOf", "(internal/reflectlite.Value).Type", "(internal/reflectlite.Value).IsNil", "internal/reflectlite.TypeOf", "(internal/reflectlite.Value).Elem", "(internal/reflectlite.Value).Set"], unfollowed := true, recurses := true, named := ["errors.errorType"], plainKeys := false, apart := false, laid := [("errors.errorType", laid_errors_errorType)] }
def TurnedSaid : Prop := turnedRow.holds Tryd.pinned (OpenSpec.ofChange turnedSpec)

/-- ITS FALSE NEIGHBOUR: 'it returns false'. Refute it at one input. -/
def turnedWrong : ChangeSpec := { name := "turned", fn := fun _ => fun
  | [d1, d2, d3, d4] => { results := [.lit (.bool false)], args := [d1, d2, d3, d4] }
  | _ => none }
def TurnedWrongFalsely : Prop := turnedRow.holds Tryd.pinned (OpenSpec.ofChange turnedWrong)

/-- 'overlaykeep.Longest': WHATEVER THE INPUT: true; the input reads as it did. -/
def longestSpec : ChangeSpec := { name := "longest", fn := fun _ => fun
  | [d1, d2] => { results := [.lit (.bool true)], args := [d1, d2] }
  | _ => none }
def longestRow : OpenClaim := { program := "ytkkfmkhbdoeglaadoor", sum := "c9e9bd250171045787783c8d23384c55ebf224d65f69787306c873c1e98709f1", func := "overlay/overlaykeep.Longest", spec := "longest", inPlace := ["internal/reflectlite.ValueOf", "(internal/reflectlite.Value).Type", "(internal/reflectlite.Value).IsNil", "internal/reflectlite.TypeOf", "(internal/reflectlite.Value).Elem", "(internal/reflectlite.Value).Set"], unfollowed := true, recurses := true, named := ["overlay/overlay.shapes", "errors.errorType"], plainKeys := false, apart := false, laid := [("errors.errorType", laid_errors_errorType), ("overlay/overlay.shapes", laid_overlay_overlay_shapes)] }
def LongestSaid : Prop := longestRow.holds Tryd.pinned (OpenSpec.ofChange longestSpec)

/-- ITS FALSE NEIGHBOUR: 'it returns false'. Refute it at one input. -/
def longestWrong : ChangeSpec := { name := "longest", fn := fun _ => fun
  | [d1, d2] => { results := [.lit (.bool false)], args := [d1, d2] }
  | _ => none }
def LongestWrongFalsely : Prop := longestRow.holds Tryd.pinned (OpenSpec.ofChange longestWrong)

/-- 'overlaylaw.Deltas': WHATEVER THE INPUT: true; the input reads as it did. -/
def deltasSpec : ChangeSpec := { name := "deltas", fn := fun _ => fun
  | [d1, d2, d3, d4] => { results := [.lit (.bool true)], args := [d1, d2, d3, d4] }
  | _ => none }
def deltasRow : OpenClaim := { program := "ytkkfmkhbdoeglaadoor", sum := "c9e9bd250171045787783c8d23384c55ebf224d65f69787306c873c1e98709f1", func := "overlay/overlaylaw.Deltas", spec := "deltas", inPlace := ["internal/reflectlite.ValueOf", "(internal/reflectlite.Value).Type", "(internal/reflectlite.Value).IsNil", "internal/reflectlite.TypeOf", "(internal/reflectlite.Value).Elem", "(internal/reflectlite.Value).Set"], unfollowed := true, recurses := true, named := ["overlay/overlay.shapes", "errors.errorType"], plainKeys := false, apart := false, laid := [("errors.errorType", laid_errors_errorType), ("overlay/overlay.shapes", laid_overlay_overlay_shapes)] }
def DeltasSaid : Prop := deltasRow.holds Tryd.pinned (OpenSpec.ofChange deltasSpec)

/-- ITS FALSE NEIGHBOUR: 'it returns false'. Refute it at one input. -/
def deltasWrong : ChangeSpec := { name := "deltas", fn := fun _ => fun
  | [d1, d2, d3, d4] => { results := [.lit (.bool false)], args := [d1, d2, d3, d4] }
  | _ => none }
def DeltasWrongFalsely : Prop := deltasRow.holds Tryd.pinned (OpenSpec.ofChange deltasWrong)

/-- 'overlaykeep.Canonical': WHATEVER THE INPUT: true; the input reads as it did. -/
def canonicalSpec : ChangeSpec := { name := "canonical", fn := fun _ => fun
  | [d1, d2, d3] => { results := [.lit (.bool true)], args := [d1, d2, d3] }
  | _ => none }
def canonicalRow : OpenClaim := { program := "ytkkfmkhbdoeglaadoor", sum := "c9e9bd250171045787783c8d23384c55ebf224d65f69787306c873c1e98709f1", func := "overlay/overlaykeep.Canonical", spec := "canonical", inPlace := ["internal/reflectlite.ValueOf", "(internal/reflectlite.Value).Type", "(internal/reflectlite.Value).IsNil", "internal/reflectlite.TypeOf", "(internal/reflectlite.Value).Elem", "(internal/reflectlite.Value).Set"], unfollowed := true, recurses := true, named := ["overlay/overlay.shapes", "errors.errorType"], plainKeys := false, apart := false, laid := [("errors.errorType", laid_errors_errorType), ("overlay/overlay.shapes", laid_overlay_overlay_shapes)] }
def CanonicalSaid : Prop := canonicalRow.holds Tryd.pinned (OpenSpec.ofChange canonicalSpec)

/-- ITS FALSE NEIGHBOUR: 'it returns false'. Refute it at one input. -/
def canonicalWrong : ChangeSpec := { name := "canonical", fn := fun _ => fun
  | [d1, d2, d3] => { results := [.lit (.bool false)], args := [d1, d2, d3] }
  | _ => none }
def CanonicalWrongFalsely : Prop := canonicalRow.holds Tryd.pinned (OpenSpec.ofChange canonicalWrong)

/-- 'overlaykeep.Apart': WHATEVER THE INPUT: true; the input reads as it did. -/
def apartSpec : ChangeSpec := { name := "apart", fn := fun _ => fun
  | [d1, d2, d3] => { results := [.lit (.bool true)], args := [d1, d2, d3] }
  | _ => none }
def apartRow : OpenClaim := { program := "ytkkfmkhbdoeglaadoor", sum := "c9e9bd250171045787783c8d23384c55ebf224d65f69787306c873c1e98709f1", func := "overlay/overlaykeep.Apart", spec := "apart", inPlace := ["internal/reflectlite.ValueOf", "(internal/reflectlite.Value).Type", "(internal/reflectlite.Value).IsNil", "internal/reflectlite.TypeOf", "(internal/reflectlite.Value).Elem", "(internal/reflectlite.Value).Set"], unfollowed := true, recurses := true, named := ["overlay/overlay.shapes", "errors.errorType"], plainKeys := false, apart := false, laid := [("errors.errorType", laid_errors_errorType), ("overlay/overlay.shapes", laid_overlay_overlay_shapes)] }
def ApartSaid : Prop := apartRow.holds Tryd.pinned (OpenSpec.ofChange apartSpec)

/-- ITS FALSE NEIGHBOUR: 'it returns false'. Refute it at one input. -/
def apartWrong : ChangeSpec := { name := "apart", fn := fun _ => fun
  | [d1, d2, d3] => { results := [.lit (.bool false)], args := [d1, d2, d3] }
  | _ => none }
def ApartWrongFalsely : Prop := apartRow.holds Tryd.pinned (OpenSpec.ofChange apartWrong)

/-- 'overlaykeep.Ordered': WHATEVER THE INPUT: true; the input reads as it did. -/
def orderedSpec : ChangeSpec := { name := "ordered", fn := fun _ => fun
  | [d1, d2, d3] => { results := [.lit (.bool true)], args := [d1, d2, d3] }
  | _ => none }
def orderedRow : OpenClaim := { program := "ytkkfmkhbdoeglaadoor", sum := "c9e9bd250171045787783c8d23384c55ebf224d65f69787306c873c1e98709f1", func := "overlay/overlaykeep.Ordered", spec := "ordered", inPlace := ["internal/reflectlite.ValueOf", "(internal/reflectlite.Value).Type", "(internal/reflectlite.Value).IsNil", "internal/reflectlite.TypeOf", "(internal/reflectlite.Value).Elem", "(internal/reflectlite.Value).Set"], unfollowed := true, recurses := true, named := ["overlay/overlay.shapes", "errors.errorType"], plainKeys := false, apart := false, laid := [("errors.errorType", laid_errors_errorType), ("overlay/overlay.shapes", laid_overlay_overlay_shapes)] }
def OrderedSaid : Prop := orderedRow.holds Tryd.pinned (OpenSpec.ofChange orderedSpec)

/-- ITS FALSE NEIGHBOUR: 'it returns false'. Refute it at one input. -/
def orderedWrong : ChangeSpec := { name := "ordered", fn := fun _ => fun
  | [d1, d2, d3] => { results := [.lit (.bool false)], args := [d1, d2, d3] }
  | _ => none }
def OrderedWrongFalsely : Prop := orderedRow.holds Tryd.pinned (OpenSpec.ofChange orderedWrong)

/- THE SECOND FORM. 'bulk': how many values and letters a reading holds, each counted each time it is reached (what is shared counts as often as it is met; a slice's spare places count too). A statement '..UptoSaid' is the law's where the arguments, and the package variables that the reading takes, are together of bulk at most 1048576: NARROWER than '..Said'. Prove '..Said' where nothing that the law and all that it calls make is longer than what came in: it says more and counts as full. Else prove '..UptoSaid'. A law counts once. -/
mutual
def uptoBulk {H : Type} : DataW H → Nat
  | .lit (.string bytes) => bytes.length + 1
  | .lit _ => 1
  | .nil => 1
  | .ptr d => uptoBulk d + 1
  | .slice elems spare => uptoBulkAll elems + uptoBulkAll spare + 1
  | .agg parts => uptoBulkAll parts + 1
  | .iface _ d => uptoBulk d + 1
  | .map entries => uptoBulkEntries entries + 1
  | .held _ => 1
def uptoBulkAll {H : Type} : List (DataW H) → Nat
  | [] => 0
  | d :: r => uptoBulk d + uptoBulkAll r
def uptoBulkEntries {H : Type} : List (Lit × DataW H) → Nat
  | [] => 0
  | x :: r => uptoBulkEntry x + uptoBulkEntries r
def uptoBulkEntry {H : Type} : Lit × DataW H → Nat
  | (.string bytes, d) => bytes.length + uptoBulk d + 1
  | (_, d) => uptoBulk d + 1
 end
def uptoSmall : (H : Type) → List (DataW H) → Bool := fun _ ds => decide (uptoBulkAll ds ≤ 1048576)
def OpenSpec.upto (s : _root_.Go.ChangeSpec) : _root_.Go.OpenSpec := { _root_.Go.OpenSpec.ofChange s with cond := some uptoSmall }

/-- 'overlaylaw.Frames', WHERE WHAT IT READS IS OF BULK AT MOST 1048576: true; the input reads as it did. -/
def framesUptoRow : OpenClaim := { program := "ytkkfmkhbdoeglaadoor", sum := "c9e9bd250171045787783c8d23384c55ebf224d65f69787306c873c1e98709f1", func := "overlay/overlaylaw.Frames", spec := "frames", inPlace := ["internal/reflectlite.ValueOf", "(internal/reflectlite.Value).Type", "(internal/reflectlite.Value).IsNil", "internal/reflectlite.TypeOf", "(internal/reflectlite.Value).Elem", "(internal/reflectlite.Value).Set"], unfollowed := true, recurses := true, named := ["errors.errorType"], plainKeys := false, apart := false, laid := [("errors.errorType", laid_errors_errorType)], narrowed := true }
def FramesUptoSaid : Prop := framesUptoRow.holds Tryd.pinned (OpenSpec.upto framesSpec)

/-- 'overlaykeep.Turned', WHERE WHAT IT READS IS OF BULK AT MOST 1048576: true; the input reads as it did. -/
def turnedUptoRow : OpenClaim := { program := "ytkkfmkhbdoeglaadoor", sum := "c9e9bd250171045787783c8d23384c55ebf224d65f69787306c873c1e98709f1", func := "overlay/overlaykeep.Turned", spec := "turned", inPlace := ["internal/reflectlite.ValueOf", "(internal/reflectlite.Value).Type", "(internal/reflectlite.Value).IsNil", "internal/reflectlite.TypeOf", "(internal/reflectlite.Value).Elem", "(internal/reflectlite.Value).Set"], unfollowed := true, recurses := true, named := ["errors.errorType"], plainKeys := false, apart := false, laid := [("errors.errorType", laid_errors_errorType)], narrowed := true }
def TurnedUptoSaid : Prop := turnedUptoRow.holds Tryd.pinned (OpenSpec.upto turnedSpec)

/-- 'overlaykeep.Longest', WHERE WHAT IT READS IS OF BULK AT MOST 1048576: true; the input reads as it did. -/
def longestUptoRow : OpenClaim := { program := "ytkkfmkhbdoeglaadoor", sum := "c9e9bd250171045787783c8d23384c55ebf224d65f69787306c873c1e98709f1", func := "overlay/overlaykeep.Longest", spec := "longest", inPlace := ["internal/reflectlite.ValueOf", "(internal/reflectlite.Value).Type", "(internal/reflectlite.Value).IsNil", "internal/reflectlite.TypeOf", "(internal/reflectlite.Value).Elem", "(internal/reflectlite.Value).Set"], unfollowed := true, recurses := true, named := ["overlay/overlay.shapes", "errors.errorType"], plainKeys := false, apart := false, laid := [("errors.errorType", laid_errors_errorType), ("overlay/overlay.shapes", laid_overlay_overlay_shapes)], narrowed := true }
def LongestUptoSaid : Prop := longestUptoRow.holds Tryd.pinned (OpenSpec.upto longestSpec)

/-- 'overlaylaw.Deltas', WHERE WHAT IT READS IS OF BULK AT MOST 1048576: true; the input reads as it did. -/
def deltasUptoRow : OpenClaim := { program := "ytkkfmkhbdoeglaadoor", sum := "c9e9bd250171045787783c8d23384c55ebf224d65f69787306c873c1e98709f1", func := "overlay/overlaylaw.Deltas", spec := "deltas", inPlace := ["internal/reflectlite.ValueOf", "(internal/reflectlite.Value).Type", "(internal/reflectlite.Value).IsNil", "internal/reflectlite.TypeOf", "(internal/reflectlite.Value).Elem", "(internal/reflectlite.Value).Set"], unfollowed := true, recurses := true, named := ["overlay/overlay.shapes", "errors.errorType"], plainKeys := false, apart := false, laid := [("errors.errorType", laid_errors_errorType), ("overlay/overlay.shapes", laid_overlay_overlay_shapes)], narrowed := true }
def DeltasUptoSaid : Prop := deltasUptoRow.holds Tryd.pinned (OpenSpec.upto deltasSpec)

/-- 'overlaykeep.Canonical', WHERE WHAT IT READS IS OF BULK AT MOST 1048576: true; the input reads as it did. -/
def canonicalUptoRow : OpenClaim := { program := "ytkkfmkhbdoeglaadoor", sum := "c9e9bd250171045787783c8d23384c55ebf224d65f69787306c873c1e98709f1", func := "overlay/overlaykeep.Canonical", spec := "canonical", inPlace := ["internal/reflectlite.ValueOf", "(internal/reflectlite.Value).Type", "(internal/reflectlite.Value).IsNil", "internal/reflectlite.TypeOf", "(internal/reflectlite.Value).Elem", "(internal/reflectlite.Value).Set"], unfollowed := true, recurses := true, named := ["overlay/overlay.shapes", "errors.errorType"], plainKeys := false, apart := false, laid := [("errors.errorType", laid_errors_errorType), ("overlay/overlay.shapes", laid_overlay_overlay_shapes)], narrowed := true }
def CanonicalUptoSaid : Prop := canonicalUptoRow.holds Tryd.pinned (OpenSpec.upto canonicalSpec)

/-- 'overlaykeep.Apart', WHERE WHAT IT READS IS OF BULK AT MOST 1048576: true; the input reads as it did. -/
def apartUptoRow : OpenClaim := { program := "ytkkfmkhbdoeglaadoor", sum := "c9e9bd250171045787783c8d23384c55ebf224d65f69787306c873c1e98709f1", func := "overlay/overlaykeep.Apart", spec := "apart", inPlace := ["internal/reflectlite.ValueOf", "(internal/reflectlite.Value).Type", "(internal/reflectlite.Value).IsNil", "internal/reflectlite.TypeOf", "(internal/reflectlite.Value).Elem", "(internal/reflectlite.Value).Set"], unfollowed := true, recurses := true, named := ["overlay/overlay.shapes", "errors.errorType"], plainKeys := false, apart := false, laid := [("errors.errorType", laid_errors_errorType), ("overlay/overlay.shapes", laid_overlay_overlay_shapes)], narrowed := true }
def ApartUptoSaid : Prop := apartUptoRow.holds Tryd.pinned (OpenSpec.upto apartSpec)

/-- 'overlaykeep.Ordered', WHERE WHAT IT READS IS OF BULK AT MOST 1048576: true; the input reads as it did. -/
def orderedUptoRow : OpenClaim := { program := "ytkkfmkhbdoeglaadoor", sum := "c9e9bd250171045787783c8d23384c55ebf224d65f69787306c873c1e98709f1", func := "overlay/overlaykeep.Ordered", spec := "ordered", inPlace := ["internal/reflectlite.ValueOf", "(internal/reflectlite.Value).Type", "(internal/reflectlite.Value).IsNil", "internal/reflectlite.TypeOf", "(internal/reflectlite.Value).Elem", "(internal/reflectlite.Value).Set"], unfollowed := true, recurses := true, named := ["overlay/overlay.shapes", "errors.errorType"], plainKeys := false, apart := false, laid := [("errors.errorType", laid_errors_errorType), ("overlay/overlay.shapes", laid_overlay_overlay_shapes)], narrowed := true }
def OrderedUptoSaid : Prop := orderedUptoRow.holds Tryd.pinned (OpenSpec.upto orderedSpec)

end Rows
end Go.Proofs.YtkkfmkhbdoeglaaDoor
