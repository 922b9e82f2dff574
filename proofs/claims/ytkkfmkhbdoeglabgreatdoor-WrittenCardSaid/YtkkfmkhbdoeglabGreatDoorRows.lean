/-
  NARROWER THAN 'FOR EVERY INPUT', by the rows' own cells (each row's printed sentence says how): Reconciles: laid · Written: laid · Arrives: laid · Agents: laid · Restarts: laid · Crashes: laid · Fails: laid · All: laid · Kept: laid.
  DERIVED. THE GIVEN ROWS OF THIS SEAT. 9 by the template 'for every input the law returns true; each argument reads behind the call as it read before'; 0 by the template 'total and deterministic' (their statements: YtkkfmkhbdoeglabGreatDoorTotals.lean).
  GIVEN WITH THE SEED: the statements are not yours to turn. If you find one false, say at which input.
  Laid BY PROGRAM, IN A SANDBOX (cutbox-rows.mjs): the forced cells as the released guide's own fill.sh prints them over the translation 3cc4a4d911f29129… (all of the seat's roots in one cut). By AI agents, Wed Nov 11 2026. No macro, syntax, notation, axiom, sorry.
-/
import Derived.Test.YtkkfmkhbdoeglabGreatDoorChecked
import GoSem.Claim
import GoSem.ClaimJoined
import GoSem.ClaimMapViews
import Derived.JoinedTies
import Derived.KernelRfl
namespace Go.Proofs.YtkkfmkhbdoeglabGreatDoor
/- THE CELL 'sum', in the pinned program and in every row, IS THE sha256 OF THE DUMP (.gsa) THAT YtkkfmkhbdoeglabGreatDoorProg.lean LOADS. Nothing in Lean hashes anything: it is a label: what it is worth is what the hold of that sum in a sandbox is worth. -/
noncomputable def Tryz.pinned : Pinned := { name := "ytkkfmkhbdoeglabgreatdoor", sum := "3cc4a4d911f291291b3b06fd3c314aa48122e8ddf4e44dbbd99fc8b97d5daa90", checked := Tryz.checked }
namespace Rows
def none {H : Type} : Left H := { results := [], args := [] }

/- WHAT THE LISTED PACKAGE-LEVEL VARIABLES READ AS WHEN THE CALL BEGINS. Each datum BY PROGRAM (the guide's laid-datum.mjs) off the statement by which the dump's own 'gosem.cut.vars' lays the variable. In a bare row this is a premise. The card (YtkkfmkhbdoeglabGreatDoorCards.lean) ties it to the program's text. -/
def laid_errors_errorType {H : Type} : DataW H := .iface "internal/reflectlite.rtype" (.agg [.ptr (.lit (.string [101, 114, 114, 111, 114]))])
def laid_overlay_overlay_shapes {H : Type} : DataW H := .agg [.agg [.lit (.int .i64 6), .lit (.int .i64 4)], .agg [.lit (.int .i64 5), .lit (.int .i64 4)], .agg [.lit (.int .i64 2), .lit (.int .i64 2)]]

/-- 'overlaylaw.Reconciles': WHATEVER THE INPUT: true; the input reads as it did. -/
def reconcilesSpec : ChangeSpec := { name := "reconciles", fn := fun _ => fun
  | [d1, d2, d3, d4] => { results := [.lit (.bool true)], args := [d1, d2, d3, d4] }
  | _ => none }
def reconcilesRow : OpenClaim := { program := "ytkkfmkhbdoeglabgreatdoor", sum := "3cc4a4d911f291291b3b06fd3c314aa48122e8ddf4e44dbbd99fc8b97d5daa90", func := "overlay/overlaylaw.Reconciles", spec := "reconciles", inPlace := ["internal/reflectlite.ValueOf", "(internal/reflectlite.Value).Type", "(internal/reflectlite.Value).IsNil", "internal/reflectlite.TypeOf", "(internal/reflectlite.Value).Elem", "(internal/reflectlite.Value).Set"], unfollowed := true, recurses := true, named := ["overlay/overlay.shapes", "errors.errorType"], plainKeys := false, apart := false, laid := [("errors.errorType", laid_errors_errorType), ("overlay/overlay.shapes", laid_overlay_overlay_shapes)] }
def ReconcilesSaid : Prop := reconcilesRow.holds Tryz.pinned (OpenSpec.ofChange reconcilesSpec)

/-- ITS FALSE NEIGHBOUR: 'it returns false'. Refute it at one input. -/
def reconcilesWrong : ChangeSpec := { name := "reconciles", fn := fun _ => fun
  | [d1, d2, d3, d4] => { results := [.lit (.bool false)], args := [d1, d2, d3, d4] }
  | _ => none }
def ReconcilesWrongFalsely : Prop := reconcilesRow.holds Tryz.pinned (OpenSpec.ofChange reconcilesWrong)

/-- 'overlaylaw.Written': WHATEVER THE INPUT: true; the input reads as it did. -/
def writtenSpec : ChangeSpec := { name := "written", fn := fun _ => fun
  | [d1, d2] => { results := [.lit (.bool true)], args := [d1, d2] }
  | _ => none }
def writtenRow : OpenClaim := { program := "ytkkfmkhbdoeglabgreatdoor", sum := "3cc4a4d911f291291b3b06fd3c314aa48122e8ddf4e44dbbd99fc8b97d5daa90", func := "overlay/overlaylaw.Written", spec := "written", inPlace := ["internal/reflectlite.ValueOf", "(internal/reflectlite.Value).Type", "(internal/reflectlite.Value).IsNil", "internal/reflectlite.TypeOf", "(internal/reflectlite.Value).Elem", "(internal/reflectlite.Value).Set"], unfollowed := true, recurses := true, named := ["overlay/overlay.shapes", "errors.errorType"], plainKeys := false, apart := false, laid := [("errors.errorType", laid_errors_errorType), ("overlay/overlay.shapes", laid_overlay_overlay_shapes)] }
def WrittenSaid : Prop := writtenRow.holds Tryz.pinned (OpenSpec.ofChange writtenSpec)

/-- ITS FALSE NEIGHBOUR: 'it returns false'. Refute it at one input. -/
def writtenWrong : ChangeSpec := { name := "written", fn := fun _ => fun
  | [d1, d2] => { results := [.lit (.bool false)], args := [d1, d2] }
  | _ => none }
def WrittenWrongFalsely : Prop := writtenRow.holds Tryz.pinned (OpenSpec.ofChange writtenWrong)

/-- 'overlaykeep.Arrives': WHATEVER THE INPUT: true; the input reads as it did. -/
def arrivesSpec : ChangeSpec := { name := "arrives", fn := fun _ => fun
  | [d1, d2, d3] => { results := [.lit (.bool true)], args := [d1, d2, d3] }
  | _ => none }
def arrivesRow : OpenClaim := { program := "ytkkfmkhbdoeglabgreatdoor", sum := "3cc4a4d911f291291b3b06fd3c314aa48122e8ddf4e44dbbd99fc8b97d5daa90", func := "overlay/overlaykeep.Arrives", spec := "arrives", inPlace := ["internal/reflectlite.ValueOf", "(internal/reflectlite.Value).Type", "(internal/reflectlite.Value).IsNil", "internal/reflectlite.TypeOf", "(internal/reflectlite.Value).Elem", "(internal/reflectlite.Value).Set"], unfollowed := true, recurses := true, named := ["overlay/overlay.shapes", "errors.errorType"], plainKeys := false, apart := false, laid := [("errors.errorType", laid_errors_errorType), ("overlay/overlay.shapes", laid_overlay_overlay_shapes)] }
def ArrivesSaid : Prop := arrivesRow.holds Tryz.pinned (OpenSpec.ofChange arrivesSpec)

/-- ITS FALSE NEIGHBOUR: 'it returns false'. Refute it at one input. -/
def arrivesWrong : ChangeSpec := { name := "arrives", fn := fun _ => fun
  | [d1, d2, d3] => { results := [.lit (.bool false)], args := [d1, d2, d3] }
  | _ => none }
def ArrivesWrongFalsely : Prop := arrivesRow.holds Tryz.pinned (OpenSpec.ofChange arrivesWrong)

/-- 'overlaylaw.Agents': WHATEVER THE INPUT: true; the input reads as it did. -/
def agentsSpec : ChangeSpec := { name := "agents", fn := fun _ => fun
  | [d1, d2, d3] => { results := [.lit (.bool true)], args := [d1, d2, d3] }
  | _ => none }
def agentsRow : OpenClaim := { program := "ytkkfmkhbdoeglabgreatdoor", sum := "3cc4a4d911f291291b3b06fd3c314aa48122e8ddf4e44dbbd99fc8b97d5daa90", func := "overlay/overlaylaw.Agents", spec := "agents", inPlace := ["internal/reflectlite.ValueOf", "(internal/reflectlite.Value).Type", "(internal/reflectlite.Value).IsNil", "internal/reflectlite.TypeOf", "(internal/reflectlite.Value).Elem", "(internal/reflectlite.Value).Set"], unfollowed := true, recurses := true, named := ["overlay/overlay.shapes", "errors.errorType"], plainKeys := false, apart := false, laid := [("errors.errorType", laid_errors_errorType), ("overlay/overlay.shapes", laid_overlay_overlay_shapes)] }
def AgentsSaid : Prop := agentsRow.holds Tryz.pinned (OpenSpec.ofChange agentsSpec)

/-- ITS FALSE NEIGHBOUR: 'it returns false'. Refute it at one input. -/
def agentsWrong : ChangeSpec := { name := "agents", fn := fun _ => fun
  | [d1, d2, d3] => { results := [.lit (.bool false)], args := [d1, d2, d3] }
  | _ => none }
def AgentsWrongFalsely : Prop := agentsRow.holds Tryz.pinned (OpenSpec.ofChange agentsWrong)

/-- 'overlaylaw.Restarts': WHATEVER THE INPUT: true; the input reads as it did. -/
def restartsSpec : ChangeSpec := { name := "restarts", fn := fun _ => fun
  | [d1, d2, d3] => { results := [.lit (.bool true)], args := [d1, d2, d3] }
  | _ => none }
def restartsRow : OpenClaim := { program := "ytkkfmkhbdoeglabgreatdoor", sum := "3cc4a4d911f291291b3b06fd3c314aa48122e8ddf4e44dbbd99fc8b97d5daa90", func := "overlay/overlaylaw.Restarts", spec := "restarts", inPlace := ["internal/reflectlite.ValueOf", "(internal/reflectlite.Value).Type", "(internal/reflectlite.Value).IsNil", "internal/reflectlite.TypeOf", "(internal/reflectlite.Value).Elem", "(internal/reflectlite.Value).Set"], unfollowed := true, recurses := true, named := ["overlay/overlay.shapes", "errors.errorType"], plainKeys := false, apart := false, laid := [("errors.errorType", laid_errors_errorType), ("overlay/overlay.shapes", laid_overlay_overlay_shapes)] }
def RestartsSaid : Prop := restartsRow.holds Tryz.pinned (OpenSpec.ofChange restartsSpec)

/-- ITS FALSE NEIGHBOUR: 'it returns false'. Refute it at one input. -/
def restartsWrong : ChangeSpec := { name := "restarts", fn := fun _ => fun
  | [d1, d2, d3] => { results := [.lit (.bool false)], args := [d1, d2, d3] }
  | _ => none }
def RestartsWrongFalsely : Prop := restartsRow.holds Tryz.pinned (OpenSpec.ofChange restartsWrong)

/-- 'overlaylaw.Crashes': WHATEVER THE INPUT: true; the input reads as it did. -/
def crashesSpec : ChangeSpec := { name := "crashes", fn := fun _ => fun
  | [d1, d2, d3] => { results := [.lit (.bool true)], args := [d1, d2, d3] }
  | _ => none }
def crashesRow : OpenClaim := { program := "ytkkfmkhbdoeglabgreatdoor", sum := "3cc4a4d911f291291b3b06fd3c314aa48122e8ddf4e44dbbd99fc8b97d5daa90", func := "overlay/overlaylaw.Crashes", spec := "crashes", inPlace := ["internal/reflectlite.ValueOf", "(internal/reflectlite.Value).Type", "(internal/reflectlite.Value).IsNil", "internal/reflectlite.TypeOf", "(internal/reflectlite.Value).Elem", "(internal/reflectlite.Value).Set"], unfollowed := true, recurses := true, named := ["overlay/overlay.shapes", "errors.errorType"], plainKeys := false, apart := false, laid := [("errors.errorType", laid_errors_errorType), ("overlay/overlay.shapes", laid_overlay_overlay_shapes)] }
def CrashesSaid : Prop := crashesRow.holds Tryz.pinned (OpenSpec.ofChange crashesSpec)

/-- ITS FALSE NEIGHBOUR: 'it returns false'. Refute it at one input. -/
def crashesWrong : ChangeSpec := { name := "crashes", fn := fun _ => fun
  | [d1, d2, d3] => { results := [.lit (.bool false)], args := [d1, d2, d3] }
  | _ => none }
def CrashesWrongFalsely : Prop := crashesRow.holds Tryz.pinned (OpenSpec.ofChange crashesWrong)

/-- 'overlaylaw.Fails': WHATEVER THE INPUT: true; the input reads as it did. -/
def failsSpec : ChangeSpec := { name := "fails", fn := fun _ => fun
  | [d1, d2, d3] => { results := [.lit (.bool true)], args := [d1, d2, d3] }
  | _ => none }
def failsRow : OpenClaim := { program := "ytkkfmkhbdoeglabgreatdoor", sum := "3cc4a4d911f291291b3b06fd3c314aa48122e8ddf4e44dbbd99fc8b97d5daa90", func := "overlay/overlaylaw.Fails", spec := "fails", inPlace := ["internal/reflectlite.ValueOf", "(internal/reflectlite.Value).Type", "(internal/reflectlite.Value).IsNil", "internal/reflectlite.TypeOf", "(internal/reflectlite.Value).Elem", "(internal/reflectlite.Value).Set"], unfollowed := true, recurses := true, named := ["overlay/overlay.shapes", "errors.errorType"], plainKeys := false, apart := false, laid := [("errors.errorType", laid_errors_errorType), ("overlay/overlay.shapes", laid_overlay_overlay_shapes)] }
def FailsSaid : Prop := failsRow.holds Tryz.pinned (OpenSpec.ofChange failsSpec)

/-- ITS FALSE NEIGHBOUR: 'it returns false'. Refute it at one input. -/
def failsWrong : ChangeSpec := { name := "fails", fn := fun _ => fun
  | [d1, d2, d3] => { results := [.lit (.bool false)], args := [d1, d2, d3] }
  | _ => none }
def FailsWrongFalsely : Prop := failsRow.holds Tryz.pinned (OpenSpec.ofChange failsWrong)

/-- 'overlaylaw.All': WHATEVER THE INPUT: true; the input reads as it did. -/
def allSpec : ChangeSpec := { name := "all", fn := fun _ => fun
  | [d1, d2, d3] => { results := [.lit (.bool true)], args := [d1, d2, d3] }
  | _ => none }
def allRow : OpenClaim := { program := "ytkkfmkhbdoeglabgreatdoor", sum := "3cc4a4d911f291291b3b06fd3c314aa48122e8ddf4e44dbbd99fc8b97d5daa90", func := "overlay/overlaylaw.All", spec := "all", inPlace := ["internal/reflectlite.ValueOf", "(internal/reflectlite.Value).Type", "(internal/reflectlite.Value).IsNil", "internal/reflectlite.TypeOf", "(internal/reflectlite.Value).Elem", "(internal/reflectlite.Value).Set"], unfollowed := true, recurses := true, named := ["overlay/overlay.shapes", "errors.errorType"], plainKeys := false, apart := false, laid := [("errors.errorType", laid_errors_errorType), ("overlay/overlay.shapes", laid_overlay_overlay_shapes)] }
def AllSaid : Prop := allRow.holds Tryz.pinned (OpenSpec.ofChange allSpec)

/-- ITS FALSE NEIGHBOUR: 'it returns false'. Refute it at one input. -/
def allWrong : ChangeSpec := { name := "all", fn := fun _ => fun
  | [d1, d2, d3] => { results := [.lit (.bool false)], args := [d1, d2, d3] }
  | _ => none }
def AllWrongFalsely : Prop := allRow.holds Tryz.pinned (OpenSpec.ofChange allWrong)

/-- 'overlaykeep.Kept': WHATEVER THE INPUT: true; the input reads as it did. -/
def keptSpec : ChangeSpec := { name := "kept", fn := fun _ => fun
  | [d1, d2, d3, d4, d5] => { results := [.lit (.bool true)], args := [d1, d2, d3, d4, d5] }
  | _ => none }
def keptRow : OpenClaim := { program := "ytkkfmkhbdoeglabgreatdoor", sum := "3cc4a4d911f291291b3b06fd3c314aa48122e8ddf4e44dbbd99fc8b97d5daa90", func := "overlay/overlaykeep.Kept", spec := "kept", inPlace := ["internal/reflectlite.ValueOf", "(internal/reflectlite.Value).Type", "(internal/reflectlite.Value).IsNil", "internal/reflectlite.TypeOf", "(internal/reflectlite.Value).Elem", "(internal/reflectlite.Value).Set"], unfollowed := true, recurses := true, named := ["overlay/overlay.shapes", "errors.errorType"], plainKeys := false, apart := false, laid := [("errors.errorType", laid_errors_errorType), ("overlay/overlay.shapes", laid_overlay_overlay_shapes)] }
def KeptSaid : Prop := keptRow.holds Tryz.pinned (OpenSpec.ofChange keptSpec)

/-- ITS FALSE NEIGHBOUR: 'it returns false'. Refute it at one input. -/
def keptWrong : ChangeSpec := { name := "kept", fn := fun _ => fun
  | [d1, d2, d3, d4, d5] => { results := [.lit (.bool false)], args := [d1, d2, d3, d4, d5] }
  | _ => none }
def KeptWrongFalsely : Prop := keptRow.holds Tryz.pinned (OpenSpec.ofChange keptWrong)

/- THE SECOND FORM. 'bulk': how many values and letters a reading holds, each counted each time it is reached (what is shared counts as often as it is met; a slice's spare places count too). A statement '..UptoSaid' is the law's where the arguments, and the package variables that the reading takes, are together of bulk at most 1048576: NARROWER than '..Said'. Prove '..Said' where nothing that the law and all that it calls make is longer than what came in: it says more and counts as full. Else prove '..UptoSaid'. A law counts once. -/
mutual
def uptoBulk {H : Type} : DataW H → Nat
  | .lit (.string bytes) => bytes.length + 1
  | .lit _ => 1
  | .nil => 1
  | .ptr d => uptoBulk d + 1
  | .slice elems spare => uptoBulkAll elems + uptoBulkAll spare + 1
  | .agg parts => uptoBulkAll parts + 1
  | .iface _ d => uptoBulk d + 1
  | .map entries => uptoBulkEntries entries + 1
  | .held _ => 1
def uptoBulkAll {H : Type} : List (DataW H) → Nat
  | [] => 0
  | d :: r => uptoBulk d + uptoBulkAll r
def uptoBulkEntries {H : Type} : List (Lit × DataW H) → Nat
  | [] => 0
  | x :: r => uptoBulkEntry x + uptoBulkEntries r
def uptoBulkEntry {H : Type} : Lit × DataW H → Nat
  | (.string bytes, d) => bytes.length + uptoBulk d + 1
  | (_, d) => uptoBulk d + 1
 end
def uptoSmall : (H : Type) → List (DataW H) → Bool := fun _ ds => decide (uptoBulkAll ds ≤ 1048576)
def OpenSpec.upto (s : _root_.Go.ChangeSpec) : _root_.Go.OpenSpec := { _root_.Go.OpenSpec.ofChange s with cond := some uptoSmall }

/-- 'overlaylaw.Reconciles', WHERE WHAT IT READS IS OF BULK AT MOST 1048576: true; the input reads as it did. -/
def reconcilesUptoRow : OpenClaim := { program := "ytkkfmkhbdoeglabgreatdoor", sum := "3cc4a4d911f291291b3b06fd3c314aa48122e8ddf4e44dbbd99fc8b97d5daa90", func := "overlay/overlaylaw.Reconciles", spec := "reconciles", inPlace := ["internal/reflectlite.ValueOf", "(internal/reflectlite.Value).Type", "(internal/reflectlite.Value).IsNil", "internal/reflectlite.TypeOf", "(internal/reflectlite.Value).Elem", "(internal/reflectlite.Value).Set"], unfollowed := true, recurses := true, named := ["overlay/overlay.shapes", "errors.errorType"], plainKeys := false, apart := false, laid := [("errors.errorType", laid_errors_errorType), ("overlay/overlay.shapes", laid_overlay_overlay_shapes)], narrowed := true }
def ReconcilesUptoSaid : Prop := reconcilesUptoRow.holds Tryz.pinned (OpenSpec.upto reconcilesSpec)

/-- 'overlaylaw.Written', WHERE WHAT IT READS IS OF BULK AT MOST 1048576: true; the input reads as it did. -/
def writtenUptoRow : OpenClaim := { program := "ytkkfmkhbdoeglabgreatdoor", sum := "3cc4a4d911f291291b3b06fd3c314aa48122e8ddf4e44dbbd99fc8b97d5daa90", func := "overlay/overlaylaw.Written", spec := "written", inPlace := ["internal/reflectlite.ValueOf", "(internal/reflectlite.Value).Type", "(internal/reflectlite.Value).IsNil", "internal/reflectlite.TypeOf", "(internal/reflectlite.Value).Elem", "(internal/reflectlite.Value).Set"], unfollowed := true, recurses := true, named := ["overlay/overlay.shapes", "errors.errorType"], plainKeys := false, apart := false, laid := [("errors.errorType", laid_errors_errorType), ("overlay/overlay.shapes", laid_overlay_overlay_shapes)], narrowed := true }
def WrittenUptoSaid : Prop := writtenUptoRow.holds Tryz.pinned (OpenSpec.upto writtenSpec)

/-- 'overlaykeep.Arrives', WHERE WHAT IT READS IS OF BULK AT MOST 1048576: true; the input reads as it did. -/
def arrivesUptoRow : OpenClaim := { program := "ytkkfmkhbdoeglabgreatdoor", sum := "3cc4a4d911f291291b3b06fd3c314aa48122e8ddf4e44dbbd99fc8b97d5daa90", func := "overlay/overlaykeep.Arrives", spec := "arrives", inPlace := ["internal/reflectlite.ValueOf", "(internal/reflectlite.Value).Type", "(internal/reflectlite.Value).IsNil", "internal/reflectlite.TypeOf", "(internal/reflectlite.Value).Elem", "(internal/reflectlite.Value).Set"], unfollowed := true, recurses := true, named := ["overlay/overlay.shapes", "errors.errorType"], plainKeys := false, apart := false, laid := [("errors.errorType", laid_errors_errorType), ("overlay/overlay.shapes", laid_overlay_overlay_shapes)], narrowed := true }
def ArrivesUptoSaid : Prop := arrivesUptoRow.holds Tryz.pinned (OpenSpec.upto arrivesSpec)

/-- 'overlaylaw.Agents', WHERE WHAT IT READS IS OF BULK AT MOST 1048576: true; the input reads as it did. -/
def agentsUptoRow : OpenClaim := { program := "ytkkfmkhbdoeglabgreatdoor", sum := "3cc4a4d911f291291b3b06fd3c314aa48122e8ddf4e44dbbd99fc8b97d5daa90", func := "overlay/overlaylaw.Agents", spec := "agents", inPlace := ["internal/reflectlite.ValueOf", "(internal/reflectlite.Value).Type", "(internal/reflectlite.Value).IsNil", "internal/reflectlite.TypeOf", "(internal/reflectlite.Value).Elem", "(internal/reflectlite.Value).Set"], unfollowed := true, recurses := true, named := ["overlay/overlay.shapes", "errors.errorType"], plainKeys := false, apart := false, laid := [("errors.errorType", laid_errors_errorType), ("overlay/overlay.shapes", laid_overlay_overlay_shapes)], narrowed := true }
def AgentsUptoSaid : Prop := agentsUptoRow.holds Tryz.pinned (OpenSpec.upto agentsSpec)

/-- 'overlaylaw.Restarts', WHERE WHAT IT READS IS OF BULK AT MOST 1048576: true; the input reads as it did. -/
def restartsUptoRow : OpenClaim := { program := "ytkkfmkhbdoeglabgreatdoor", sum := "3cc4a4d911f291291b3b06fd3c314aa48122e8ddf4e44dbbd99fc8b97d5daa90", func := "overlay/overlaylaw.Restarts", spec := "restarts", inPlace := ["internal/reflectlite.ValueOf", "(internal/reflectlite.Value).Type", "(internal/reflectlite.Value).IsNil", "internal/reflectlite.TypeOf", "(internal/reflectlite.Value).Elem", "(internal/reflectlite.Value).Set"], unfollowed := true, recurses := true, named := ["overlay/overlay.shapes", "errors.errorType"], plainKeys := false, apart := false, laid := [("errors.errorType", laid_errors_errorType), ("overlay/overlay.shapes", laid_overlay_overlay_shapes)], narrowed := true }
def RestartsUptoSaid : Prop := restartsUptoRow.holds Tryz.pinned (OpenSpec.upto restartsSpec)

/-- 'overlaylaw.Crashes', WHERE WHAT IT READS IS OF BULK AT MOST 1048576: true; the input reads as it did. -/
def crashesUptoRow : OpenClaim := { program := "ytkkfmkhbdoeglabgreatdoor", sum := "3cc4a4d911f291291b3b06fd3c314aa48122e8ddf4e44dbbd99fc8b97d5daa90", func := "overlay/overlaylaw.Crashes", spec := "crashes", inPlace := ["internal/reflectlite.ValueOf", "(internal/reflectlite.Value).Type", "(internal/reflectlite.Value).IsNil", "internal/reflectlite.TypeOf", "(internal/reflectlite.Value).Elem", "(internal/reflectlite.Value).Set"], unfollowed := true, recurses := true, named := ["overlay/overlay.shapes", "errors.errorType"], plainKeys := false, apart := false, laid := [("errors.errorType", laid_errors_errorType), ("overlay/overlay.shapes", laid_overlay_overlay_shapes)], narrowed := true }
def CrashesUptoSaid : Prop := crashesUptoRow.holds Tryz.pinned (OpenSpec.upto crashesSpec)

/-- 'overlaylaw.Fails', WHERE WHAT IT READS IS OF BULK AT MOST 1048576: true; the input reads as it did. -/
def failsUptoRow : OpenClaim := { program := "ytkkfmkhbdoeglabgreatdoor", sum := "3cc4a4d911f291291b3b06fd3c314aa48122e8ddf4e44dbbd99fc8b97d5daa90", func := "overlay/overlaylaw.Fails", spec := "fails", inPlace := ["internal/reflectlite.ValueOf", "(internal/reflectlite.Value).Type", "(internal/reflectlite.Value).IsNil", "internal/reflectlite.TypeOf", "(internal/reflectlite.Value).Elem", "(internal/reflectlite.Value).Set"], unfollowed := true, recurses := true, named := ["overlay/overlay.shapes", "errors.errorType"], plainKeys := false, apart := false, laid := [("errors.errorType", laid_errors_errorType), ("overlay/overlay.shapes", laid_overlay_overlay_shapes)], narrowed := true }
def FailsUptoSaid : Prop := failsUptoRow.holds Tryz.pinned (OpenSpec.upto failsSpec)

/-- 'overlaylaw.All', WHERE WHAT IT READS IS OF BULK AT MOST 1048576: true; the input reads as it did. -/
def allUptoRow : OpenClaim := { program := "ytkkfmkhbdoeglabgreatdoor", sum := "3cc4a4d911f291291b3b06fd3c314aa48122e8ddf4e44dbbd99fc8b97d5daa90", func := "overlay/overlaylaw.All", spec := "all", inPlace := ["internal/reflectlite.ValueOf", "(internal/reflectlite.Value).Type", "(internal/reflectlite.Value).IsNil", "internal/reflectlite.TypeOf", "(internal/reflectlite.Value).Elem", "(internal/reflectlite.Value).Set"], unfollowed := true, recurses := true, named := ["overlay/overlay.shapes", "errors.errorType"], plainKeys := false, apart := false, laid := [("errors.errorType", laid_errors_errorType), ("overlay/overlay.shapes", laid_overlay_overlay_shapes)], narrowed := true }
def AllUptoSaid : Prop := allUptoRow.holds Tryz.pinned (OpenSpec.upto allSpec)

/-- 'overlaykeep.Kept', WHERE WHAT IT READS IS OF BULK AT MOST 1048576: true; the input reads as it did. -/
def keptUptoRow : OpenClaim := { program := "ytkkfmkhbdoeglabgreatdoor", sum := "3cc4a4d911f291291b3b06fd3c314aa48122e8ddf4e44dbbd99fc8b97d5daa90", func := "overlay/overlaykeep.Kept", spec := "kept", inPlace := ["internal/reflectlite.ValueOf", "(internal/reflectlite.Value).Type", "(internal/reflectlite.Value).IsNil", "internal/reflectlite.TypeOf", "(internal/reflectlite.Value).Elem", "(internal/reflectlite.Value).Set"], unfollowed := true, recurses := true, named := ["overlay/overlay.shapes", "errors.errorType"], plainKeys := false, apart := false, laid := [("errors.errorType", laid_errors_errorType), ("overlay/overlay.shapes", laid_overlay_overlay_shapes)], narrowed := true }
def KeptUptoSaid : Prop := keptUptoRow.holds Tryz.pinned (OpenSpec.upto keptSpec)

end Rows
end Go.Proofs.YtkkfmkhbdoeglabGreatDoor
