/-
  NARROWER THAN 'FOR EVERY INPUT', by the rows' own cells (each row's printed sentence says how): Silent: laid · Whole: laid · Tables: laid · States: laid.
  DERIVED. THE GIVEN ROWS OF THIS SEAT. 4 by the template 'for every input the law returns true; each argument reads behind the call as it read before'; 0 by the template 'total and deterministic' (their statements: YtkkfmkhbdoeglaaGreatDoorTotals.lean).
  GIVEN WITH THE SEED: the statements are not yours to turn. If you find one false, say at which input.
  Laid BY PROGRAM, IN A SANDBOX (cutbox-rows.mjs): the forced cells as the released guide's own fill.sh prints them over the translation 52cd5f27ccb066cb… (all of the seat's roots in one cut). By AI agents, Wed Nov 11 2026. No macro, syntax, notation, axiom, sorry.
-/
import Derived.Test.YtkkfmkhbdoeglaaGreatDoorChecked
import GoSem.Claim
import GoSem.ClaimJoined
import GoSem.ClaimMapViews
import Derived.JoinedTies
import Derived.KernelRfl
namespace Go.Proofs.YtkkfmkhbdoeglaaGreatDoor
/- THE CELL 'sum', in the pinned program and in every row, IS THE sha256 OF THE DUMP (.gsa) THAT YtkkfmkhbdoeglaaGreatDoorProg.lean LOADS. Nothing in Lean hashes anything: it is a label: what it is worth is what the hold of that sum in a sandbox is worth. -/
noncomputable def Tryz.pinned : Pinned := { name := "ytkkfmkhbdoeglaagreatdoor", sum := "52cd5f27ccb066cb9a06f5c750119fa600d1d0b9f56d050415452d6b4aad3e83", checked := Tryz.checked }
namespace Rows
def none {H : Type} : Left H := { results := [], args := [] }

/- WHAT THE LISTED PACKAGE-LEVEL VARIABLES READ AS WHEN THE CALL BEGINS. Each datum BY PROGRAM (the guide's laid-datum.mjs) off the statement by which the dump's own 'gosem.cut.vars' lays the variable. In a bare row this is a premise. The card (YtkkfmkhbdoeglaaGreatDoorCards.lean) ties it to the program's text. -/
def laid_errors_errorType {H : Type} : DataW H := .iface "internal/reflectlite.rtype" (.agg [.ptr (.lit (.string [101, 114, 114, 111, 114]))])
def laid_overlay_overlay_shapes {H : Type} : DataW H := .agg [.agg [.lit (.int .i64 6), .lit (.int .i64 4)], .agg [.lit (.int .i64 5), .lit (.int .i64 4)], .agg [.lit (.int .i64 2), .lit (.int .i64 2)]]

/-- 'overlaykeep.Silent': WHATEVER THE INPUT: true; the input reads as it did. -/
def silentSpec : ChangeSpec := { name := "silent", fn := fun _ => fun
  | [d1, d2, d3] => { results := [.lit (.bool true)], args := [d1, d2, d3] }
  | _ => none }
def silentRow : OpenClaim := { program := "ytkkfmkhbdoeglaagreatdoor", sum := "52cd5f27ccb066cb9a06f5c750119fa600d1d0b9f56d050415452d6b4aad3e83", func := "overlay/overlaykeep.Silent", spec := "silent", inPlace := ["internal/reflectlite.ValueOf", "(internal/reflectlite.Value).Type", "(internal/reflectlite.Value).IsNil", "internal/reflectlite.TypeOf", "(internal/reflectlite.Value).Elem", "(internal/reflectlite.Value).Set"], unfollowed := true, recurses := true, named := ["overlay/overlay.shapes", "errors.errorType"], plainKeys := false, apart := false, laid := [("errors.errorType", laid_errors_errorType), ("overlay/overlay.shapes", laid_overlay_overlay_shapes)] }
def SilentSaid : Prop := silentRow.holds Tryz.pinned (OpenSpec.ofChange silentSpec)

/-- ITS FALSE NEIGHBOUR: 'it returns false'. Refute it at one input. -/
def silentWrong : ChangeSpec := { name := "silent", fn := fun _ => fun
  | [d1, d2, d3] => { results := [.lit (.bool false)], args := [d1, d2, d3] }
  | _ => none }
def SilentWrongFalsely : Prop := silentRow.holds Tryz.pinned (OpenSpec.ofChange silentWrong)

/-- 'overlaykeep.Whole': WHATEVER THE INPUT: true; the input reads as it did. -/
def wholeSpec : ChangeSpec := { name := "whole", fn := fun _ => fun
  | [d1, d2, d3, d4, d5, d6, d7] => { results := [.lit (.bool true)], args := [d1, d2, d3, d4, d5, d6, d7] }
  | _ => none }
def wholeRow : OpenClaim := { program := "ytkkfmkhbdoeglaagreatdoor", sum := "52cd5f27ccb066cb9a06f5c750119fa600d1d0b9f56d050415452d6b4aad3e83", func := "overlay/overlaykeep.Whole", spec := "whole", inPlace := ["internal/reflectlite.ValueOf", "(internal/reflectlite.Value).Type", "(internal/reflectlite.Value).IsNil", "internal/reflectlite.TypeOf", "(internal/reflectlite.Value).Elem", "(internal/reflectlite.Value).Set"], unfollowed := true, recurses := true, named := ["overlay/overlay.shapes", "errors.errorType"], plainKeys := false, apart := false, laid := [("errors.errorType", laid_errors_errorType), ("overlay/overlay.shapes", laid_overlay_overlay_shapes)] }
def WholeSaid : Prop := wholeRow.holds Tryz.pinned (OpenSpec.ofChange wholeSpec)

/-- ITS FALSE NEIGHBOUR: 'it returns false'. Refute it at one input. -/
def wholeWrong : ChangeSpec := { name := "whole", fn := fun _ => fun
  | [d1, d2, d3, d4, d5, d6, d7] => { results := [.lit (.bool false)], args := [d1, d2, d3, d4, d5, d6, d7] }
  | _ => none }
def WholeWrongFalsely : Prop := wholeRow.holds Tryz.pinned (OpenSpec.ofChange wholeWrong)

/-- 'overlaylaw.Tables': WHATEVER THE INPUT: true; the input reads as it did. -/
def tablesSpec : ChangeSpec := { name := "tables", fn := fun _ => fun
  | [d1, d2, d3] => { results := [.lit (.bool true)], args := [d1, d2, d3] }
  | _ => none }
def tablesRow : OpenClaim := { program := "ytkkfmkhbdoeglaagreatdoor", sum := "52cd5f27ccb066cb9a06f5c750119fa600d1d0b9f56d050415452d6b4aad3e83", func := "overlay/overlaylaw.Tables", spec := "tables", inPlace := ["internal/reflectlite.ValueOf", "(internal/reflectlite.Value).Type", "(internal/reflectlite.Value).IsNil", "internal/reflectlite.TypeOf", "(internal/reflectlite.Value).Elem", "(internal/reflectlite.Value).Set"], unfollowed := true, recurses := true, named := ["overlay/overlay.shapes", "errors.errorType"], plainKeys := false, apart := false, laid := [("errors.errorType", laid_errors_errorType), ("overlay/overlay.shapes", laid_overlay_overlay_shapes)] }
def TablesSaid : Prop := tablesRow.holds Tryz.pinned (OpenSpec.ofChange tablesSpec)

/-- ITS FALSE NEIGHBOUR: 'it returns false'. Refute it at one input. -/
def tablesWrong : ChangeSpec := { name := "tables", fn := fun _ => fun
  | [d1, d2, d3] => { results := [.lit (.bool false)], args := [d1, d2, d3] }
  | _ => none }
def TablesWrongFalsely : Prop := tablesRow.holds Tryz.pinned (OpenSpec.ofChange tablesWrong)

/-- 'overlaylaw.States': WHATEVER THE INPUT: true; the input reads as it did. -/
def statesSpec : ChangeSpec := { name := "states", fn := fun _ => fun
  | [d1, d2, d3, d4, d5] => { results := [.lit (.bool true)], args := [d1, d2, d3, d4, d5] }
  | _ => none }
def statesRow : OpenClaim := { program := "ytkkfmkhbdoeglaagreatdoor", sum := "52cd5f27ccb066cb9a06f5c750119fa600d1d0b9f56d050415452d6b4aad3e83", func := "overlay/overlaylaw.States", spec := "states", inPlace := ["internal/reflectlite.ValueOf", "(internal/reflectlite.Value).Type", "(internal/reflectlite.Value).IsNil", "internal/reflectlite.TypeOf", "(internal/reflectlite.Value).Elem", "(internal/reflectlite.Value).Set"], unfollowed := true, recurses := true, named := ["overlay/overlay.shapes", "errors.errorType"], plainKeys := false, apart := false, laid := [("errors.errorType", laid_errors_errorType), ("overlay/overlay.shapes", laid_overlay_overlay_shapes)] }
def StatesSaid : Prop := statesRow.holds Tryz.pinned (OpenSpec.ofChange statesSpec)

/-- ITS FALSE NEIGHBOUR: 'it returns false'. Refute it at one input. -/
def statesWrong : ChangeSpec := { name := "states", fn := fun _ => fun
  | [d1, d2, d3, d4, d5] => { results := [.lit (.bool false)], args := [d1, d2, d3, d4, d5] }
  | _ => none }
def StatesWrongFalsely : Prop := statesRow.holds Tryz.pinned (OpenSpec.ofChange statesWrong)

/- THE SECOND FORM. 'bulk': how many values and letters a reading holds, each counted each time it is reached (what is shared counts as often as it is met; a slice's spare places count too). A statement '..UptoSaid' is the law's where the arguments, and the package variables that the reading takes, are together of bulk at most 1048576: NARROWER than '..Said'. Prove '..Said' where nothing that the law and all that it calls make is longer than what came in: it says more and counts as full. Else prove '..UptoSaid'. A law counts once. -/
mutual
def uptoBulk {H : Type} : DataW H → Nat
  | .lit (.string bytes) => bytes.length + 1
  | .lit _ => 1
  | .nil => 1
  | .ptr d => uptoBulk d + 1
  | .slice elems spare => uptoBulkAll elems + uptoBulkAll spare + 1
  | .agg parts => uptoBulkAll parts + 1
  | .iface _ d => uptoBulk d + 1
  | .map entries => uptoBulkEntries entries + 1
  | .held _ => 1
def uptoBulkAll {H : Type} : List (DataW H) → Nat
  | [] => 0
  | d :: r => uptoBulk d + uptoBulkAll r
def uptoBulkEntries {H : Type} : List (Lit × DataW H) → Nat
  | [] => 0
  | x :: r => uptoBulkEntry x + uptoBulkEntries r
def uptoBulkEntry {H : Type} : Lit × DataW H → Nat
  | (.string bytes, d) => bytes.length + uptoBulk d + 1
  | (_, d) => uptoBulk d + 1
 end
def uptoSmall : (H : Type) → List (DataW H) → Bool := fun _ ds => decide (uptoBulkAll ds ≤ 1048576)
def OpenSpec.upto (s : _root_.Go.ChangeSpec) : _root_.Go.OpenSpec := { _root_.Go.OpenSpec.ofChange s with cond := some uptoSmall }

/-- 'overlaykeep.Silent', WHERE WHAT IT READS IS OF BULK AT MOST 1048576: true; the input reads as it did. -/
def silentUptoRow : OpenClaim := { program := "ytkkfmkhbdoeglaagreatdoor", sum := "52cd5f27ccb066cb9a06f5c750119fa600d1d0b9f56d050415452d6b4aad3e83", func := "overlay/overlaykeep.Silent", spec := "silent", inPlace := ["internal/reflectlite.ValueOf", "(internal/reflectlite.Value).Type", "(internal/reflectlite.Value).IsNil", "internal/reflectlite.TypeOf", "(internal/reflectlite.Value).Elem", "(internal/reflectlite.Value).Set"], unfollowed := true, recurses := true, named := ["overlay/overlay.shapes", "errors.errorType"], plainKeys := false, apart := false, laid := [("errors.errorType", laid_errors_errorType), ("overlay/overlay.shapes", laid_overlay_overlay_shapes)], narrowed := true }
def SilentUptoSaid : Prop := silentUptoRow.holds Tryz.pinned (OpenSpec.upto silentSpec)

/-- 'overlaykeep.Whole', WHERE WHAT IT READS IS OF BULK AT MOST 1048576: true; the input reads as it did. -/
def wholeUptoRow : OpenClaim := { program := "ytkkfmkhbdoeglaagreatdoor", sum := "52cd5f27ccb066cb9a06f5c750119fa600d1d0b9f56d050415452d6b4aad3e83", func := "overlay/overlaykeep.Whole", spec := "whole", inPlace := ["internal/reflectlite.ValueOf", "(internal/reflectlite.Value).Type", "(internal/reflectlite.Value).IsNil", "internal/reflectlite.TypeOf", "(internal/reflectlite.Value).Elem", "(internal/reflectlite.Value).Set"], unfollowed := true, recurses := true, named := ["overlay/overlay.shapes", "errors.errorType"], plainKeys := false, apart := false, laid := [("errors.errorType", laid_errors_errorType), ("overlay/overlay.shapes", laid_overlay_overlay_shapes)], narrowed := true }
def WholeUptoSaid : Prop := wholeUptoRow.holds Tryz.pinned (OpenSpec.upto wholeSpec)

/-- 'overlaylaw.Tables', WHERE WHAT IT READS IS OF BULK AT MOST 1048576: true; the input reads as it did. -/
def tablesUptoRow : OpenClaim := { program := "ytkkfmkhbdoeglaagreatdoor", sum := "52cd5f27ccb066cb9a06f5c750119fa600d1d0b9f56d050415452d6b4aad3e83", func := "overlay/overlaylaw.Tables", spec := "tables", inPlace := ["internal/reflectlite.ValueOf", "(internal/reflectlite.Value).Type", "(internal/reflectlite.Value).IsNil", "internal/reflectlite.TypeOf", "(internal/reflectlite.Value).Elem", "(internal/reflectlite.Value).Set"], unfollowed := true, recurses := true, named := ["overlay/overlay.shapes", "errors.errorType"], plainKeys := false, apart := false, laid := [("errors.errorType", laid_errors_errorType), ("overlay/overlay.shapes", laid_overlay_overlay_shapes)], narrowed := true }
def TablesUptoSaid : Prop := tablesUptoRow.holds Tryz.pinned (OpenSpec.upto tablesSpec)

/-- 'overlaylaw.States', WHERE WHAT IT READS IS OF BULK AT MOST 1048576: true; the input reads as it did. -/
def statesUptoRow : OpenClaim := { program := "ytkkfmkhbdoeglaagreatdoor", sum := "52cd5f27ccb066cb9a06f5c750119fa600d1d0b9f56d050415452d6b4aad3e83", func := "overlay/overlaylaw.States", spec := "states", inPlace := ["internal/reflectlite.ValueOf", "(internal/reflectlite.Value).Type", "(internal/reflectlite.Value).IsNil", "internal/reflectlite.TypeOf", "(internal/reflectlite.Value).Elem", "(internal/reflectlite.Value).Set"], unfollowed := true, recurses := true, named := ["overlay/overlay.shapes", "errors.errorType"], plainKeys := false, apart := false, laid := [("errors.errorType", laid_errors_errorType), ("overlay/overlay.shapes", laid_overlay_overlay_shapes)], narrowed := true }
def StatesUptoSaid : Prop := statesUptoRow.holds Tryz.pinned (OpenSpec.upto statesSpec)

end Rows
end Go.Proofs.YtkkfmkhbdoeglaaGreatDoor
