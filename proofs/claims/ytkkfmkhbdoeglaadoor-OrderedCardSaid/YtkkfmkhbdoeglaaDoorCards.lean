/-
  DERIVED. GIVEN WITH THE SEED: THE CARDS: each row of YtkkfmkhbdoeglaaDoorRows.lean that lists a variable, with what it lists TIED to the program's text (the seventh form; the later family's looks); each row that meets fmt, with fmt's text TOLD by the authors' own Lean function (tested against real Go, not proved from fmt's source: count such statements apart). THE CARD IS WHAT COUNTS. Prove the row's statement (the work); the ties are given (YtkkfmkhbdoeglaaDoorTie.lean); close each card by the builder's one call (the guide's Derived/Test/ToyasCard.lean, 'card_holds'). Laid BY PROGRAM, IN A SANDBOX (cutbox-door.mjs). By AI agents, Wed Nov 11 2026. No macro, syntax, notation, axiom, sorry.
-/
import Derived.Test.YtkkfmkhbdoeglaaDoorRows
import GoSem.ClaimSeven
namespace Go.Proofs.YtkkfmkhbdoeglaaDoor
namespace Rows

/-- THE TIED CARD OF 'overlaylaw.Frames'. -/
def framesCard : Claim7 := { stood := { row := framesRow, standIns := [], harness := (true, "32a9facc2a54bc1cf297e96afe885c9b66ed580770ef0a6dd8ccfba1ae4424b6"), looks := true }, kinds := [], alts := [], laidByText := true, laidKinds := [.handle], laidTests := true, laidLooks := .later }
def FramesCardSaid : Prop := Claim7.holds Tryd.pinned (.plain (OpenSpec.ofChange framesSpec)) framesCard

/-- THE TIED CARD OF 'overlaykeep.Turned'. -/
def turnedCard : Claim7 := { stood := { row := turnedRow, standIns := [], harness := (true, "32a9facc2a54bc1cf297e96afe885c9b66ed580770ef0a6dd8ccfba1ae4424b6"), looks := true }, kinds := [], alts := [], laidByText := true, laidKinds := [.handle], laidTests := true, laidLooks := .later }
def TurnedCardSaid : Prop := Claim7.holds Tryd.pinned (.plain (OpenSpec.ofChange turnedSpec)) turnedCard

/-- THE TIED CARD OF 'overlaykeep.Longest'. -/
def longestCard : Claim7 := { stood := { row := longestRow, standIns := [], harness := (true, "32a9facc2a54bc1cf297e96afe885c9b66ed580770ef0a6dd8ccfba1ae4424b6"), looks := true }, kinds := [], alts := [], laidByText := true, laidKinds := [.handle, .data], laidTests := true, laidLooks := .later }
def LongestCardSaid : Prop := Claim7.holds Tryd.pinned (.plain (OpenSpec.ofChange longestSpec)) longestCard

/-- THE TIED CARD OF 'overlaylaw.Deltas'. -/
def deltasCard : Claim7 := { stood := { row := deltasRow, standIns := [], harness := (true, "32a9facc2a54bc1cf297e96afe885c9b66ed580770ef0a6dd8ccfba1ae4424b6"), looks := true }, kinds := [], alts := [], laidByText := true, laidKinds := [.handle, .data], laidTests := true, laidLooks := .later }
def DeltasCardSaid : Prop := Claim7.holds Tryd.pinned (.plain (OpenSpec.ofChange deltasSpec)) deltasCard

/-- THE TIED CARD OF 'overlaykeep.Canonical'. -/
def canonicalCard : Claim7 := { stood := { row := canonicalRow, standIns := [], harness := (true, "32a9facc2a54bc1cf297e96afe885c9b66ed580770ef0a6dd8ccfba1ae4424b6"), looks := true }, kinds := [], alts := [], laidByText := true, laidKinds := [.handle, .data], laidTests := true, laidLooks := .later }
def CanonicalCardSaid : Prop := Claim7.holds Tryd.pinned (.plain (OpenSpec.ofChange canonicalSpec)) canonicalCard

/-- THE TIED CARD OF 'overlaykeep.Apart'. -/
def apartCard : Claim7 := { stood := { row := apartRow, standIns := [], harness := (true, "32a9facc2a54bc1cf297e96afe885c9b66ed580770ef0a6dd8ccfba1ae4424b6"), looks := true }, kinds := [], alts := [], laidByText := true, laidKinds := [.handle, .data], laidTests := true, laidLooks := .later }
def ApartCardSaid : Prop := Claim7.holds Tryd.pinned (.plain (OpenSpec.ofChange apartSpec)) apartCard

/-- THE TIED CARD OF 'overlaykeep.Ordered'. -/
def orderedCard : Claim7 := { stood := { row := orderedRow, standIns := [], harness := (true, "32a9facc2a54bc1cf297e96afe885c9b66ed580770ef0a6dd8ccfba1ae4424b6"), looks := true }, kinds := [], alts := [], laidByText := true, laidKinds := [.handle, .data], laidTests := true, laidLooks := .later }
def OrderedCardSaid : Prop := Claim7.holds Tryd.pinned (.plain (OpenSpec.ofChange orderedSpec)) orderedCard

/-- THE SECOND FORM's CARD OF 'overlaylaw.Frames'. -/
def framesUptoCard : Claim7 := { stood := { row := framesUptoRow, standIns := [], harness := (true, "32a9facc2a54bc1cf297e96afe885c9b66ed580770ef0a6dd8ccfba1ae4424b6"), looks := true }, kinds := [], alts := [], laidByText := true, laidKinds := [.handle], laidTests := true, laidLooks := .later }
def FramesUptoCardSaid : Prop := Claim7.holds Tryd.pinned (.plain (OpenSpec.upto framesSpec)) framesUptoCard

/-- THE SECOND FORM's CARD OF 'overlaykeep.Turned'. -/
def turnedUptoCard : Claim7 := { stood := { row := turnedUptoRow, standIns := [], harness := (true, "32a9facc2a54bc1cf297e96afe885c9b66ed580770ef0a6dd8ccfba1ae4424b6"), looks := true }, kinds := [], alts := [], laidByText := true, laidKinds := [.handle], laidTests := true, laidLooks := .later }
def TurnedUptoCardSaid : Prop := Claim7.holds Tryd.pinned (.plain (OpenSpec.upto turnedSpec)) turnedUptoCard

/-- THE SECOND FORM's CARD OF 'overlaykeep.Longest'. -/
def longestUptoCard : Claim7 := { stood := { row := longestUptoRow, standIns := [], harness := (true, "32a9facc2a54bc1cf297e96afe885c9b66ed580770ef0a6dd8ccfba1ae4424b6"), looks := true }, kinds := [], alts := [], laidByText := true, laidKinds := [.handle, .data], laidTests := true, laidLooks := .later }
def LongestUptoCardSaid : Prop := Claim7.holds Tryd.pinned (.plain (OpenSpec.upto longestSpec)) longestUptoCard

/-- THE SECOND FORM's CARD OF 'overlaylaw.Deltas'. -/
def deltasUptoCard : Claim7 := { stood := { row := deltasUptoRow, standIns := [], harness := (true, "32a9facc2a54bc1cf297e96afe885c9b66ed580770ef0a6dd8ccfba1ae4424b6"), looks := true }, kinds := [], alts := [], laidByText := true, laidKinds := [.handle, .data], laidTests := true, laidLooks := .later }
def DeltasUptoCardSaid : Prop := Claim7.holds Tryd.pinned (.plain (OpenSpec.upto deltasSpec)) deltasUptoCard

/-- THE SECOND FORM's CARD OF 'overlaykeep.Canonical'. -/
def canonicalUptoCard : Claim7 := { stood := { row := canonicalUptoRow, standIns := [], harness := (true, "32a9facc2a54bc1cf297e96afe885c9b66ed580770ef0a6dd8ccfba1ae4424b6"), looks := true }, kinds := [], alts := [], laidByText := true, laidKinds := [.handle, .data], laidTests := true, laidLooks := .later }
def CanonicalUptoCardSaid : Prop := Claim7.holds Tryd.pinned (.plain (OpenSpec.upto canonicalSpec)) canonicalUptoCard

/-- THE SECOND FORM's CARD OF 'overlaykeep.Apart'. -/
def apartUptoCard : Claim7 := { stood := { row := apartUptoRow, standIns := [], harness := (true, "32a9facc2a54bc1cf297e96afe885c9b66ed580770ef0a6dd8ccfba1ae4424b6"), looks := true }, kinds := [], alts := [], laidByText := true, laidKinds := [.handle, .data], laidTests := true, laidLooks := .later }
def ApartUptoCardSaid : Prop := Claim7.holds Tryd.pinned (.plain (OpenSpec.upto apartSpec)) apartUptoCard

/-- THE SECOND FORM's CARD OF 'overlaykeep.Ordered'. -/
def orderedUptoCard : Claim7 := { stood := { row := orderedUptoRow, standIns := [], harness := (true, "32a9facc2a54bc1cf297e96afe885c9b66ed580770ef0a6dd8ccfba1ae4424b6"), looks := true }, kinds := [], alts := [], laidByText := true, laidKinds := [.handle, .data], laidTests := true, laidLooks := .later }
def OrderedUptoCardSaid : Prop := Claim7.holds Tryd.pinned (.plain (OpenSpec.upto orderedSpec)) orderedUptoCard
end Rows
end Go.Proofs.YtkkfmkhbdoeglaaDoor
