/-
  DERIVED. GIVEN WITH THE SEED: THE CARDS: each row of YtkkfmkhbdoeglabGreatDoorRows.lean that lists a variable, with what it lists TIED to the program's text (the seventh form; the later family's looks); each row that meets fmt, with fmt's text TOLD by the authors' own Lean function (tested against real Go, not proved from fmt's source: count such statements apart). THE CARD IS WHAT COUNTS. Prove the row's statement (the work); the ties are given (YtkkfmkhbdoeglabGreatDoorTie.lean); close each card by the builder's one call (the guide's Derived/Test/ToyasCard.lean, 'card_holds'). Laid BY PROGRAM, IN A SANDBOX (cutbox-door.mjs). By AI agents, Wed Nov 11 2026. No macro, syntax, notation, axiom, sorry.
-/
import Derived.Test.YtkkfmkhbdoeglabGreatDoorRows
import GoSem.ClaimSeven
namespace Go.Proofs.YtkkfmkhbdoeglabGreatDoor
namespace Rows

/-- THE TIED CARD OF 'overlaylaw.Reconciles'. -/
def reconcilesCard : Claim7 := { stood := { row := reconcilesRow, standIns := [], harness := (true, "2f9e7d39e9bcc7ad99cddcdb1bc3df5a000a21442c33bb6d381b4f891108a13f"), looks := true }, kinds := [], alts := [], laidByText := true, laidKinds := [.handle, .data], laidTests := true, laidLooks := .later }
def ReconcilesCardSaid : Prop := Claim7.holds Tryz.pinned (.plain (OpenSpec.ofChange reconcilesSpec)) reconcilesCard

/-- THE TIED CARD OF 'overlaylaw.Written'. -/
def writtenCard : Claim7 := { stood := { row := writtenRow, standIns := [], harness := (true, "2f9e7d39e9bcc7ad99cddcdb1bc3df5a000a21442c33bb6d381b4f891108a13f"), looks := true }, kinds := [], alts := [], laidByText := true, laidKinds := [.handle, .data], laidTests := true, laidLooks := .later }
def WrittenCardSaid : Prop := Claim7.holds Tryz.pinned (.plain (OpenSpec.ofChange writtenSpec)) writtenCard

/-- THE TIED CARD OF 'overlaykeep.Arrives'. -/
def arrivesCard : Claim7 := { stood := { row := arrivesRow, standIns := [], harness := (true, "2f9e7d39e9bcc7ad99cddcdb1bc3df5a000a21442c33bb6d381b4f891108a13f"), looks := true }, kinds := [], alts := [], laidByText := true, laidKinds := [.handle, .data], laidTests := true, laidLooks := .later }
def ArrivesCardSaid : Prop := Claim7.holds Tryz.pinned (.plain (OpenSpec.ofChange arrivesSpec)) arrivesCard

/-- THE TIED CARD OF 'overlaylaw.Agents'. -/
def agentsCard : Claim7 := { stood := { row := agentsRow, standIns := [], harness := (true, "2f9e7d39e9bcc7ad99cddcdb1bc3df5a000a21442c33bb6d381b4f891108a13f"), looks := true }, kinds := [], alts := [], laidByText := true, laidKinds := [.handle, .data], laidTests := true, laidLooks := .later }
def AgentsCardSaid : Prop := Claim7.holds Tryz.pinned (.plain (OpenSpec.ofChange agentsSpec)) agentsCard

/-- THE TIED CARD OF 'overlaylaw.Restarts'. -/
def restartsCard : Claim7 := { stood := { row := restartsRow, standIns := [], harness := (true, "2f9e7d39e9bcc7ad99cddcdb1bc3df5a000a21442c33bb6d381b4f891108a13f"), looks := true }, kinds := [], alts := [], laidByText := true, laidKinds := [.handle, .data], laidTests := true, laidLooks := .later }
def RestartsCardSaid : Prop := Claim7.holds Tryz.pinned (.plain (OpenSpec.ofChange restartsSpec)) restartsCard

/-- THE TIED CARD OF 'overlaylaw.Crashes'. -/
def crashesCard : Claim7 := { stood := { row := crashesRow, standIns := [], harness := (true, "2f9e7d39e9bcc7ad99cddcdb1bc3df5a000a21442c33bb6d381b4f891108a13f"), looks := true }, kinds := [], alts := [], laidByText := true, laidKinds := [.handle, .data], laidTests := true, laidLooks := .later }
def CrashesCardSaid : Prop := Claim7.holds Tryz.pinned (.plain (OpenSpec.ofChange crashesSpec)) crashesCard

/-- THE TIED CARD OF 'overlaylaw.Fails'. -/
def failsCard : Claim7 := { stood := { row := failsRow, standIns := [], harness := (true, "2f9e7d39e9bcc7ad99cddcdb1bc3df5a000a21442c33bb6d381b4f891108a13f"), looks := true }, kinds := [], alts := [], laidByText := true, laidKinds := [.handle, .data], laidTests := true, laidLooks := .later }
def FailsCardSaid : Prop := Claim7.holds Tryz.pinned (.plain (OpenSpec.ofChange failsSpec)) failsCard

/-- THE TIED CARD OF 'overlaylaw.All'. -/
def allCard : Claim7 := { stood := { row := allRow, standIns := [], harness := (true, "2f9e7d39e9bcc7ad99cddcdb1bc3df5a000a21442c33bb6d381b4f891108a13f"), looks := true }, kinds := [], alts := [], laidByText := true, laidKinds := [.handle, .data], laidTests := true, laidLooks := .later }
def AllCardSaid : Prop := Claim7.holds Tryz.pinned (.plain (OpenSpec.ofChange allSpec)) allCard

/-- THE TIED CARD OF 'overlaykeep.Kept'. -/
def keptCard : Claim7 := { stood := { row := keptRow, standIns := [], harness := (true, "2f9e7d39e9bcc7ad99cddcdb1bc3df5a000a21442c33bb6d381b4f891108a13f"), looks := true }, kinds := [], alts := [], laidByText := true, laidKinds := [.handle, .data], laidTests := true, laidLooks := .later }
def KeptCardSaid : Prop := Claim7.holds Tryz.pinned (.plain (OpenSpec.ofChange keptSpec)) keptCard

/-- THE SECOND FORM's CARD OF 'overlaylaw.Reconciles'. -/
def reconcilesUptoCard : Claim7 := { stood := { row := reconcilesUptoRow, standIns := [], harness := (true, "2f9e7d39e9bcc7ad99cddcdb1bc3df5a000a21442c33bb6d381b4f891108a13f"), looks := true }, kinds := [], alts := [], laidByText := true, laidKinds := [.handle, .data], laidTests := true, laidLooks := .later }
def ReconcilesUptoCardSaid : Prop := Claim7.holds Tryz.pinned (.plain (OpenSpec.upto reconcilesSpec)) reconcilesUptoCard

/-- THE SECOND FORM's CARD OF 'overlaylaw.Written'. -/
def writtenUptoCard : Claim7 := { stood := { row := writtenUptoRow, standIns := [], harness := (true, "2f9e7d39e9bcc7ad99cddcdb1bc3df5a000a21442c33bb6d381b4f891108a13f"), looks := true }, kinds := [], alts := [], laidByText := true, laidKinds := [.handle, .data], laidTests := true, laidLooks := .later }
def WrittenUptoCardSaid : Prop := Claim7.holds Tryz.pinned (.plain (OpenSpec.upto writtenSpec)) writtenUptoCard

/-- THE SECOND FORM's CARD OF 'overlaykeep.Arrives'. -/
def arrivesUptoCard : Claim7 := { stood := { row := arrivesUptoRow, standIns := [], harness := (true, "2f9e7d39e9bcc7ad99cddcdb1bc3df5a000a21442c33bb6d381b4f891108a13f"), looks := true }, kinds := [], alts := [], laidByText := true, laidKinds := [.handle, .data], laidTests := true, laidLooks := .later }
def ArrivesUptoCardSaid : Prop := Claim7.holds Tryz.pinned (.plain (OpenSpec.upto arrivesSpec)) arrivesUptoCard

/-- THE SECOND FORM's CARD OF 'overlaylaw.Agents'. -/
def agentsUptoCard : Claim7 := { stood := { row := agentsUptoRow, standIns := [], harness := (true, "2f9e7d39e9bcc7ad99cddcdb1bc3df5a000a21442c33bb6d381b4f891108a13f"), looks := true }, kinds := [], alts := [], laidByText := true, laidKinds := [.handle, .data], laidTests := true, laidLooks := .later }
def AgentsUptoCardSaid : Prop := Claim7.holds Tryz.pinned (.plain (OpenSpec.upto agentsSpec)) agentsUptoCard

/-- THE SECOND FORM's CARD OF 'overlaylaw.Restarts'. -/
def restartsUptoCard : Claim7 := { stood := { row := restartsUptoRow, standIns := [], harness := (true, "2f9e7d39e9bcc7ad99cddcdb1bc3df5a000a21442c33bb6d381b4f891108a13f"), looks := true }, kinds := [], alts := [], laidByText := true, laidKinds := [.handle, .data], laidTests := true, laidLooks := .later }
def RestartsUptoCardSaid : Prop := Claim7.holds Tryz.pinned (.plain (OpenSpec.upto restartsSpec)) restartsUptoCard

/-- THE SECOND FORM's CARD OF 'overlaylaw.Crashes'. -/
def crashesUptoCard : Claim7 := { stood := { row := crashesUptoRow, standIns := [], harness := (true, "2f9e7d39e9bcc7ad99cddcdb1bc3df5a000a21442c33bb6d381b4f891108a13f"), looks := true }, kinds := [], alts := [], laidByText := true, laidKinds := [.handle, .data], laidTests := true, laidLooks := .later }
def CrashesUptoCardSaid : Prop := Claim7.holds Tryz.pinned (.plain (OpenSpec.upto crashesSpec)) crashesUptoCard

/-- THE SECOND FORM's CARD OF 'overlaylaw.Fails'. -/
def failsUptoCard : Claim7 := { stood := { row := failsUptoRow, standIns := [], harness := (true, "2f9e7d39e9bcc7ad99cddcdb1bc3df5a000a21442c33bb6d381b4f891108a13f"), looks := true }, kinds := [], alts := [], laidByText := true, laidKinds := [.handle, .data], laidTests := true, laidLooks := .later }
def FailsUptoCardSaid : Prop := Claim7.holds Tryz.pinned (.plain (OpenSpec.upto failsSpec)) failsUptoCard

/-- THE SECOND FORM's CARD OF 'overlaylaw.All'. -/
def allUptoCard : Claim7 := { stood := { row := allUptoRow, standIns := [], harness := (true, "2f9e7d39e9bcc7ad99cddcdb1bc3df5a000a21442c33bb6d381b4f891108a13f"), looks := true }, kinds := [], alts := [], laidByText := true, laidKinds := [.handle, .data], laidTests := true, laidLooks := .later }
def AllUptoCardSaid : Prop := Claim7.holds Tryz.pinned (.plain (OpenSpec.upto allSpec)) allUptoCard

/-- THE SECOND FORM's CARD OF 'overlaykeep.Kept'. -/
def keptUptoCard : Claim7 := { stood := { row := keptUptoRow, standIns := [], harness := (true, "2f9e7d39e9bcc7ad99cddcdb1bc3df5a000a21442c33bb6d381b4f891108a13f"), looks := true }, kinds := [], alts := [], laidByText := true, laidKinds := [.handle, .data], laidTests := true, laidLooks := .later }
def KeptUptoCardSaid : Prop := Claim7.holds Tryz.pinned (.plain (OpenSpec.upto keptSpec)) keptUptoCard
end Rows
end Go.Proofs.YtkkfmkhbdoeglabGreatDoor
