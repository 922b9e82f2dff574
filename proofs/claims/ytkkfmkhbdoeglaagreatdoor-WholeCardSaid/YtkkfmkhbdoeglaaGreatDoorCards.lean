/-
  DERIVED. GIVEN WITH THE SEED: THE CARDS: each row of YtkkfmkhbdoeglaaGreatDoorRows.lean that lists a variable, with what it lists TIED to the program's text (the seventh form; the later family's looks); each row that meets fmt, with fmt's text TOLD by the authors' own Lean function (tested against real Go, not proved from fmt's source: count such statements apart). THE CARD IS WHAT COUNTS. Prove the row's statement (the work); the ties are given (YtkkfmkhbdoeglaaGreatDoorTie.lean); close each card by the builder's one call (the guide's Derived/Test/ToyasCard.lean, 'card_holds'). Laid BY PROGRAM, IN A SANDBOX (cutbox-door.mjs). By AI agents, Wed Nov 11 2026. No macro, syntax, notation, axiom, sorry.
-/
import Derived.Test.YtkkfmkhbdoeglaaGreatDoorRows
import GoSem.ClaimSeven
namespace Go.Proofs.YtkkfmkhbdoeglaaGreatDoor
namespace Rows

/-- THE TIED CARD OF 'overlaykeep.Silent'. -/
def silentCard : Claim7 := { stood := { row := silentRow, standIns := [], harness := (true, "f6c2a1306f76b71077ecb091503456d75e30742f6db53742a79cd6709718bca2"), looks := true }, kinds := [], alts := [], laidByText := true, laidKinds := [.handle, .data], laidTests := true, laidLooks := .later }
def SilentCardSaid : Prop := Claim7.holds Tryz.pinned (.plain (OpenSpec.ofChange silentSpec)) silentCard

/-- THE TIED CARD OF 'overlaykeep.Whole'. -/
def wholeCard : Claim7 := { stood := { row := wholeRow, standIns := [], harness := (true, "f6c2a1306f76b71077ecb091503456d75e30742f6db53742a79cd6709718bca2"), looks := true }, kinds := [], alts := [], laidByText := true, laidKinds := [.handle, .data], laidTests := true, laidLooks := .later }
def WholeCardSaid : Prop := Claim7.holds Tryz.pinned (.plain (OpenSpec.ofChange wholeSpec)) wholeCard

/-- THE TIED CARD OF 'overlaylaw.Tables'. -/
def tablesCard : Claim7 := { stood := { row := tablesRow, standIns := [], harness := (true, "f6c2a1306f76b71077ecb091503456d75e30742f6db53742a79cd6709718bca2"), looks := true }, kinds := [], alts := [], laidByText := true, laidKinds := [.handle, .data], laidTests := true, laidLooks := .later }
def TablesCardSaid : Prop := Claim7.holds Tryz.pinned (.plain (OpenSpec.ofChange tablesSpec)) tablesCard

/-- THE TIED CARD OF 'overlaylaw.States'. -/
def statesCard : Claim7 := { stood := { row := statesRow, standIns := [], harness := (true, "f6c2a1306f76b71077ecb091503456d75e30742f6db53742a79cd6709718bca2"), looks := true }, kinds := [], alts := [], laidByText := true, laidKinds := [.handle, .data], laidTests := true, laidLooks := .later }
def StatesCardSaid : Prop := Claim7.holds Tryz.pinned (.plain (OpenSpec.ofChange statesSpec)) statesCard

/-- THE SECOND FORM's CARD OF 'overlaykeep.Silent'. -/
def silentUptoCard : Claim7 := { stood := { row := silentUptoRow, standIns := [], harness := (true, "f6c2a1306f76b71077ecb091503456d75e30742f6db53742a79cd6709718bca2"), looks := true }, kinds := [], alts := [], laidByText := true, laidKinds := [.handle, .data], laidTests := true, laidLooks := .later }
def SilentUptoCardSaid : Prop := Claim7.holds Tryz.pinned (.plain (OpenSpec.upto silentSpec)) silentUptoCard

/-- THE SECOND FORM's CARD OF 'overlaykeep.Whole'. -/
def wholeUptoCard : Claim7 := { stood := { row := wholeUptoRow, standIns := [], harness := (true, "f6c2a1306f76b71077ecb091503456d75e30742f6db53742a79cd6709718bca2"), looks := true }, kinds := [], alts := [], laidByText := true, laidKinds := [.handle, .data], laidTests := true, laidLooks := .later }
def WholeUptoCardSaid : Prop := Claim7.holds Tryz.pinned (.plain (OpenSpec.upto wholeSpec)) wholeUptoCard

/-- THE SECOND FORM's CARD OF 'overlaylaw.Tables'. -/
def tablesUptoCard : Claim7 := { stood := { row := tablesUptoRow, standIns := [], harness := (true, "f6c2a1306f76b71077ecb091503456d75e30742f6db53742a79cd6709718bca2"), looks := true }, kinds := [], alts := [], laidByText := true, laidKinds := [.handle, .data], laidTests := true, laidLooks := .later }
def TablesUptoCardSaid : Prop := Claim7.holds Tryz.pinned (.plain (OpenSpec.upto tablesSpec)) tablesUptoCard

/-- THE SECOND FORM's CARD OF 'overlaylaw.States'. -/
def statesUptoCard : Claim7 := { stood := { row := statesUptoRow, standIns := [], harness := (true, "f6c2a1306f76b71077ecb091503456d75e30742f6db53742a79cd6709718bca2"), looks := true }, kinds := [], alts := [], laidByText := true, laidKinds := [.handle, .data], laidTests := true, laidLooks := .later }
def StatesUptoCardSaid : Prop := Claim7.holds Tryz.pinned (.plain (OpenSpec.upto statesSpec)) statesUptoCard
end Rows
end Go.Proofs.YtkkfmkhbdoeglaaGreatDoor
