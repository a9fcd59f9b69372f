/-
  DERIVED. GIVEN WITH THE SEED: THE CARDS: each row of YtnhkgfgbhedphaaGreatDoorRows.lean that lists a variable, with what it lists TIED to the program's text (the seventh form; the later family's looks); each row that meets fmt, with fmt's text TOLD by the authors' own Lean function (tested against real Go, not proved from fmt's source: count such statements apart). THE CARD IS WHAT COUNTS. Prove the row's statement (the work); the ties are given (YtnhkgfgbhedphaaGreatDoorTie.lean); close each card by the builder's one call (the guide's Derived/Test/ToyasCard.lean, 'card_holds'). Laid BY PROGRAM, IN A SANDBOX (cutbox-door.mjs). By AI agents, Wed Nov 11 2026. No macro, syntax, notation, axiom, sorry.
-/
import Derived.Test.YtnhkgfgbhedphaaGreatDoorRows
import GoSem.ClaimSeven
namespace Go.Proofs.YtnhkgfgbhedphaaGreatDoor
namespace Rows

/-- THE TIED CARD OF 'crupperlaw32.DeltaReads'. -/
def deltaReadsCard : Claim7 := { stood := { row := deltaReadsRow, standIns := [], harness := (true, "e8d4ce82db36ad93237a28422cd5b9f862002a80d76828f3c9c9b3bcd85fa6cc"), looks := false }, kinds := [], alts := [], laidByText := true, laidKinds := [.data, .pinned], laidTests := true, laidLooks := .later }
def DeltaReadsCardSaid : Prop := Claim7.holds Tryz.pinned (.plain (OpenSpec.ofChange deltaReadsSpec)) deltaReadsCard

/-- THE TIED CARD OF 'crupperlaw05.PolicyParses'. -/
def policyParsesCard : Claim7 := { stood := { row := policyParsesRow, standIns := [], harness := (true, "e8d4ce82db36ad93237a28422cd5b9f862002a80d76828f3c9c9b3bcd85fa6cc"), looks := false }, kinds := [], alts := [], laidByText := true, laidKinds := [.data, .pinned], laidTests := true, laidLooks := .later }
def PolicyParsesCardSaid : Prop := Claim7.holds Tryz.pinned (.plain (OpenSpec.ofChange policyParsesSpec)) policyParsesCard

/-- THE TIED CARD OF 'crupperlaw05.PolicyRoles'. -/
def policyRolesCard : Claim7 := { stood := { row := policyRolesRow, standIns := [], harness := (true, "e8d4ce82db36ad93237a28422cd5b9f862002a80d76828f3c9c9b3bcd85fa6cc"), looks := false }, kinds := [], alts := [], laidByText := true, laidKinds := [.data, .pinned], laidTests := true, laidLooks := .later }
def PolicyRolesCardSaid : Prop := Claim7.holds Tryz.pinned (.plain (OpenSpec.ofChange policyRolesSpec)) policyRolesCard

/-- THE TIED CARD OF 'crupperlaw05.PolicyBack'. -/
def policyBackCard : Claim7 := { stood := { row := policyBackRow, standIns := [], harness := (true, "e8d4ce82db36ad93237a28422cd5b9f862002a80d76828f3c9c9b3bcd85fa6cc"), looks := false }, kinds := [], alts := [], laidByText := true, laidKinds := [.data, .pinned], laidTests := true, laidLooks := .later }
def PolicyBackCardSaid : Prop := Claim7.holds Tryz.pinned (.plain (OpenSpec.ofChange policyBackSpec)) policyBackCard

/-- THE TIED CARD OF 'crupperlaw05.PolicyTurns'. -/
def policyTurnsCard : Claim7 := { stood := { row := policyTurnsRow, standIns := [], harness := (true, "e8d4ce82db36ad93237a28422cd5b9f862002a80d76828f3c9c9b3bcd85fa6cc"), looks := false }, kinds := [], alts := [], laidByText := true, laidKinds := [.data, .pinned], laidTests := true, laidLooks := .later }
def PolicyTurnsCardSaid : Prop := Claim7.holds Tryz.pinned (.plain (OpenSpec.ofChange policyTurnsSpec)) policyTurnsCard

/-- THE TIED CARD OF 'crupperlaw05.PolicyRight'. -/
def policyRightCard : Claim7 := { stood := { row := policyRightRow, standIns := [], harness := (true, "e8d4ce82db36ad93237a28422cd5b9f862002a80d76828f3c9c9b3bcd85fa6cc"), looks := false }, kinds := [], alts := [], laidByText := true, laidKinds := [.data, .pinned], laidTests := true, laidLooks := .later }
def PolicyRightCardSaid : Prop := Claim7.holds Tryz.pinned (.plain (OpenSpec.ofChange policyRightSpec)) policyRightCard

/-- THE SECOND FORM's CARD OF 'crupperlaw32.DeltaReads'. -/
def deltaReadsUptoCard : Claim7 := { stood := { row := deltaReadsUptoRow, standIns := [], harness := (true, "e8d4ce82db36ad93237a28422cd5b9f862002a80d76828f3c9c9b3bcd85fa6cc"), looks := false }, kinds := [], alts := [], laidByText := true, laidKinds := [.data, .pinned], laidTests := true, laidLooks := .later }
def DeltaReadsUptoCardSaid : Prop := Claim7.holds Tryz.pinned (.plain (OpenSpec.upto deltaReadsSpec)) deltaReadsUptoCard

/-- THE SECOND FORM's CARD OF 'crupperlaw05.PolicyParses'. -/
def policyParsesUptoCard : Claim7 := { stood := { row := policyParsesUptoRow, standIns := [], harness := (true, "e8d4ce82db36ad93237a28422cd5b9f862002a80d76828f3c9c9b3bcd85fa6cc"), looks := false }, kinds := [], alts := [], laidByText := true, laidKinds := [.data, .pinned], laidTests := true, laidLooks := .later }
def PolicyParsesUptoCardSaid : Prop := Claim7.holds Tryz.pinned (.plain (OpenSpec.upto policyParsesSpec)) policyParsesUptoCard

/-- THE SECOND FORM's CARD OF 'crupperlaw05.PolicyRoles'. -/
def policyRolesUptoCard : Claim7 := { stood := { row := policyRolesUptoRow, standIns := [], harness := (true, "e8d4ce82db36ad93237a28422cd5b9f862002a80d76828f3c9c9b3bcd85fa6cc"), looks := false }, kinds := [], alts := [], laidByText := true, laidKinds := [.data, .pinned], laidTests := true, laidLooks := .later }
def PolicyRolesUptoCardSaid : Prop := Claim7.holds Tryz.pinned (.plain (OpenSpec.upto policyRolesSpec)) policyRolesUptoCard

/-- THE SECOND FORM's CARD OF 'crupperlaw05.PolicyBack'. -/
def policyBackUptoCard : Claim7 := { stood := { row := policyBackUptoRow, standIns := [], harness := (true, "e8d4ce82db36ad93237a28422cd5b9f862002a80d76828f3c9c9b3bcd85fa6cc"), looks := false }, kinds := [], alts := [], laidByText := true, laidKinds := [.data, .pinned], laidTests := true, laidLooks := .later }
def PolicyBackUptoCardSaid : Prop := Claim7.holds Tryz.pinned (.plain (OpenSpec.upto policyBackSpec)) policyBackUptoCard

/-- THE SECOND FORM's CARD OF 'crupperlaw05.PolicyTurns'. -/
def policyTurnsUptoCard : Claim7 := { stood := { row := policyTurnsUptoRow, standIns := [], harness := (true, "e8d4ce82db36ad93237a28422cd5b9f862002a80d76828f3c9c9b3bcd85fa6cc"), looks := false }, kinds := [], alts := [], laidByText := true, laidKinds := [.data, .pinned], laidTests := true, laidLooks := .later }
def PolicyTurnsUptoCardSaid : Prop := Claim7.holds Tryz.pinned (.plain (OpenSpec.upto policyTurnsSpec)) policyTurnsUptoCard

/-- THE SECOND FORM's CARD OF 'crupperlaw05.PolicyRight'. -/
def policyRightUptoCard : Claim7 := { stood := { row := policyRightUptoRow, standIns := [], harness := (true, "e8d4ce82db36ad93237a28422cd5b9f862002a80d76828f3c9c9b3bcd85fa6cc"), looks := false }, kinds := [], alts := [], laidByText := true, laidKinds := [.data, .pinned], laidTests := true, laidLooks := .later }
def PolicyRightUptoCardSaid : Prop := Claim7.holds Tryz.pinned (.plain (OpenSpec.upto policyRightSpec)) policyRightUptoCard
end Rows
end Go.Proofs.YtnhkgfgbhedphaaGreatDoor
