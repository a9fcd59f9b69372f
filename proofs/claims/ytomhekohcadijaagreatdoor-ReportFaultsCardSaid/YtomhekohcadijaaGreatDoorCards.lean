/-
  DERIVED. GIVEN WITH THE SEED: THE CARDS: each row of YtomhekohcadijaaGreatDoorRows.lean that lists a variable, with what it lists TIED to the program's text (the seventh form; the later family's looks); each row that meets fmt, with fmt's text TOLD by the authors' own Lean function (tested against real Go, not proved from fmt's source: count such statements apart). THE CARD IS WHAT COUNTS. Prove the row's statement (the work); the ties are given (YtomhekohcadijaaGreatDoorTie.lean); close each card by the builder's one call (the guide's Derived/Test/ToyasCard.lean, 'card_holds'). Laid BY PROGRAM, IN A SANDBOX (cutbox-door.mjs). By AI agents, Wed Nov 11 2026. No macro, syntax, notation, axiom, sorry.
-/
import Derived.Test.YtomhekohcadijaaGreatDoorRows
import GoSem.ClaimSeven
namespace Go.Proofs.YtomhekohcadijaaGreatDoor
namespace Rows

/-- THE TIED CARD OF 'crupperlaw32.DeltaReads'. -/
def deltaReadsCard : Claim7 := { stood := { row := deltaReadsRow, standIns := [], harness := (true, "c3e604b56f2ea0a1791385b2d8eecd8f04f2afd71b8c88ae6c536213374973b9"), looks := false }, kinds := [], alts := [], laidByText := true, laidKinds := [.data, .pinned], laidTests := true, laidLooks := .later }
def DeltaReadsCardSaid : Prop := Claim7.holds Tryz.pinned (.plain (OpenSpec.ofChange deltaReadsSpec)) deltaReadsCard

/-- THE TIED CARD OF 'crupperlaw05.PolicyParses'. -/
def policyParsesCard : Claim7 := { stood := { row := policyParsesRow, standIns := [], harness := (true, "c3e604b56f2ea0a1791385b2d8eecd8f04f2afd71b8c88ae6c536213374973b9"), looks := false }, kinds := [], alts := [], laidByText := true, laidKinds := [.data, .pinned], laidTests := true, laidLooks := .later }
def PolicyParsesCardSaid : Prop := Claim7.holds Tryz.pinned (.plain (OpenSpec.ofChange policyParsesSpec)) policyParsesCard

/-- THE TIED CARD OF 'crupperlaw28.ReportPrints'. -/
def reportPrintsCard : Claim7 := { stood := { row := reportPrintsRow, standIns := [], harness := (true, "c3e604b56f2ea0a1791385b2d8eecd8f04f2afd71b8c88ae6c536213374973b9"), looks := false }, kinds := [], alts := [], laidByText := true, laidKinds := [.data, .pinned], laidTests := true, laidLooks := .later }
def ReportPrintsCardSaid : Prop := Claim7.holds Tryz.pinned (.plain (OpenSpec.ofChange reportPrintsSpec)) reportPrintsCard

/-- THE TIED CARD OF 'crupperlaw28.ReportReads'. -/
def reportReadsCard : Claim7 := { stood := { row := reportReadsRow, standIns := [], harness := (true, "c3e604b56f2ea0a1791385b2d8eecd8f04f2afd71b8c88ae6c536213374973b9"), looks := false }, kinds := [], alts := [], laidByText := true, laidKinds := [.data, .pinned], laidTests := true, laidLooks := .later }
def ReportReadsCardSaid : Prop := Claim7.holds Tryz.pinned (.plain (OpenSpec.ofChange reportReadsSpec)) reportReadsCard

/-- THE TIED CARD OF 'crupperlaw28.ReportFaults'. -/
def reportFaultsCard : Claim7 := { stood := { row := reportFaultsRow, standIns := [], harness := (true, "c3e604b56f2ea0a1791385b2d8eecd8f04f2afd71b8c88ae6c536213374973b9"), looks := false }, kinds := [], alts := [], laidByText := true, laidKinds := [.data, .pinned], laidTests := true, laidLooks := .later }
def ReportFaultsCardSaid : Prop := Claim7.holds Tryz.pinned (.plain (OpenSpec.ofChange reportFaultsSpec)) reportFaultsCard

/-- THE TIED CARD OF 'crupperlaw35.SessionUndoes'. -/
def sessionUndoesCard : Claim7 := { stood := { row := sessionUndoesRow, standIns := [], harness := (true, "c3e604b56f2ea0a1791385b2d8eecd8f04f2afd71b8c88ae6c536213374973b9"), looks := false }, kinds := [], alts := [], laidByText := true, laidKinds := [.data, .pinned], laidTests := true, laidLooks := .later }
def SessionUndoesCardSaid : Prop := Claim7.holds Tryz.pinned (.plain (OpenSpec.ofChange sessionUndoesSpec)) sessionUndoesCard

/-- THE SECOND FORM's CARD OF 'crupperlaw32.DeltaReads'. -/
def deltaReadsUptoCard : Claim7 := { stood := { row := deltaReadsUptoRow, standIns := [], harness := (true, "c3e604b56f2ea0a1791385b2d8eecd8f04f2afd71b8c88ae6c536213374973b9"), looks := false }, kinds := [], alts := [], laidByText := true, laidKinds := [.data, .pinned], laidTests := true, laidLooks := .later }
def DeltaReadsUptoCardSaid : Prop := Claim7.holds Tryz.pinned (.plain (OpenSpec.upto deltaReadsSpec)) deltaReadsUptoCard

/-- THE SECOND FORM's CARD OF 'crupperlaw05.PolicyParses'. -/
def policyParsesUptoCard : Claim7 := { stood := { row := policyParsesUptoRow, standIns := [], harness := (true, "c3e604b56f2ea0a1791385b2d8eecd8f04f2afd71b8c88ae6c536213374973b9"), looks := false }, kinds := [], alts := [], laidByText := true, laidKinds := [.data, .pinned], laidTests := true, laidLooks := .later }
def PolicyParsesUptoCardSaid : Prop := Claim7.holds Tryz.pinned (.plain (OpenSpec.upto policyParsesSpec)) policyParsesUptoCard

/-- THE SECOND FORM's CARD OF 'crupperlaw28.ReportPrints'. -/
def reportPrintsUptoCard : Claim7 := { stood := { row := reportPrintsUptoRow, standIns := [], harness := (true, "c3e604b56f2ea0a1791385b2d8eecd8f04f2afd71b8c88ae6c536213374973b9"), looks := false }, kinds := [], alts := [], laidByText := true, laidKinds := [.data, .pinned], laidTests := true, laidLooks := .later }
def ReportPrintsUptoCardSaid : Prop := Claim7.holds Tryz.pinned (.plain (OpenSpec.upto reportPrintsSpec)) reportPrintsUptoCard

/-- THE SECOND FORM's CARD OF 'crupperlaw28.ReportReads'. -/
def reportReadsUptoCard : Claim7 := { stood := { row := reportReadsUptoRow, standIns := [], harness := (true, "c3e604b56f2ea0a1791385b2d8eecd8f04f2afd71b8c88ae6c536213374973b9"), looks := false }, kinds := [], alts := [], laidByText := true, laidKinds := [.data, .pinned], laidTests := true, laidLooks := .later }
def ReportReadsUptoCardSaid : Prop := Claim7.holds Tryz.pinned (.plain (OpenSpec.upto reportReadsSpec)) reportReadsUptoCard

/-- THE SECOND FORM's CARD OF 'crupperlaw28.ReportFaults'. -/
def reportFaultsUptoCard : Claim7 := { stood := { row := reportFaultsUptoRow, standIns := [], harness := (true, "c3e604b56f2ea0a1791385b2d8eecd8f04f2afd71b8c88ae6c536213374973b9"), looks := false }, kinds := [], alts := [], laidByText := true, laidKinds := [.data, .pinned], laidTests := true, laidLooks := .later }
def ReportFaultsUptoCardSaid : Prop := Claim7.holds Tryz.pinned (.plain (OpenSpec.upto reportFaultsSpec)) reportFaultsUptoCard

/-- THE SECOND FORM's CARD OF 'crupperlaw35.SessionUndoes'. -/
def sessionUndoesUptoCard : Claim7 := { stood := { row := sessionUndoesUptoRow, standIns := [], harness := (true, "c3e604b56f2ea0a1791385b2d8eecd8f04f2afd71b8c88ae6c536213374973b9"), looks := false }, kinds := [], alts := [], laidByText := true, laidKinds := [.data, .pinned], laidTests := true, laidLooks := .later }
def SessionUndoesUptoCardSaid : Prop := Claim7.holds Tryz.pinned (.plain (OpenSpec.upto sessionUndoesSpec)) sessionUndoesUptoCard
end Rows
end Go.Proofs.YtomhekohcadijaaGreatDoor
