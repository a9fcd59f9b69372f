/-
  DERIVED. GIVEN WITH THE SEED: THE CARDS: each row of YtilgbodgmkmjjaaGreatDoorRows.lean that lists a variable, with what it lists TIED to the program's text (the seventh form; the later family's looks); each row that meets fmt, with fmt's text TOLD by the authors' own Lean function (tested against real Go, not proved from fmt's source: count such statements apart). THE CARD IS WHAT COUNTS. Prove the row's statement (the work); the ties are given (YtilgbodgmkmjjaaGreatDoorTie.lean); close each card by the builder's one call (the guide's Derived/Test/ToyasCard.lean, 'card_holds'). Laid BY PROGRAM, IN A SANDBOX (cutbox-door.mjs). By AI agents, Wed Nov 11 2026. No macro, syntax, notation, axiom, sorry.
-/
import Derived.Test.YtilgbodgmkmjjaaGreatDoorRows
import GoSem.ClaimSeven
namespace Go.Proofs.YtilgbodgmkmjjaaGreatDoor
namespace Rows

/-- THE TIED CARD OF 'crupperlaw41.MatrixTells'. -/
def matrixTellsCard : Claim7 := { stood := { row := matrixTellsRow, standIns := [], harness := (true, "9fc7023e30090ea06da04ccd92ac127732fb074b97e811806ad605f626d6d5e2"), looks := false }, kinds := [], alts := [], laidByText := true, laidKinds := [.data], laidTests := true, laidLooks := .later }
def MatrixTellsCardSaid : Prop := Claim7.holds Tryz.pinned (.plain (OpenSpec.ofChange matrixTellsSpec)) matrixTellsCard

/-- THE TIED CARD OF 'crupperlaw42.AdviseHolds'. -/
def adviseHoldsCard : Claim7 := { stood := { row := adviseHoldsRow, standIns := [], harness := (true, "9fc7023e30090ea06da04ccd92ac127732fb074b97e811806ad605f626d6d5e2"), looks := false }, kinds := [], alts := [], laidByText := true, laidKinds := [.data], laidTests := true, laidLooks := .later }
def AdviseHoldsCardSaid : Prop := Claim7.holds Tryz.pinned (.plain (OpenSpec.ofChange adviseHoldsSpec)) adviseHoldsCard

/-- THE TIED CARD OF 'crupperlaw42.AdviseLeast'. -/
def adviseLeastCard : Claim7 := { stood := { row := adviseLeastRow, standIns := [], harness := (true, "9fc7023e30090ea06da04ccd92ac127732fb074b97e811806ad605f626d6d5e2"), looks := false }, kinds := [], alts := [], laidByText := true, laidKinds := [.data], laidTests := true, laidLooks := .later }
def AdviseLeastCardSaid : Prop := Claim7.holds Tryz.pinned (.plain (OpenSpec.ofChange adviseLeastSpec)) adviseLeastCard

/-- THE TIED CARD OF 'crupperlaw29.CostHolds'. -/
def costHoldsCard : Claim7 := { stood := { row := costHoldsRow, standIns := [], harness := (true, "9fc7023e30090ea06da04ccd92ac127732fb074b97e811806ad605f626d6d5e2"), looks := false }, kinds := [], alts := [], laidByText := true, laidKinds := [.data], laidTests := true, laidLooks := .later }
def CostHoldsCardSaid : Prop := Claim7.holds Tryz.pinned (.plain (OpenSpec.ofChange costHoldsSpec)) costHoldsCard

/-- THE TIED CARD OF 'crupperlaw30.GraphSpare'. -/
def graphSpareCard : Claim7 := { stood := { row := graphSpareRow, standIns := [], harness := (true, "9fc7023e30090ea06da04ccd92ac127732fb074b97e811806ad605f626d6d5e2"), looks := false }, kinds := [], alts := [], laidByText := true, laidKinds := [.data], laidTests := true, laidLooks := .later }
def GraphSpareCardSaid : Prop := Claim7.holds Tryz.pinned (.plain (OpenSpec.ofChange graphSpareSpec)) graphSpareCard

/-- THE TIED CARD OF 'crupperlaw30.GraphIdle'. -/
def graphIdleCard : Claim7 := { stood := { row := graphIdleRow, standIns := [], harness := (true, "9fc7023e30090ea06da04ccd92ac127732fb074b97e811806ad605f626d6d5e2"), looks := false }, kinds := [], alts := [], laidByText := true, laidKinds := [.data], laidTests := true, laidLooks := .later }
def GraphIdleCardSaid : Prop := Claim7.holds Tryz.pinned (.plain (OpenSpec.ofChange graphIdleSpec)) graphIdleCard

/-- THE TIED CARD OF 'crupperlaw33.ExplainChecks'. -/
def explainChecksCard : Claim7 := { stood := { row := explainChecksRow, standIns := [], harness := (true, "9fc7023e30090ea06da04ccd92ac127732fb074b97e811806ad605f626d6d5e2"), looks := false }, kinds := [], alts := [], laidByText := true, laidKinds := [.data, .pinned], laidTests := true, laidLooks := .later }
def ExplainChecksCardSaid : Prop := Claim7.holds Tryz.pinned (.plain (OpenSpec.ofChange explainChecksSpec)) explainChecksCard

/-- THE TIED CARD OF 'crupperlaw33.ExplainTells'. -/
def explainTellsCard : Claim7 := { stood := { row := explainTellsRow, standIns := [], harness := (true, "9fc7023e30090ea06da04ccd92ac127732fb074b97e811806ad605f626d6d5e2"), looks := false }, kinds := [], alts := [], laidByText := true, laidKinds := [.data, .pinned], laidTests := true, laidLooks := .later }
def ExplainTellsCardSaid : Prop := Claim7.holds Tryz.pinned (.plain (OpenSpec.ofChange explainTellsSpec)) explainTellsCard

/-- THE SECOND FORM's CARD OF 'crupperlaw41.MatrixTells'. -/
def matrixTellsUptoCard : Claim7 := { stood := { row := matrixTellsUptoRow, standIns := [], harness := (true, "9fc7023e30090ea06da04ccd92ac127732fb074b97e811806ad605f626d6d5e2"), looks := false }, kinds := [], alts := [], laidByText := true, laidKinds := [.data], laidTests := true, laidLooks := .later }
def MatrixTellsUptoCardSaid : Prop := Claim7.holds Tryz.pinned (.plain (OpenSpec.upto matrixTellsSpec)) matrixTellsUptoCard

/-- THE SECOND FORM's CARD OF 'crupperlaw42.AdviseHolds'. -/
def adviseHoldsUptoCard : Claim7 := { stood := { row := adviseHoldsUptoRow, standIns := [], harness := (true, "9fc7023e30090ea06da04ccd92ac127732fb074b97e811806ad605f626d6d5e2"), looks := false }, kinds := [], alts := [], laidByText := true, laidKinds := [.data], laidTests := true, laidLooks := .later }
def AdviseHoldsUptoCardSaid : Prop := Claim7.holds Tryz.pinned (.plain (OpenSpec.upto adviseHoldsSpec)) adviseHoldsUptoCard

/-- THE SECOND FORM's CARD OF 'crupperlaw42.AdviseLeast'. -/
def adviseLeastUptoCard : Claim7 := { stood := { row := adviseLeastUptoRow, standIns := [], harness := (true, "9fc7023e30090ea06da04ccd92ac127732fb074b97e811806ad605f626d6d5e2"), looks := false }, kinds := [], alts := [], laidByText := true, laidKinds := [.data], laidTests := true, laidLooks := .later }
def AdviseLeastUptoCardSaid : Prop := Claim7.holds Tryz.pinned (.plain (OpenSpec.upto adviseLeastSpec)) adviseLeastUptoCard

/-- THE SECOND FORM's CARD OF 'crupperlaw29.CostHolds'. -/
def costHoldsUptoCard : Claim7 := { stood := { row := costHoldsUptoRow, standIns := [], harness := (true, "9fc7023e30090ea06da04ccd92ac127732fb074b97e811806ad605f626d6d5e2"), looks := false }, kinds := [], alts := [], laidByText := true, laidKinds := [.data], laidTests := true, laidLooks := .later }
def CostHoldsUptoCardSaid : Prop := Claim7.holds Tryz.pinned (.plain (OpenSpec.upto costHoldsSpec)) costHoldsUptoCard

/-- THE SECOND FORM's CARD OF 'crupperlaw30.GraphSpare'. -/
def graphSpareUptoCard : Claim7 := { stood := { row := graphSpareUptoRow, standIns := [], harness := (true, "9fc7023e30090ea06da04ccd92ac127732fb074b97e811806ad605f626d6d5e2"), looks := false }, kinds := [], alts := [], laidByText := true, laidKinds := [.data], laidTests := true, laidLooks := .later }
def GraphSpareUptoCardSaid : Prop := Claim7.holds Tryz.pinned (.plain (OpenSpec.upto graphSpareSpec)) graphSpareUptoCard

/-- THE SECOND FORM's CARD OF 'crupperlaw30.GraphIdle'. -/
def graphIdleUptoCard : Claim7 := { stood := { row := graphIdleUptoRow, standIns := [], harness := (true, "9fc7023e30090ea06da04ccd92ac127732fb074b97e811806ad605f626d6d5e2"), looks := false }, kinds := [], alts := [], laidByText := true, laidKinds := [.data], laidTests := true, laidLooks := .later }
def GraphIdleUptoCardSaid : Prop := Claim7.holds Tryz.pinned (.plain (OpenSpec.upto graphIdleSpec)) graphIdleUptoCard

/-- THE SECOND FORM's CARD OF 'crupperlaw33.ExplainChecks'. -/
def explainChecksUptoCard : Claim7 := { stood := { row := explainChecksUptoRow, standIns := [], harness := (true, "9fc7023e30090ea06da04ccd92ac127732fb074b97e811806ad605f626d6d5e2"), looks := false }, kinds := [], alts := [], laidByText := true, laidKinds := [.data, .pinned], laidTests := true, laidLooks := .later }
def ExplainChecksUptoCardSaid : Prop := Claim7.holds Tryz.pinned (.plain (OpenSpec.upto explainChecksSpec)) explainChecksUptoCard

/-- THE SECOND FORM's CARD OF 'crupperlaw33.ExplainTells'. -/
def explainTellsUptoCard : Claim7 := { stood := { row := explainTellsUptoRow, standIns := [], harness := (true, "9fc7023e30090ea06da04ccd92ac127732fb074b97e811806ad605f626d6d5e2"), looks := false }, kinds := [], alts := [], laidByText := true, laidKinds := [.data, .pinned], laidTests := true, laidLooks := .later }
def ExplainTellsUptoCardSaid : Prop := Claim7.holds Tryz.pinned (.plain (OpenSpec.upto explainTellsSpec)) explainTellsUptoCard
end Rows
end Go.Proofs.YtilgbodgmkmjjaaGreatDoor
