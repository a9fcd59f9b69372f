/-
  DERIVED. GIVEN WITH THE SEED: THE CARDS: each row of YtcmdhfccdkjenaaGreatDoorRows.lean that lists a variable, with what it lists TIED to the program's text (the seventh form; the later family's looks); each row that meets fmt, with fmt's text TOLD by the authors' own Lean function (tested against real Go, not proved from fmt's source: count such statements apart). THE CARD IS WHAT COUNTS. Prove the row's statement (the work); the ties are given (YtcmdhfccdkjenaaGreatDoorTie.lean); close each card by the builder's one call (the guide's Derived/Test/ToyasCard.lean, 'card_holds'). Laid BY PROGRAM, IN A SANDBOX (cutbox-door.mjs). By AI agents, Wed Nov 11 2026. No macro, syntax, notation, axiom, sorry.
-/
import Derived.Test.YtcmdhfccdkjenaaGreatDoorRows
import GoSem.ClaimSeven
namespace Go.Proofs.YtcmdhfccdkjenaaGreatDoor
namespace Rows

/-- THE TIED CARD OF 'crupperlaw11.LowHolds'. -/
def lowHoldsCard : Claim7 := { stood := { row := lowHoldsRow, standIns := [], harness := (true, "ed6d1c9dadd1e82ed45a08351ad86b5346226f7586257fef293cce7792acfcdd"), looks := false }, kinds := [], alts := [], laidByText := true, laidKinds := [.data], laidTests := true, laidLooks := .later }
def LowHoldsCardSaid : Prop := Claim7.holds Tryz.pinned (.plain (OpenSpec.ofChange lowHoldsSpec)) lowHoldsCard

/-- THE TIED CARD OF 'crupperlaw13.SimpleDecides'. -/
def simpleDecidesCard : Claim7 := { stood := { row := simpleDecidesRow, standIns := [], harness := (true, "ed6d1c9dadd1e82ed45a08351ad86b5346226f7586257fef293cce7792acfcdd"), looks := false }, kinds := [], alts := [], laidByText := true, laidKinds := [.data], laidTests := true, laidLooks := .later }
def SimpleDecidesCardSaid : Prop := Claim7.holds Tryz.pinned (.plain (OpenSpec.ofChange simpleDecidesSpec)) simpleDecidesCard

/-- THE TIED CARD OF 'crupperlaw13.SimpleSatisfies'. -/
def simpleSatisfiesCard : Claim7 := { stood := { row := simpleSatisfiesRow, standIns := [], harness := (true, "ed6d1c9dadd1e82ed45a08351ad86b5346226f7586257fef293cce7792acfcdd"), looks := false }, kinds := [], alts := [], laidByText := true, laidKinds := [.data], laidTests := true, laidLooks := .later }
def SimpleSatisfiesCardSaid : Prop := Claim7.holds Tryz.pinned (.plain (OpenSpec.ofChange simpleSatisfiesSpec)) simpleSatisfiesCard

/-- THE TIED CARD OF 'crupperlaw13.SimpleSound'. -/
def simpleSoundCard : Claim7 := { stood := { row := simpleSoundRow, standIns := [], harness := (true, "ed6d1c9dadd1e82ed45a08351ad86b5346226f7586257fef293cce7792acfcdd"), looks := false }, kinds := [], alts := [], laidByText := true, laidKinds := [.data], laidTests := true, laidLooks := .later }
def SimpleSoundCardSaid : Prop := Claim7.holds Tryz.pinned (.plain (OpenSpec.ofChange simpleSoundSpec)) simpleSoundCard

/-- THE TIED CARD OF 'crupperlaw13.SimpleWitness'. -/
def simpleWitnessCard : Claim7 := { stood := { row := simpleWitnessRow, standIns := [], harness := (true, "ed6d1c9dadd1e82ed45a08351ad86b5346226f7586257fef293cce7792acfcdd"), looks := false }, kinds := [], alts := [], laidByText := true, laidKinds := [.data], laidTests := true, laidLooks := .later }
def SimpleWitnessCardSaid : Prop := Claim7.holds Tryz.pinned (.plain (OpenSpec.ofChange simpleWitnessSpec)) simpleWitnessCard

/-- THE TIED CARD OF 'crupperlaw29.CostTells'. -/
def costTellsCard : Claim7 := { stood := { row := costTellsRow, standIns := [], harness := (true, "ed6d1c9dadd1e82ed45a08351ad86b5346226f7586257fef293cce7792acfcdd"), looks := false }, kinds := [], alts := [], laidByText := true, laidKinds := [.data], laidTests := true, laidLooks := .later }
def CostTellsCardSaid : Prop := Claim7.holds Tryz.pinned (.plain (OpenSpec.ofChange costTellsSpec)) costTellsCard

/-- THE TIED CARD OF 'crupperlaw29.CostHolds'. -/
def costHoldsCard : Claim7 := { stood := { row := costHoldsRow, standIns := [], harness := (true, "ed6d1c9dadd1e82ed45a08351ad86b5346226f7586257fef293cce7792acfcdd"), looks := false }, kinds := [], alts := [], laidByText := true, laidKinds := [.data], laidTests := true, laidLooks := .later }
def CostHoldsCardSaid : Prop := Claim7.holds Tryz.pinned (.plain (OpenSpec.ofChange costHoldsSpec)) costHoldsCard

/-- THE TIED CARD OF 'crupperlaw41.MatrixTells'. -/
def matrixTellsCard : Claim7 := { stood := { row := matrixTellsRow, standIns := [], harness := (true, "ed6d1c9dadd1e82ed45a08351ad86b5346226f7586257fef293cce7792acfcdd"), looks := false }, kinds := [], alts := [], laidByText := true, laidKinds := [.data], laidTests := true, laidLooks := .later }
def MatrixTellsCardSaid : Prop := Claim7.holds Tryz.pinned (.plain (OpenSpec.ofChange matrixTellsSpec)) matrixTellsCard

/-- THE TIED CARD OF 'crupperlaw41.MatrixHolds'. -/
def matrixHoldsCard : Claim7 := { stood := { row := matrixHoldsRow, standIns := [], harness := (true, "ed6d1c9dadd1e82ed45a08351ad86b5346226f7586257fef293cce7792acfcdd"), looks := false }, kinds := [], alts := [], laidByText := true, laidKinds := [.data], laidTests := true, laidLooks := .later }
def MatrixHoldsCardSaid : Prop := Claim7.holds Tryz.pinned (.plain (OpenSpec.ofChange matrixHoldsSpec)) matrixHoldsCard

/-- THE TIED CARD OF 'crupperlaw41.MatrixLines'. -/
def matrixLinesCard : Claim7 := { stood := { row := matrixLinesRow, standIns := [], harness := (true, "ed6d1c9dadd1e82ed45a08351ad86b5346226f7586257fef293cce7792acfcdd"), looks := false }, kinds := [], alts := [], laidByText := true, laidKinds := [.data], laidTests := true, laidLooks := .later }
def MatrixLinesCardSaid : Prop := Claim7.holds Tryz.pinned (.plain (OpenSpec.ofChange matrixLinesSpec)) matrixLinesCard

/-- THE TIED CARD OF 'crupperlaw42.AdviseHolds'. -/
def adviseHoldsCard : Claim7 := { stood := { row := adviseHoldsRow, standIns := [], harness := (true, "ed6d1c9dadd1e82ed45a08351ad86b5346226f7586257fef293cce7792acfcdd"), looks := false }, kinds := [], alts := [], laidByText := true, laidKinds := [.data], laidTests := true, laidLooks := .later }
def AdviseHoldsCardSaid : Prop := Claim7.holds Tryz.pinned (.plain (OpenSpec.ofChange adviseHoldsSpec)) adviseHoldsCard

/-- THE TIED CARD OF 'crupperlaw42.AdviseLeast'. -/
def adviseLeastCard : Claim7 := { stood := { row := adviseLeastRow, standIns := [], harness := (true, "ed6d1c9dadd1e82ed45a08351ad86b5346226f7586257fef293cce7792acfcdd"), looks := false }, kinds := [], alts := [], laidByText := true, laidKinds := [.data], laidTests := true, laidLooks := .later }
def AdviseLeastCardSaid : Prop := Claim7.holds Tryz.pinned (.plain (OpenSpec.ofChange adviseLeastSpec)) adviseLeastCard

/-- THE SECOND FORM's CARD OF 'crupperlaw11.LowHolds'. -/
def lowHoldsUptoCard : Claim7 := { stood := { row := lowHoldsUptoRow, standIns := [], harness := (true, "ed6d1c9dadd1e82ed45a08351ad86b5346226f7586257fef293cce7792acfcdd"), looks := false }, kinds := [], alts := [], laidByText := true, laidKinds := [.data], laidTests := true, laidLooks := .later }
def LowHoldsUptoCardSaid : Prop := Claim7.holds Tryz.pinned (.plain (OpenSpec.upto lowHoldsSpec)) lowHoldsUptoCard

/-- THE SECOND FORM's CARD OF 'crupperlaw13.SimpleDecides'. -/
def simpleDecidesUptoCard : Claim7 := { stood := { row := simpleDecidesUptoRow, standIns := [], harness := (true, "ed6d1c9dadd1e82ed45a08351ad86b5346226f7586257fef293cce7792acfcdd"), looks := false }, kinds := [], alts := [], laidByText := true, laidKinds := [.data], laidTests := true, laidLooks := .later }
def SimpleDecidesUptoCardSaid : Prop := Claim7.holds Tryz.pinned (.plain (OpenSpec.upto simpleDecidesSpec)) simpleDecidesUptoCard

/-- THE SECOND FORM's CARD OF 'crupperlaw13.SimpleSatisfies'. -/
def simpleSatisfiesUptoCard : Claim7 := { stood := { row := simpleSatisfiesUptoRow, standIns := [], harness := (true, "ed6d1c9dadd1e82ed45a08351ad86b5346226f7586257fef293cce7792acfcdd"), looks := false }, kinds := [], alts := [], laidByText := true, laidKinds := [.data], laidTests := true, laidLooks := .later }
def SimpleSatisfiesUptoCardSaid : Prop := Claim7.holds Tryz.pinned (.plain (OpenSpec.upto simpleSatisfiesSpec)) simpleSatisfiesUptoCard

/-- THE SECOND FORM's CARD OF 'crupperlaw13.SimpleSound'. -/
def simpleSoundUptoCard : Claim7 := { stood := { row := simpleSoundUptoRow, standIns := [], harness := (true, "ed6d1c9dadd1e82ed45a08351ad86b5346226f7586257fef293cce7792acfcdd"), looks := false }, kinds := [], alts := [], laidByText := true, laidKinds := [.data], laidTests := true, laidLooks := .later }
def SimpleSoundUptoCardSaid : Prop := Claim7.holds Tryz.pinned (.plain (OpenSpec.upto simpleSoundSpec)) simpleSoundUptoCard

/-- THE SECOND FORM's CARD OF 'crupperlaw13.SimpleWitness'. -/
def simpleWitnessUptoCard : Claim7 := { stood := { row := simpleWitnessUptoRow, standIns := [], harness := (true, "ed6d1c9dadd1e82ed45a08351ad86b5346226f7586257fef293cce7792acfcdd"), looks := false }, kinds := [], alts := [], laidByText := true, laidKinds := [.data], laidTests := true, laidLooks := .later }
def SimpleWitnessUptoCardSaid : Prop := Claim7.holds Tryz.pinned (.plain (OpenSpec.upto simpleWitnessSpec)) simpleWitnessUptoCard

/-- THE SECOND FORM's CARD OF 'crupperlaw29.CostTells'. -/
def costTellsUptoCard : Claim7 := { stood := { row := costTellsUptoRow, standIns := [], harness := (true, "ed6d1c9dadd1e82ed45a08351ad86b5346226f7586257fef293cce7792acfcdd"), looks := false }, kinds := [], alts := [], laidByText := true, laidKinds := [.data], laidTests := true, laidLooks := .later }
def CostTellsUptoCardSaid : Prop := Claim7.holds Tryz.pinned (.plain (OpenSpec.upto costTellsSpec)) costTellsUptoCard

/-- THE SECOND FORM's CARD OF 'crupperlaw29.CostHolds'. -/
def costHoldsUptoCard : Claim7 := { stood := { row := costHoldsUptoRow, standIns := [], harness := (true, "ed6d1c9dadd1e82ed45a08351ad86b5346226f7586257fef293cce7792acfcdd"), looks := false }, kinds := [], alts := [], laidByText := true, laidKinds := [.data], laidTests := true, laidLooks := .later }
def CostHoldsUptoCardSaid : Prop := Claim7.holds Tryz.pinned (.plain (OpenSpec.upto costHoldsSpec)) costHoldsUptoCard

/-- THE SECOND FORM's CARD OF 'crupperlaw41.MatrixTells'. -/
def matrixTellsUptoCard : Claim7 := { stood := { row := matrixTellsUptoRow, standIns := [], harness := (true, "ed6d1c9dadd1e82ed45a08351ad86b5346226f7586257fef293cce7792acfcdd"), looks := false }, kinds := [], alts := [], laidByText := true, laidKinds := [.data], laidTests := true, laidLooks := .later }
def MatrixTellsUptoCardSaid : Prop := Claim7.holds Tryz.pinned (.plain (OpenSpec.upto matrixTellsSpec)) matrixTellsUptoCard

/-- THE SECOND FORM's CARD OF 'crupperlaw41.MatrixHolds'. -/
def matrixHoldsUptoCard : Claim7 := { stood := { row := matrixHoldsUptoRow, standIns := [], harness := (true, "ed6d1c9dadd1e82ed45a08351ad86b5346226f7586257fef293cce7792acfcdd"), looks := false }, kinds := [], alts := [], laidByText := true, laidKinds := [.data], laidTests := true, laidLooks := .later }
def MatrixHoldsUptoCardSaid : Prop := Claim7.holds Tryz.pinned (.plain (OpenSpec.upto matrixHoldsSpec)) matrixHoldsUptoCard

/-- THE SECOND FORM's CARD OF 'crupperlaw41.MatrixLines'. -/
def matrixLinesUptoCard : Claim7 := { stood := { row := matrixLinesUptoRow, standIns := [], harness := (true, "ed6d1c9dadd1e82ed45a08351ad86b5346226f7586257fef293cce7792acfcdd"), looks := false }, kinds := [], alts := [], laidByText := true, laidKinds := [.data], laidTests := true, laidLooks := .later }
def MatrixLinesUptoCardSaid : Prop := Claim7.holds Tryz.pinned (.plain (OpenSpec.upto matrixLinesSpec)) matrixLinesUptoCard

/-- THE SECOND FORM's CARD OF 'crupperlaw42.AdviseHolds'. -/
def adviseHoldsUptoCard : Claim7 := { stood := { row := adviseHoldsUptoRow, standIns := [], harness := (true, "ed6d1c9dadd1e82ed45a08351ad86b5346226f7586257fef293cce7792acfcdd"), looks := false }, kinds := [], alts := [], laidByText := true, laidKinds := [.data], laidTests := true, laidLooks := .later }
def AdviseHoldsUptoCardSaid : Prop := Claim7.holds Tryz.pinned (.plain (OpenSpec.upto adviseHoldsSpec)) adviseHoldsUptoCard

/-- THE SECOND FORM's CARD OF 'crupperlaw42.AdviseLeast'. -/
def adviseLeastUptoCard : Claim7 := { stood := { row := adviseLeastUptoRow, standIns := [], harness := (true, "ed6d1c9dadd1e82ed45a08351ad86b5346226f7586257fef293cce7792acfcdd"), looks := false }, kinds := [], alts := [], laidByText := true, laidKinds := [.data], laidTests := true, laidLooks := .later }
def AdviseLeastUptoCardSaid : Prop := Claim7.holds Tryz.pinned (.plain (OpenSpec.upto adviseLeastSpec)) adviseLeastUptoCard
end Rows
end Go.Proofs.YtcmdhfccdkjenaaGreatDoor
