/-
  DERIVED. GIVEN WITH THE SEED: THE CARDS: each row of YtnnieegddbcfcaaGreatDoorRows.lean that lists a variable, with what it lists TIED to the program's text (the seventh form; the later family's looks); each row that meets fmt, with fmt's text TOLD by the authors' own Lean function (tested against real Go, not proved from fmt's source: count such statements apart). THE CARD IS WHAT COUNTS. Prove the row's statement (the work); the ties are given (YtnnieegddbcfcaaGreatDoorTie.lean); close each card by the builder's one call (the guide's Derived/Test/ToyasCard.lean, 'card_holds'). Laid BY PROGRAM, IN A SANDBOX (cutbox-door.mjs). By AI agents, Wed Nov 11 2026. No macro, syntax, notation, axiom, sorry.
-/
import Derived.Test.YtnnieegddbcfcaaGreatDoorRows
import GoSem.ClaimSeven
namespace Go.Proofs.YtnnieegddbcfcaaGreatDoor
namespace Rows

/-- THE TIED CARD OF 'crupperlaw11.LowHolds'. -/
def lowHoldsCard : Claim7 := { stood := { row := lowHoldsRow, standIns := [], harness := (true, "7190967a3f5df23389edbbbc8aaccb83a801c449b714c544194c33e3812dd165"), looks := false }, kinds := [], alts := [], laidByText := true, laidKinds := [.data], laidTests := true, laidLooks := .later }
def LowHoldsCardSaid : Prop := Claim7.holds Tryz.pinned (.plain (OpenSpec.ofChange lowHoldsSpec)) lowHoldsCard

/-- THE TIED CARD OF 'crupperlaw11.LowTells'. -/
def lowTellsCard : Claim7 := { stood := { row := lowTellsRow, standIns := [], harness := (true, "7190967a3f5df23389edbbbc8aaccb83a801c449b714c544194c33e3812dd165"), looks := false }, kinds := [], alts := [], laidByText := true, laidKinds := [.data], laidTests := true, laidLooks := .later }
def LowTellsCardSaid : Prop := Claim7.holds Tryz.pinned (.plain (OpenSpec.ofChange lowTellsSpec)) lowTellsCard

/-- THE TIED CARD OF 'crupperlaw12.HighTells'. -/
def highTellsCard : Claim7 := { stood := { row := highTellsRow, standIns := [], harness := (true, "7190967a3f5df23389edbbbc8aaccb83a801c449b714c544194c33e3812dd165"), looks := false }, kinds := [], alts := [], laidByText := true, laidKinds := [.data], laidTests := true, laidLooks := .later }
def HighTellsCardSaid : Prop := Claim7.holds Tryz.pinned (.plain (OpenSpec.ofChange highTellsSpec)) highTellsCard

/-- THE TIED CARD OF 'crupperlaw12.HighHolds'. -/
def highHoldsCard : Claim7 := { stood := { row := highHoldsRow, standIns := [], harness := (true, "7190967a3f5df23389edbbbc8aaccb83a801c449b714c544194c33e3812dd165"), looks := false }, kinds := [], alts := [], laidByText := true, laidKinds := [.data], laidTests := true, laidLooks := .later }
def HighHoldsCardSaid : Prop := Claim7.holds Tryz.pinned (.plain (OpenSpec.ofChange highHoldsSpec)) highHoldsCard

/-- THE TIED CARD OF 'crupperlaw12.HighSteps'. -/
def highStepsCard : Claim7 := { stood := { row := highStepsRow, standIns := [], harness := (true, "7190967a3f5df23389edbbbc8aaccb83a801c449b714c544194c33e3812dd165"), looks := false }, kinds := [], alts := [], laidByText := true, laidKinds := [.data], laidTests := true, laidLooks := .later }
def HighStepsCardSaid : Prop := Claim7.holds Tryz.pinned (.plain (OpenSpec.ofChange highStepsSpec)) highStepsCard

/-- THE TIED CARD OF 'crupperlaw30.GraphSpare'. -/
def graphSpareCard : Claim7 := { stood := { row := graphSpareRow, standIns := [], harness := (true, "7190967a3f5df23389edbbbc8aaccb83a801c449b714c544194c33e3812dd165"), looks := false }, kinds := [], alts := [], laidByText := true, laidKinds := [.data], laidTests := true, laidLooks := .later }
def GraphSpareCardSaid : Prop := Claim7.holds Tryz.pinned (.plain (OpenSpec.ofChange graphSpareSpec)) graphSpareCard

/-- THE TIED CARD OF 'crupperlaw30.GraphIdle'. -/
def graphIdleCard : Claim7 := { stood := { row := graphIdleRow, standIns := [], harness := (true, "7190967a3f5df23389edbbbc8aaccb83a801c449b714c544194c33e3812dd165"), looks := false }, kinds := [], alts := [], laidByText := true, laidKinds := [.data], laidTests := true, laidLooks := .later }
def GraphIdleCardSaid : Prop := Claim7.holds Tryz.pinned (.plain (OpenSpec.ofChange graphIdleSpec)) graphIdleCard

/-- THE TIED CARD OF 'crupperlaw13.SimpleDecides'. -/
def simpleDecidesCard : Claim7 := { stood := { row := simpleDecidesRow, standIns := [], harness := (true, "7190967a3f5df23389edbbbc8aaccb83a801c449b714c544194c33e3812dd165"), looks := false }, kinds := [], alts := [], laidByText := true, laidKinds := [.data], laidTests := true, laidLooks := .later }
def SimpleDecidesCardSaid : Prop := Claim7.holds Tryz.pinned (.plain (OpenSpec.ofChange simpleDecidesSpec)) simpleDecidesCard

/-- THE TIED CARD OF 'crupperlaw13.SimpleSatisfies'. -/
def simpleSatisfiesCard : Claim7 := { stood := { row := simpleSatisfiesRow, standIns := [], harness := (true, "7190967a3f5df23389edbbbc8aaccb83a801c449b714c544194c33e3812dd165"), looks := false }, kinds := [], alts := [], laidByText := true, laidKinds := [.data], laidTests := true, laidLooks := .later }
def SimpleSatisfiesCardSaid : Prop := Claim7.holds Tryz.pinned (.plain (OpenSpec.ofChange simpleSatisfiesSpec)) simpleSatisfiesCard

/-- THE TIED CARD OF 'crupperlaw13.SimpleSound'. -/
def simpleSoundCard : Claim7 := { stood := { row := simpleSoundRow, standIns := [], harness := (true, "7190967a3f5df23389edbbbc8aaccb83a801c449b714c544194c33e3812dd165"), looks := false }, kinds := [], alts := [], laidByText := true, laidKinds := [.data], laidTests := true, laidLooks := .later }
def SimpleSoundCardSaid : Prop := Claim7.holds Tryz.pinned (.plain (OpenSpec.ofChange simpleSoundSpec)) simpleSoundCard

/-- THE TIED CARD OF 'crupperlaw13.SimpleWitness'. -/
def simpleWitnessCard : Claim7 := { stood := { row := simpleWitnessRow, standIns := [], harness := (true, "7190967a3f5df23389edbbbc8aaccb83a801c449b714c544194c33e3812dd165"), looks := false }, kinds := [], alts := [], laidByText := true, laidKinds := [.data], laidTests := true, laidLooks := .later }
def SimpleWitnessCardSaid : Prop := Claim7.holds Tryz.pinned (.plain (OpenSpec.ofChange simpleWitnessSpec)) simpleWitnessCard

/-- THE SECOND FORM's CARD OF 'crupperlaw11.LowHolds'. -/
def lowHoldsUptoCard : Claim7 := { stood := { row := lowHoldsUptoRow, standIns := [], harness := (true, "7190967a3f5df23389edbbbc8aaccb83a801c449b714c544194c33e3812dd165"), looks := false }, kinds := [], alts := [], laidByText := true, laidKinds := [.data], laidTests := true, laidLooks := .later }
def LowHoldsUptoCardSaid : Prop := Claim7.holds Tryz.pinned (.plain (OpenSpec.upto lowHoldsSpec)) lowHoldsUptoCard

/-- THE SECOND FORM's CARD OF 'crupperlaw11.LowTells'. -/
def lowTellsUptoCard : Claim7 := { stood := { row := lowTellsUptoRow, standIns := [], harness := (true, "7190967a3f5df23389edbbbc8aaccb83a801c449b714c544194c33e3812dd165"), looks := false }, kinds := [], alts := [], laidByText := true, laidKinds := [.data], laidTests := true, laidLooks := .later }
def LowTellsUptoCardSaid : Prop := Claim7.holds Tryz.pinned (.plain (OpenSpec.upto lowTellsSpec)) lowTellsUptoCard

/-- THE SECOND FORM's CARD OF 'crupperlaw12.HighTells'. -/
def highTellsUptoCard : Claim7 := { stood := { row := highTellsUptoRow, standIns := [], harness := (true, "7190967a3f5df23389edbbbc8aaccb83a801c449b714c544194c33e3812dd165"), looks := false }, kinds := [], alts := [], laidByText := true, laidKinds := [.data], laidTests := true, laidLooks := .later }
def HighTellsUptoCardSaid : Prop := Claim7.holds Tryz.pinned (.plain (OpenSpec.upto highTellsSpec)) highTellsUptoCard

/-- THE SECOND FORM's CARD OF 'crupperlaw12.HighHolds'. -/
def highHoldsUptoCard : Claim7 := { stood := { row := highHoldsUptoRow, standIns := [], harness := (true, "7190967a3f5df23389edbbbc8aaccb83a801c449b714c544194c33e3812dd165"), looks := false }, kinds := [], alts := [], laidByText := true, laidKinds := [.data], laidTests := true, laidLooks := .later }
def HighHoldsUptoCardSaid : Prop := Claim7.holds Tryz.pinned (.plain (OpenSpec.upto highHoldsSpec)) highHoldsUptoCard

/-- THE SECOND FORM's CARD OF 'crupperlaw12.HighSteps'. -/
def highStepsUptoCard : Claim7 := { stood := { row := highStepsUptoRow, standIns := [], harness := (true, "7190967a3f5df23389edbbbc8aaccb83a801c449b714c544194c33e3812dd165"), looks := false }, kinds := [], alts := [], laidByText := true, laidKinds := [.data], laidTests := true, laidLooks := .later }
def HighStepsUptoCardSaid : Prop := Claim7.holds Tryz.pinned (.plain (OpenSpec.upto highStepsSpec)) highStepsUptoCard

/-- THE SECOND FORM's CARD OF 'crupperlaw30.GraphSpare'. -/
def graphSpareUptoCard : Claim7 := { stood := { row := graphSpareUptoRow, standIns := [], harness := (true, "7190967a3f5df23389edbbbc8aaccb83a801c449b714c544194c33e3812dd165"), looks := false }, kinds := [], alts := [], laidByText := true, laidKinds := [.data], laidTests := true, laidLooks := .later }
def GraphSpareUptoCardSaid : Prop := Claim7.holds Tryz.pinned (.plain (OpenSpec.upto graphSpareSpec)) graphSpareUptoCard

/-- THE SECOND FORM's CARD OF 'crupperlaw30.GraphIdle'. -/
def graphIdleUptoCard : Claim7 := { stood := { row := graphIdleUptoRow, standIns := [], harness := (true, "7190967a3f5df23389edbbbc8aaccb83a801c449b714c544194c33e3812dd165"), looks := false }, kinds := [], alts := [], laidByText := true, laidKinds := [.data], laidTests := true, laidLooks := .later }
def GraphIdleUptoCardSaid : Prop := Claim7.holds Tryz.pinned (.plain (OpenSpec.upto graphIdleSpec)) graphIdleUptoCard

/-- THE SECOND FORM's CARD OF 'crupperlaw13.SimpleDecides'. -/
def simpleDecidesUptoCard : Claim7 := { stood := { row := simpleDecidesUptoRow, standIns := [], harness := (true, "7190967a3f5df23389edbbbc8aaccb83a801c449b714c544194c33e3812dd165"), looks := false }, kinds := [], alts := [], laidByText := true, laidKinds := [.data], laidTests := true, laidLooks := .later }
def SimpleDecidesUptoCardSaid : Prop := Claim7.holds Tryz.pinned (.plain (OpenSpec.upto simpleDecidesSpec)) simpleDecidesUptoCard

/-- THE SECOND FORM's CARD OF 'crupperlaw13.SimpleSatisfies'. -/
def simpleSatisfiesUptoCard : Claim7 := { stood := { row := simpleSatisfiesUptoRow, standIns := [], harness := (true, "7190967a3f5df23389edbbbc8aaccb83a801c449b714c544194c33e3812dd165"), looks := false }, kinds := [], alts := [], laidByText := true, laidKinds := [.data], laidTests := true, laidLooks := .later }
def SimpleSatisfiesUptoCardSaid : Prop := Claim7.holds Tryz.pinned (.plain (OpenSpec.upto simpleSatisfiesSpec)) simpleSatisfiesUptoCard

/-- THE SECOND FORM's CARD OF 'crupperlaw13.SimpleSound'. -/
def simpleSoundUptoCard : Claim7 := { stood := { row := simpleSoundUptoRow, standIns := [], harness := (true, "7190967a3f5df23389edbbbc8aaccb83a801c449b714c544194c33e3812dd165"), looks := false }, kinds := [], alts := [], laidByText := true, laidKinds := [.data], laidTests := true, laidLooks := .later }
def SimpleSoundUptoCardSaid : Prop := Claim7.holds Tryz.pinned (.plain (OpenSpec.upto simpleSoundSpec)) simpleSoundUptoCard

/-- THE SECOND FORM's CARD OF 'crupperlaw13.SimpleWitness'. -/
def simpleWitnessUptoCard : Claim7 := { stood := { row := simpleWitnessUptoRow, standIns := [], harness := (true, "7190967a3f5df23389edbbbc8aaccb83a801c449b714c544194c33e3812dd165"), looks := false }, kinds := [], alts := [], laidByText := true, laidKinds := [.data], laidTests := true, laidLooks := .later }
def SimpleWitnessUptoCardSaid : Prop := Claim7.holds Tryz.pinned (.plain (OpenSpec.upto simpleWitnessSpec)) simpleWitnessUptoCard
end Rows
end Go.Proofs.YtnnieegddbcfcaaGreatDoor
