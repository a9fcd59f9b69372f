/-
  DERIVED. GIVEN WITH THE SEED: THE CARDS: each row of YtakpahlgbcgnmaaDoorRows.lean that lists a variable, with what it lists TIED to the program's text (the seventh form; the later family's looks); each row that meets fmt, with fmt's text TOLD by the authors' own Lean function (tested against real Go, not proved from fmt's source: count such statements apart). THE CARD IS WHAT COUNTS. Prove the row's statement (the work); the ties are given (YtakpahlgbcgnmaaDoorTie.lean); close each card by the builder's one call (the guide's Derived/Test/ToyasCard.lean, 'card_holds'). Laid BY PROGRAM, IN A SANDBOX (cutbox-door.mjs). By AI agents, Wed Nov 11 2026. No macro, syntax, notation, axiom, sorry.
-/
import Derived.Test.YtakpahlgbcgnmaaDoorRows
import GoSem.ClaimSeven
namespace Go.Proofs.YtakpahlgbcgnmaaDoor
namespace Rows

/-- THE TIED CARD OF 'crupperlaw02.ScanLines'. -/
def scanLinesCard : Claim7 := { stood := { row := scanLinesRow, standIns := [], harness := (true, "7a977d4142d8fd7945c4ef1b494d4ac23306c592a289949d7845e48cb8c99f63"), looks := false }, kinds := [], alts := [], laidByText := true, laidKinds := [.data, .pinned], laidTests := true, laidLooks := .later }
def ScanLinesCardSaid : Prop := Claim7.holds Tryd.pinned (.plain (OpenSpec.ofChange scanLinesSpec)) scanLinesCard

/-- THE TIED CARD OF 'crupperlaw03.SynBack'. -/
def synBackCard : Claim7 := { stood := { row := synBackRow, standIns := [], harness := (true, "7a977d4142d8fd7945c4ef1b494d4ac23306c592a289949d7845e48cb8c99f63"), looks := false }, kinds := [], alts := [], laidByText := true, laidKinds := [.data, .pinned], laidTests := true, laidLooks := .later }
def SynBackCardSaid : Prop := Claim7.holds Tryd.pinned (.plain (OpenSpec.ofChange synBackSpec)) synBackCard

/-- THE TIED CARD OF 'crupperlaw03.SynParses'. -/
def synParsesCard : Claim7 := { stood := { row := synParsesRow, standIns := [], harness := (true, "7a977d4142d8fd7945c4ef1b494d4ac23306c592a289949d7845e48cb8c99f63"), looks := false }, kinds := [], alts := [], laidByText := true, laidKinds := [.data, .pinned], laidTests := true, laidLooks := .later }
def SynParsesCardSaid : Prop := Claim7.holds Tryd.pinned (.plain (OpenSpec.ofChange synParsesSpec)) synParsesCard

/-- THE TIED CARD OF 'crupperlaw03.SynRight'. -/
def synRightCard : Claim7 := { stood := { row := synRightRow, standIns := [], harness := (true, "7a977d4142d8fd7945c4ef1b494d4ac23306c592a289949d7845e48cb8c99f63"), looks := false }, kinds := [], alts := [], laidByText := true, laidKinds := [.data, .pinned], laidTests := true, laidLooks := .later }
def SynRightCardSaid : Prop := Claim7.holds Tryd.pinned (.plain (OpenSpec.ofChange synRightSpec)) synRightCard

/-- THE TIED CARD OF 'crupperlaw04.QueryParses'. -/
def queryParsesCard : Claim7 := { stood := { row := queryParsesRow, standIns := [], harness := (true, "7a977d4142d8fd7945c4ef1b494d4ac23306c592a289949d7845e48cb8c99f63"), looks := false }, kinds := [], alts := [], laidByText := true, laidKinds := [.data, .pinned], laidTests := true, laidLooks := .later }
def QueryParsesCardSaid : Prop := Claim7.holds Tryd.pinned (.plain (OpenSpec.ofChange queryParsesSpec)) queryParsesCard

/-- THE TIED CARD OF 'crupperlaw04.QueryBack'. -/
def queryBackCard : Claim7 := { stood := { row := queryBackRow, standIns := [], harness := (true, "7a977d4142d8fd7945c4ef1b494d4ac23306c592a289949d7845e48cb8c99f63"), looks := false }, kinds := [], alts := [], laidByText := true, laidKinds := [.data, .pinned], laidTests := true, laidLooks := .later }
def QueryBackCardSaid : Prop := Claim7.holds Tryd.pinned (.plain (OpenSpec.ofChange queryBackSpec)) queryBackCard

/-- THE TIED CARD OF 'crupperlaw04.QueryRight'. -/
def queryRightCard : Claim7 := { stood := { row := queryRightRow, standIns := [], harness := (true, "7a977d4142d8fd7945c4ef1b494d4ac23306c592a289949d7845e48cb8c99f63"), looks := false }, kinds := [], alts := [], laidByText := true, laidKinds := [.data, .pinned], laidTests := true, laidLooks := .later }
def QueryRightCardSaid : Prop := Claim7.holds Tryd.pinned (.plain (OpenSpec.ofChange queryRightSpec)) queryRightCard

/-- THE TIED CARD OF 'crupperlaw03.SynOrder'. -/
def synOrderCard : Claim7 := { stood := { row := synOrderRow, standIns := [], harness := (true, "7a977d4142d8fd7945c4ef1b494d4ac23306c592a289949d7845e48cb8c99f63"), looks := false }, kinds := [], alts := [], laidByText := true, laidKinds := [.data, .pinned], laidTests := true, laidLooks := .later }
def SynOrderCardSaid : Prop := Claim7.holds Tryd.pinned (.plain (OpenSpec.ofChange synOrderSpec)) synOrderCard

/-- THE SECOND FORM's CARD OF 'crupperlaw02.ScanLines'. -/
def scanLinesUptoCard : Claim7 := { stood := { row := scanLinesUptoRow, standIns := [], harness := (true, "7a977d4142d8fd7945c4ef1b494d4ac23306c592a289949d7845e48cb8c99f63"), looks := false }, kinds := [], alts := [], laidByText := true, laidKinds := [.data, .pinned], laidTests := true, laidLooks := .later }
def ScanLinesUptoCardSaid : Prop := Claim7.holds Tryd.pinned (.plain (OpenSpec.upto scanLinesSpec)) scanLinesUptoCard

/-- THE SECOND FORM's CARD OF 'crupperlaw03.SynBack'. -/
def synBackUptoCard : Claim7 := { stood := { row := synBackUptoRow, standIns := [], harness := (true, "7a977d4142d8fd7945c4ef1b494d4ac23306c592a289949d7845e48cb8c99f63"), looks := false }, kinds := [], alts := [], laidByText := true, laidKinds := [.data, .pinned], laidTests := true, laidLooks := .later }
def SynBackUptoCardSaid : Prop := Claim7.holds Tryd.pinned (.plain (OpenSpec.upto synBackSpec)) synBackUptoCard

/-- THE SECOND FORM's CARD OF 'crupperlaw03.SynParses'. -/
def synParsesUptoCard : Claim7 := { stood := { row := synParsesUptoRow, standIns := [], harness := (true, "7a977d4142d8fd7945c4ef1b494d4ac23306c592a289949d7845e48cb8c99f63"), looks := false }, kinds := [], alts := [], laidByText := true, laidKinds := [.data, .pinned], laidTests := true, laidLooks := .later }
def SynParsesUptoCardSaid : Prop := Claim7.holds Tryd.pinned (.plain (OpenSpec.upto synParsesSpec)) synParsesUptoCard

/-- THE SECOND FORM's CARD OF 'crupperlaw03.SynRight'. -/
def synRightUptoCard : Claim7 := { stood := { row := synRightUptoRow, standIns := [], harness := (true, "7a977d4142d8fd7945c4ef1b494d4ac23306c592a289949d7845e48cb8c99f63"), looks := false }, kinds := [], alts := [], laidByText := true, laidKinds := [.data, .pinned], laidTests := true, laidLooks := .later }
def SynRightUptoCardSaid : Prop := Claim7.holds Tryd.pinned (.plain (OpenSpec.upto synRightSpec)) synRightUptoCard

/-- THE SECOND FORM's CARD OF 'crupperlaw04.QueryParses'. -/
def queryParsesUptoCard : Claim7 := { stood := { row := queryParsesUptoRow, standIns := [], harness := (true, "7a977d4142d8fd7945c4ef1b494d4ac23306c592a289949d7845e48cb8c99f63"), looks := false }, kinds := [], alts := [], laidByText := true, laidKinds := [.data, .pinned], laidTests := true, laidLooks := .later }
def QueryParsesUptoCardSaid : Prop := Claim7.holds Tryd.pinned (.plain (OpenSpec.upto queryParsesSpec)) queryParsesUptoCard

/-- THE SECOND FORM's CARD OF 'crupperlaw04.QueryBack'. -/
def queryBackUptoCard : Claim7 := { stood := { row := queryBackUptoRow, standIns := [], harness := (true, "7a977d4142d8fd7945c4ef1b494d4ac23306c592a289949d7845e48cb8c99f63"), looks := false }, kinds := [], alts := [], laidByText := true, laidKinds := [.data, .pinned], laidTests := true, laidLooks := .later }
def QueryBackUptoCardSaid : Prop := Claim7.holds Tryd.pinned (.plain (OpenSpec.upto queryBackSpec)) queryBackUptoCard

/-- THE SECOND FORM's CARD OF 'crupperlaw04.QueryRight'. -/
def queryRightUptoCard : Claim7 := { stood := { row := queryRightUptoRow, standIns := [], harness := (true, "7a977d4142d8fd7945c4ef1b494d4ac23306c592a289949d7845e48cb8c99f63"), looks := false }, kinds := [], alts := [], laidByText := true, laidKinds := [.data, .pinned], laidTests := true, laidLooks := .later }
def QueryRightUptoCardSaid : Prop := Claim7.holds Tryd.pinned (.plain (OpenSpec.upto queryRightSpec)) queryRightUptoCard

/-- THE SECOND FORM's CARD OF 'crupperlaw03.SynOrder'. -/
def synOrderUptoCard : Claim7 := { stood := { row := synOrderUptoRow, standIns := [], harness := (true, "7a977d4142d8fd7945c4ef1b494d4ac23306c592a289949d7845e48cb8c99f63"), looks := false }, kinds := [], alts := [], laidByText := true, laidKinds := [.data, .pinned], laidTests := true, laidLooks := .later }
def SynOrderUptoCardSaid : Prop := Claim7.holds Tryd.pinned (.plain (OpenSpec.upto synOrderSpec)) synOrderUptoCard
end Rows
end Go.Proofs.YtakpahlgbcgnmaaDoor
