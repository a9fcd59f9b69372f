/-
  DERIVED. GIVEN WITH THE SEED: THE CARDS: each row of YtmpanikeeeoikaaDoorRows.lean that lists a variable, with what it lists TIED to the program's text (the seventh form; the later family's looks); each row that meets fmt, with fmt's text TOLD by the authors' own Lean function (tested against real Go, not proved from fmt's source: count such statements apart). THE CARD IS WHAT COUNTS. Prove the row's statement (the work); the ties are given (YtmpanikeeeoikaaDoorTie.lean); close each card by the builder's one call (the guide's Derived/Test/ToyasCard.lean, 'card_holds'). Laid BY PROGRAM, IN A SANDBOX (cutbox-door.mjs). By AI agents, Wed Nov 11 2026. No macro, syntax, notation, axiom, sorry.
-/
import Derived.Test.YtmpanikeeeoikaaDoorRows
import GoSem.ClaimSeven
namespace Go.Proofs.YtmpanikeeeoikaaDoor
namespace Rows

/-- THE TIED CARD OF 'crupperlaw03.SynOrder'. -/
def synOrderCard : Claim7 := { stood := { row := synOrderRow, standIns := [], harness := (true, "29a6d2f0099c8943a2ab365a1b29c4d31c43a4e972ee7e09a58ddb8dcd7f9839"), looks := false }, kinds := [], alts := [], laidByText := true, laidKinds := [.data, .pinned], laidTests := true, laidLooks := .later }
def SynOrderCardSaid : Prop := Claim7.holds Tryd.pinned (.plain (OpenSpec.ofChange synOrderSpec)) synOrderCard

/-- THE SECOND FORM's CARD OF 'crupperlaw03.SynOrder'. -/
def synOrderUptoCard : Claim7 := { stood := { row := synOrderUptoRow, standIns := [], harness := (true, "29a6d2f0099c8943a2ab365a1b29c4d31c43a4e972ee7e09a58ddb8dcd7f9839"), looks := false }, kinds := [], alts := [], laidByText := true, laidKinds := [.data, .pinned], laidTests := true, laidLooks := .later }
def SynOrderUptoCardSaid : Prop := Claim7.holds Tryd.pinned (.plain (OpenSpec.upto synOrderSpec)) synOrderUptoCard
end Rows
end Go.Proofs.YtmpanikeeeoikaaDoor
