/- A world for a witness: the settled one, in which the two listed tables hold what their texts lay. -/
import Derived.Test.YtmpanikeeeoikaaDoorCards
import Derived.Test.YtmpanikeeeoikaaDoorTie
import Derived.Test.YtmpanikeeeoikaaDoorPlain
import Derived.ProofKit
import Derived.OpenShut
import Derived.Deep.DeepHandedRow
import Derived.Lib.LaidTab
import Derived.Shelf.Strings.Shaped
import Derived.Test.YtmpanikeeeoikaaDoorShelf
namespace Go.Proofs.YtmpanikeeeoikaaDoor
open Go.ChangeShapes Go.WideShapes Go.ChangeAt Go.RowKit

def litV : DataW Unit → Value
  | .lit (.int k n) => .int k n
  | _ => undef
def aggL : DataW Unit → List (DataW Unit)
  | .agg l => l
  | _ => []
def firstCells : Array Value := ((aggL Rows.laid_unicode_utf8_first).map litV).toArray
def acceptCells : Array Value := ((aggL (Rows.laid_unicode_utf8_acceptRanges (H := Unit))).flatMap fun d => (aggL d).map litV).toArray
def layCells (cs : Array Value) : Obj → Obj
  | .cells _ t frozen => .cells cs t frozen
  | o => o
noncomputable def laidWorld (os : Os) : World :=
  { World.holding Tryd.prog os ⟨#[], #[], []⟩ with heap := ((World.holding Tryd.prog os ⟨#[], #[], []⟩).heap.modify 1 (layCells firstCells)).modify 2 (layCells acceptCells) }
theorem gl_of_shaped (w : World) (h : w.ShapedOpen Tryd.prog) : Gl w :=
  Go.Proofs.cell_of_shapedOpen_int (zero := #[.int .i64 0]) (t := 3) h (of_decide_eq_true (by kernel_rfl)) (by kernel_rfl) rfl (by kernel_rfl) (by kernel_rfl) Tryd.underlying3
theorem own : ownKnob Tryd.prog.godebug = none := by kernel_rfl
end Go.Proofs.YtmpanikeeeoikaaDoor
