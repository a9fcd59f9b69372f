/- The lines of a difference: delta.marks, delta.Lines (printed by gen_lines.py). -/
import Derived.Test.YtomhekohcadijaaGreatDoorPartRF33
import Derived.Test.YtomhekohcadijaaGreatDoorPartRF16
namespace Go.Proofs.YtomhekohcadijaaGreatDoor
open Go.RowKit Go.Shelf


end Go.Proofs.YtomhekohcadijaaGreatDoor
