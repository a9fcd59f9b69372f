/- ReportFaults: the closed facts about the program that the claim's row tells; each checked by itself. -/
import Derived.Test.YtomhekohcadijaaGreatDoorRows
import Derived.JoinedCond
namespace Go.Proofs.YtomhekohcadijaaGreatDoor
open Go.ChangeShapes Go.WideShapes Go.ChangeAt

namespace reportFaults
theorem both {a b : Bool} (h1 : a = true) (h2 : b = true) : (a && b) = true := by rw [h1, h2]; rfl
set_option maxHeartbeats 16000000 in
theorem closed : joinedFacts Tryz.pinned.checked.prog 7 Tryz.f7 (OpenSpec.ofChange Rows.reportFaultsSpec).bare Rows.reportFaultsRow = true := by
  unfold joinedFacts
  repeat' (with_reducible refine both ?_ ?_)
  all_goals decide +kernel
end reportFaults
end Go.Proofs.YtomhekohcadijaaGreatDoor
