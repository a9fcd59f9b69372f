/- MatrixLines: the closed facts about the program that the claim's row tells; each checked by itself. -/
import Derived.Test.YtcmdhfccdkjenaaGreatDoorRows
import Derived.JoinedCond
namespace Go.Proofs.YtcmdhfccdkjenaaGreatDoor
open Go.ChangeShapes Go.WideShapes Go.ChangeAt

namespace matrixLines
theorem both {a b : Bool} (h1 : a = true) (h2 : b = true) : (a && b) = true := by rw [h1, h2]; rfl
set_option maxHeartbeats 16000000 in
theorem closed : joinedFacts Tryz.pinned.checked.prog 12 Tryz.f12 (OpenSpec.ofChange Rows.matrixLinesSpec).bare Rows.matrixLinesRow = true := by
  unfold joinedFacts
  repeat' (with_reducible refine both ?_ ?_)
  all_goals decide +kernel
end matrixLines
end Go.Proofs.YtcmdhfccdkjenaaGreatDoor
