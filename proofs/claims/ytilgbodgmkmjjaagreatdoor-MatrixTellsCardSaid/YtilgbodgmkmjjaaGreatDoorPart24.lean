/- Parts: MatrixTellsClosed -/
import Derived.Test.YtilgbodgmkmjjaaGreatDoorRows
import Derived.JoinedCond
namespace Go.Proofs.YtilgbodgmkmjjaaGreatDoor
section
open Go.ChangeShapes Go.WideShapes Go.ChangeAt

namespace matrixTells
theorem both {a b:Bool} (h1:a=true) (h2:b=true):(a && b)=true:=by rw [h1,h2];rfl
set_option maxHeartbeats 16000000 in
theorem closed:joinedFacts Tryz.pinned.checked.prog 3 Tryz.f3 (OpenSpec.ofChange Rows.matrixTellsSpec).bare Rows.matrixTellsRow=true:=by
 unfold joinedFacts
 repeat' (with_reducible refine both ?_ ?_)
 all_goals decide +kernel
end matrixTells
end
end Go.Proofs.YtilgbodgmkmjjaaGreatDoor
