/- Parts: PolicyParsesClosed -/
import Derived.Test.YtomhekohcadijaaGreatDoorRows
import Derived.JoinedCond
namespace Go.Proofs.YtomhekohcadijaaGreatDoor
section
open Go.ChangeShapes Go.WideShapes Go.ChangeAt

namespace policyParses
theorem both {a b:Bool} (h1:a=true) (h2:b=true):(a && b)=true:=by rw [h1,h2];rfl
set_option maxHeartbeats 16000000 in
theorem closed:joinedFacts Tryz.pinned.checked.prog 4 Tryz.f4 (OpenSpec.ofChange Rows.policyParsesSpec).bare Rows.policyParsesRow=true:=by
 unfold joinedFacts
 repeat' (with_reducible refine both ?_ ?_)
 all_goals decide +kernel
end policyParses
end
end Go.Proofs.YtomhekohcadijaaGreatDoor
