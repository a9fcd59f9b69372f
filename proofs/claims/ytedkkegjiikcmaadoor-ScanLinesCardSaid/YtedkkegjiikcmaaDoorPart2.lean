/- syn.Right returns whether a statement may be, for every statement of texts that are not too long. -/
import Derived.Test.YtedkkegjiikcmaaDoorPart1
namespace Go.Proofs.YtedkkegjiikcmaaDoor
open Go.RowKit Go.Shelf

theorem beq_str (a c : ByteArray) : (a.toList == c.toList) = decide (a = c) := by
  rw [toList_bl, toList_bl, Bool.eq_iff_iff]
  exact beq_iff_eq.trans (bl_inj.trans decide_eq_true_iff.symm)
end Go.Proofs.YtedkkegjiikcmaaDoor
