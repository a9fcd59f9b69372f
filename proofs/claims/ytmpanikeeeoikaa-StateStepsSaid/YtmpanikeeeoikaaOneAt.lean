/- One block of a call's own that stands whole. -/
import Derived.Test.YtmpanikeeeoikaaPlain2
namespace Go.Proofs.Ytmpanikeeeoikaa
open Go.RowKit Go.Shelf

/-- One block of the call's own stands whole. -/
structure OneAt (w : World) (A : Array Value) (wx : World) : Prop where
  a : Blk wx w.heap.size A
  low : Below w.heap.size w wx
theorem OneAt.later {w wx w' : World} {A : Array Value} (h : OneAt w A wx) (hb : Below wx.heap.size wx w') : OneAt w A w' := ⟨h.a.below hb, h.low.trans (hb.mono h.low.size)⟩
theorem OneAt.alloc {w wx : World} {A : Array Value} (h : OneAt w A wx) (o : Obj) : OneAt w A (wx.alloc o) := h.later ((Below.refl _ _).alloc (Nat.le_refl _) o)
theorem OneAt.drew {w wx : World} {A : Array Value} (h : OneAt w A wx) : OneAt w A wx.drew := h.later (below_drew (Below.refl _ _))
end Go.Proofs.Ytmpanikeeeoikaa
