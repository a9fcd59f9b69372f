/- A region that draws its order, walked by hand: an operation that is taken first, and one whose guard says no. -/
import Derived.Test.YtmpanikeeeoikaaPlain2
import Derived.Deep.RegionHeld3
namespace Go.Proofs.Ytmpanikeeeoikaa
open Go.RowKit Go.Shelf

def nthOp : List Oper → Nat → Option Oper
  | [], _ => none
  | o :: _, 0 => some o
  | _ :: r, n + 1 => nthOp r n
theorem nthOp_get : ∀ (l : List Oper) (i : Nat), l.toArray[i]? = nthOp l i
  | [], i => by simp [nthOp]
  | o :: r, 0 => by simp [nthOp]
  | o :: r, n + 1 => by have := nthOp_get r n; simpa [nthOp] using this

theorem held_yes {P : Program} {md : Region.Mode} {S : World → Prop} {Q : Exit → Act → World → Prop} {fuel : Nat} {listed : Array Bool} {a : Act} {w : World} {v : Value} {oi : Oper} {l : List Oper} (i : Nat) (hi : nthOp l i = some oi)
    (hs : Region.noSelect l.toArray = true) (hf : Region.free md l.toArray listed i = true) (hr : (Region.ready md l.toArray listed).contains i = true)
    (hQ : ∀ c a w, Q (.panic c) (a.put oi.dst v) w → Q (.panic c) a w) (hw : Region.wanted oi (yielded l.toArray a.tmps) = true) (hS : S w) (hy : ∀ w, S w → (execOp a.eval oi).run P w = .ok (.value v) w)
    (h : wpAnyH P md l.toArray Q S fuel (listed.setIfInBounds i true) (a.put oi.dst v) w) : wpAnyH P md l.toArray Q S (fuel + 1) listed a w :=
  wpAnyH_take (by rw [nthOp_get]; exact hi) hs hf hr hQ (Or.inl ⟨hw, hy⟩) hS h

theorem held_no {P : Program} {md : Region.Mode} {S : World → Prop} {Q : Exit → Act → World → Prop} {fuel : Nat} {listed : Array Bool} {a : Act} {w : World} {oi : Oper} {l : List Oper} (i : Nat) (hi : nthOp l i = some oi)
    (hs : Region.noSelect l.toArray = true) (hf : Region.free md l.toArray listed i = true) (hr : (Region.ready md l.toArray listed).contains i = true)
    (hQ : ∀ c a w, Q (.panic c) (a.put oi.dst undef) w → Q (.panic c) a w) (hw : Region.wanted oi (yielded l.toArray a.tmps) = false) (hS : S w)
    (h : wpAnyH P md l.toArray Q S fuel (listed.setIfInBounds i true) (a.put oi.dst undef) w) : wpAnyH P md l.toArray Q S (fuel + 1) listed a w :=
  wpAnyH_take (by rw [nthOp_get]; exact hi) hs hf hr hQ (Or.inr ⟨hw, rfl⟩) hS h

theorem held_call {P : Program} {md : Region.Mode} {S : World → Prop} {Q : Exit → Act → World → Prop} {fuel : Nat} {listed : Array Bool} {a : Act} {w : World} {oi : Oper} {l : List Oper} (i : Nat) (hi : nthOp l i = some oi)
    (hr : Region.ready md l.toArray listed = [i])
    (h : ∀ K' : Act → World → Prop, Shut (∀ a w, S w → (S w → wpAnyH P md l.toArray Q S fuel (listed.setIfInBounds i true) a w) → K' a w) → if Region.wanted oi (yielded l.toArray a.tmps) = true then Oper.wp P oi a w K' Q else K' (a.put oi.dst undef) w) :
    wpAnyH P md l.toArray Q S (fuel + 1) listed a w :=
  wpAnyH_ready hr (by simp) (AllReadyH.cons (by rw [nthOp_get]; exact hi) h AllReadyH.nil)
end Go.Proofs.Ytmpanikeeeoikaa
