/- Worlds that differ in named blocks alone; blocks whose cells a function tells. The reference's Tokens returns the tokens of a line, or what is wrong first, and where. The reference's Alike is true of two slices that read as the same tokens. policy.bound: the role of a line that begins with grow, or shrink. slices.Insert at texts: one text more, at a place, into a row of the call's own. slices.BinarySearch at texts in order: whether one is among them, and its place (out of TabFind). The reader of package query: who (printed by gen_qwho.py). A row of the call's own stands above every lower bound. query.Parse: what it returns, for every line. (*policy.maker).line: a policy with a line more. -/
import Derived.Test.YtomhekohcadijaaGreatDoorPartRF27
import Derived.Test.YtomhekohcadijaaGreatDoorPartRF35
import Derived.Test.YtomhekohcadijaaGreatDoorPartRF7
import Derived.Test.YtomhekohcadijaaGreatDoorPartRF29
import Derived.Test.YtomhekohcadijaaGreatDoorPartRF32
import Derived.Test.YtomhekohcadijaaGreatDoorPartRF16
import Derived.Shelf.Spec.SlicesInsert
import Derived.Lib.AppendZerosOnto
import Derived.Test.YtomhekohcadijaaGreatDoorPartRF17
import Derived.Test.YtomhekohcadijaaGreatDoorPartRF1
import Derived.Test.YtomhekohcadijaaGreatDoorPartRF22
import Derived.Test.YtomhekohcadijaaGreatDoorShelf2
namespace Go.Proofs.YtomhekohcadijaaGreatDoor
open Go.RowKit Go.Shelf

structure Kp (X : Nat → Prop) (w w' : World) : Prop where
  os : w'.os = w.os
  tape : w'.tape = w.tape
  output : w'.output = w.output
  size : w.heap.size ≤ w'.heap.size
  block : ∀ k, k < w.heap.size → ¬ X k → w'.heap[k]? = w.heap[k]?
section
variable {X Y : Nat → Prop} {w w1 w2 : World}
theorem Kp.refl (X : Nat → Prop) (w : World) : Kp X w w := ⟨rfl, rfl, rfl, Nat.le_refl _, fun _ _ _ => rfl⟩
theorem Kp.of_below (h : Below w.heap.size w w1) : Kp X w w1 := ⟨h.os, h.tape, h.output, h.size, fun k hk _ => h.block k hk⟩
theorem Kp.of_grown {r : Option Nat} (h : w.grownBy w1 r) (hr : ∀ b, some b = r → X b) : Kp X w w1 := ⟨h.os, h.tape, h.output, h.size, fun k hk hx => h.block k hk (fun e => hx (hr k e))⟩
theorem Kp.trans (h : Kp X w w1) (g : Kp Y w1 w2) (hxy : ∀ b, b < w.heap.size → Y b → X b) : Kp X w w2 :=
  ⟨g.os.trans h.os, g.tape.trans h.tape, g.output.trans h.output, Nat.le_trans h.size g.size, fun k hk hx => (g.block k (Nat.lt_of_lt_of_le hk h.size) (fun hy => hx (hxy k hk hy))).trans (h.block k hk hx)⟩
theorem Kp.below {n : Nat} (h : Kp X w w1) (hn : n ≤ w.heap.size) (hx : ∀ b, b < n → ¬ X b) : Below n w w1 := ⟨h.os, h.tape, h.output, h.size, fun k hk => h.block k (Nat.lt_of_lt_of_le hk hn) (hx k hk)⟩
theorem Kp.blk {b : Nat} {cs : Array Value} (h : Kp X w w1) (hb : Blk w b cs) (hx : ¬ X b) : Blk w1 b cs := by
  have e := h.block b hb.2.2 hx
  exact ⟨fun o => (World.cell?_of_block (a := ⟨b, o, none⟩) e).trans (hb.1 o), fun o => (World.frozen?_of_block (a := ⟨b, o, none⟩) e).trans (hb.2.1 o), Nat.lt_of_lt_of_le hb.2.2 h.size⟩
theorem Kp.own {base size n : Nat} {e : TypeId} {v : Value} {xs : List Value} (h : Kp X w w1) (ho : w.ownsRow base e size v n xs) (hx : ∀ g, v.ownBlock = some g → ¬ X g) : w1.ownsRow base e size v n xs := by
  refine ⟨ho.1, ?_⟩
  rcases ho.2 with h2 | ⟨g, cap, cur, rfl, hb, hg, hr⟩
  · exact .inl h2
  · exact .inr ⟨g, cap, cur, rfl, hb, (h.block g (Array.getElem?_eq_some_iff.1 hg).1 (hx g rfl)).trans hg, hr⟩
theorem Kp.set {b o : Nat} {v : Value} (hx : X b) : Kp X w (w.setCell ⟨b, o, none⟩ v) :=
  ⟨rfl, rfl, rfl, by simp [World.setCell], fun k _ hk => Below.heap_setCell _ _ _ _ (fun e => hk (by have e' : k = b := e; rw [e']; exact hx))⟩
end
end Go.Proofs.YtomhekohcadijaaGreatDoor
namespace Go.Proofs.YtomhekohcadijaaGreatDoor
open Go.RowKit Go.Shelf

end Go.Proofs.YtomhekohcadijaaGreatDoor
namespace Go.Proofs.YtomhekohcadijaaGreatDoor
open Go.RowKit Go.Shelf

end Go.Proofs.YtomhekohcadijaaGreatDoor
namespace Go.Proofs.YtomhekohcadijaaGreatDoor
open Go.RowKit Go.Shelf

end Go.Proofs.YtomhekohcadijaaGreatDoor
namespace Go.Proofs.YtomhekohcadijaaGreatDoor
open Go.RowKit Go.Shelf

end Go.Proofs.YtomhekohcadijaaGreatDoor
namespace Go.Proofs.YtomhekohcadijaaGreatDoor
open Go.RowKit Go.Shelf

end Go.Proofs.YtomhekohcadijaaGreatDoor
namespace Go.Proofs.YtomhekohcadijaaGreatDoor
open Go.RowKit Go.Shelf

end Go.Proofs.YtomhekohcadijaaGreatDoor
namespace Go.Proofs.YtomhekohcadijaaGreatDoor
open Go.RowKit Go.Shelf

end Go.Proofs.YtomhekohcadijaaGreatDoor
namespace Go.Proofs.YtomhekohcadijaaGreatDoor
open Go.RowKit Go.Shelf

end Go.Proofs.YtomhekohcadijaaGreatDoor
namespace Go.Proofs.YtomhekohcadijaaGreatDoor
open Go.RowKit Go.Shelf

theorem own_type {w : World} {base size n g : Nat} {e : TypeId} {v : Value} {xs : List Value} (h : w.ownsRow base e size v n xs) (hg : v.ownBlock = some g) : base ≤ g ∧ ∃ cs, w.heap[g]? = some (.cells cs e (0, 0)) := by
  rcases h.2 with ⟨rfl, _⟩ | ⟨g', cap, cur, rfl, hb, hh, _⟩
  · cases hg
  · injection hg with hg
    dsimp only at hg
    subst hg
    exact ⟨hb, cur, hh⟩
theorem type_ne {w : World} {g g' : Nat} {cs cs' : Array Value} {t t' : TypeId} (h : w.heap[g]? = some (.cells cs t (0, 0))) (h' : w.heap[g']? = some (.cells cs' t' (0, 0))) (hne : ¬ t = t') : ¬ g = g' := by
  rintro rfl
  rw [h] at h'
  injection h' with h'
  injection h' with _ h' _
  exact hne h'
theorem own_ne_type {w : World} {B size size' n n' : Nat} {e e' : TypeId} {v v' : Value} {xs xs' : List Value} (h : w.ownsRow B e size v n xs) (h' : w.ownsRow B e' size' v' n' xs') (hne : ¬ e = e') : ∀ k, some k = v.ownBlock → some k ≠ v'.ownBlock := fun k h1 h2 => by
  obtain ⟨_, cs, hc⟩ := own_type h h1.symm
  obtain ⟨_, cs', hc'⟩ := own_type h' h2.symm
  exact type_ne hc hc' hne rfl
end Go.Proofs.YtomhekohcadijaaGreatDoor
