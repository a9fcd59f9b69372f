/- Plain laws on blocks that a call made and that stand whole behind other calls. -/
import Derived.Test.YtmpanikeeeoikaaPlain
import Derived.Deep.QuietTactic
import Derived.BigQuiet
namespace Go.Proofs.Ytmpanikeeeoikaa
open Go.RowKit Go.Shelf

/-- A block of cells that stands whole in a world. -/
def Blk (w : World) (g : Nat) (cs : Array Value) : Prop := (∀ o, w.cell? ⟨g, o, none⟩ = cs[o]?) ∧ (∀ o, w.frozen? ⟨g, o, none⟩ = false) ∧ g < w.heap.size
theorem blk_of {w : World} {g : Nat} {cs : Array Value} {t : TypeId} (h : w.heap[g]? = some (.cells cs t (0, 0))) : Blk w g cs :=
  ⟨fun o => cell_of_row w g o cs t (0, 0) h, fun o => by simp [World.frozen?, h], (Array.getElem?_eq_some_iff.1 h).1⟩
theorem Blk.below {w w' : World} {g : Nat} {cs : Array Value} (h : Blk w g cs) (hb : Below w.heap.size w w') : Blk w' g cs :=
  ⟨fun o => (hb.cell (p := ⟨g, o, none⟩) h.2.2).trans (h.1 o), fun o => (hb.frozen (p := ⟨g, o, none⟩) h.2.2).trans (h.2.1 o), Nat.lt_of_lt_of_le h.2.2 hb.size⟩
theorem Blk.alloc {w : World} {g : Nat} {cs : Array Value} (h : Blk w g cs) (o : Obj) : Blk (w.alloc o) g cs := h.below ((Below.refl _ _).alloc (Nat.le_refl _) o)
theorem Blk.new (w : World) (cs : Array Value) (t : TypeId) : Blk (w.alloc (.cells cs t)) w.heap.size cs := blk_of (heap_new1 _ _)
theorem keep1 {w w' : World} {c1 : Array Value} {t1 : TypeId} (hb : Below (w.alloc (.cells c1 t1)).heap.size (w.alloc (.cells c1 t1)) w') : Blk w' w.heap.size c1 :=
  (Blk.new w c1 t1).below hb
theorem keep2 {w w' : World} {c1 c2 : Array Value} {t1 t2 : TypeId} (hb : Below ((w.alloc (.cells c1 t1)).alloc (.cells c2 t2)).heap.size ((w.alloc (.cells c1 t1)).alloc (.cells c2 t2)) w') :
    Blk w' w.heap.size c1 ∧ Blk w' (w.heap.size + 1) c2 :=
  ⟨((Blk.new w c1 t1).alloc _).below hb, by have := (Blk.new (w.alloc (.cells c1 t1)) c2 t2).below hb; simpa using this⟩

/-- A world in which all that lay in w lies as it lay. -/
structure Nr (w : World) where
  x : World
  h : Below w.heap.size w x
instance (w : World) : Inhabited (Nr w) := ⟨⟨w, Below.refl _ _⟩⟩
/-- A region that draws its order, whose operations read and whose callees make memory at most: walked once, in the text's order. -/
theorem region_near {P : Program} {id : Nat} {Q : Exit → Act → World → Prop} {a : Act} {w : World} {l : List Oper} (hm : P.follows .mixedOrders = true) (hB : Region.lexB .any l.toArray = true)
    (h : wpQuiet P l.toArray (fun w' => ∃ p : Nr w, w' = p.x) (fun a' => ∀ w', (∃ p : Nr w, w' = p.x) → Q .normal a' w') l a) : (Code.region id l.toArray true).wp P Q a w :=
  wp_region_quiet (C := fun w' => ∃ p : Nr w, w' = p.x) hm hB ⟨⟨w.drew, below_drew (Below.refl _ _)⟩, rfl⟩ (by simpa using h)
theorem Calls.near {P : Program} {f : FuncId} {args : Array Value} {w : World} {p : Nr w} {v : Value}
    (h : Calls P f args p.x fun e w' => e = .returned v ∧ Below p.x.heap.size p.x w') : Calls P f args p.x fun e w'' => e = .returned v ∧ ∃ q : Nr w, w'' = q.x :=
  h.mono fun _ w' ⟨he, hb⟩ => ⟨he, ⟨w', p.h.trans (hb.mono p.h.size)⟩, rfl⟩
theorem Blk.near {w : World} {g : Nat} {cs : Array Value} (h : Blk w g cs) : ∀ (p : Nr w) (o : Nat), p.x.cell? ⟨g, o, none⟩ = cs[o]? := fun p o => (h.below p.h).1 o
end Go.Proofs.Ytmpanikeeeoikaa
