/- Plain laws on worlds in which at most one block has been written. -/
import Derived.Test.YtmpanikeeeoikaaPlain2
namespace Go.Proofs.Ytmpanikeeeoikaa
open Go.RowKit Go.Shelf

theorem gb_setCell {w w' : World} {g o : Nat} (h : w.grownBy w' (some g)) (v : Value) : w.grownBy (w'.setCell ⟨g, o, none⟩ v) (some g) :=
  ⟨h.os, h.tape, h.output, by simpa [World.setCell] using h.size, fun k hk hne => (Below.heap_setCell _ _ _ _ (fun e => hne (by rw [e]))).trans (h.block k hk hne)⟩
theorem gb_alloc {w w' : World} {r : Option Nat} (h : w.grownBy w' r) (o : Obj) : w.grownBy (w'.alloc o) r :=
  ⟨h.os, h.tape, h.output, by have := h.size; simp; omega, fun k hk hne => (Below.heap_alloc _ _ _ (Nat.lt_of_lt_of_le hk h.size)).trans (h.block k hk hne)⟩
theorem gb_trans {a b c : World} {r : Option Nat} (h : a.grownBy b r) (k : b.grownBy c r) : a.grownBy c r :=
  ⟨k.os.trans h.os, k.tape.trans h.tape, k.output.trans h.output, Nat.le_trans h.size k.size, fun i hi hne => (k.block i (Nat.lt_of_lt_of_le hi h.size) hne).trans (h.block i hi hne)⟩
theorem gb_drewN {a b : World} {r : Option Nat} (h : a.grownBy b r) (n : Nat) : a.grownBy (b.drewN n) r := ⟨h.os, h.tape, h.output, h.size, h.block⟩
theorem gb_drew {a b : World} {r : Option Nat} (h : a.grownBy b r) : a.grownBy b.drew r := ⟨h.os, h.tape, h.output, h.size, h.block⟩
theorem gb_below {w w' : World} {g : Nat} (h : w.grownBy w' (some g)) (hg : g ≤ w.heap.size) : Below g w w' :=
  ⟨h.os, h.tape, h.output, h.size, fun k hk => h.block k (by omega) (fun e => by cases e; omega)⟩
theorem gb_of_below {w w' : World} {r : Option Nat} (h : Below w.heap.size w w') : w.grownBy w' r := grown_of_below h r
/-- A store that other blocks do not see, behind new blocks. -/
theorem gb_new {w w' : World} {r : Option Nat} (h : w.grownBy w' r) {g o : Nat} (hg : w.heap.size ≤ g) (v : Value) : w.grownBy (w'.setCell ⟨g, o, none⟩ v) r :=
  ⟨h.os, h.tape, h.output, by simpa [World.setCell] using h.size, fun k hk hne => (Below.heap_setCell _ _ _ _ (by dsimp only; omega)).trans (h.block k hk hne)⟩

theorem Blk.grown {w w' : World} {g : Nat} {cs : Array Value} {r : Option Nat} (h : Blk w g cs) (hg : w.grownBy w' r) (hne : some g ≠ r) : Blk w' g cs :=
  ⟨fun o => (World.cell?_of_block (a := ⟨g, o, none⟩) (hg.block g h.2.2 hne)).trans (h.1 o), fun o => (World.frozen?_of_block (a := ⟨g, o, none⟩) (hg.block g h.2.2 hne)).trans (h.2.1 o), Nat.lt_of_lt_of_le h.2.2 hg.size⟩
theorem setCell_other {w : World} {g g' o o' : Nat} (v : Value) (h : g ≠ g') : (w.setCell ⟨g', o', none⟩ v).cell? ⟨g, o, none⟩ = w.cell? ⟨g, o, none⟩ :=
  World.cell?_of_block (Below.heap_setCell _ _ _ _ h)
theorem setCell_frozen (w : World) (a b : Addr) (v : Value) : (w.setCell b v).frozen? a = w.frozen? a := by
  unfold World.frozen? World.setCell
  simp only [Array.getElem?_modify]
  by_cases h : b.block = a.block
  · rw [if_pos h]
    cases w.heap[a.block]? with
    | none => rfl
    | some ob => cases ob <;> rfl
  · rw [if_neg h]
/-- A block of which one cell has been written. -/
theorem Blk.set {w : World} {g : Nat} {cs : Array Value} (h : Blk w g cs) (o : Nat) (v : Value) (ho : o < cs.size) : Blk (w.setCell ⟨g, o, none⟩ v) g (cs.set o v) := by
  refine ⟨fun p => ?_, fun p => by rw [setCell_frozen]; exact h.2.1 p, by simpa [World.setCell] using h.2.2⟩
  have hv := h.1 o
  have hc : (w.cell? ⟨g, o, none⟩).isSome = true := by rw [hv]; simp [ho]
  by_cases hp : p = o
  · subst hp
    rw [cell_set_same w g p v hc]; simp
  · have h1 : (w.setCell ⟨g, o, none⟩ v).cell? ⟨g, p, none⟩ = w.cell? ⟨g, p, none⟩ := by
      cases hh : w.heap[g]? with
      | none => simp [World.cell?, hh] at hc
      | some ob =>
        cases ob with
        | cells c e fz =>
          simp [World.cell?, hh] at hc
          simp [World.cell?, World.setCell, Array.getElem?_modify, hh, Ne.symm hp]
        | _ => simp [World.cell?, hh] at hc
    rw [h1, h.1 p, Array.getElem?_set_ne ho (Ne.symm hp)]
theorem Blk.setOther {w : World} {g g' o : Nat} {cs : Array Value} (h : Blk w g cs) (v : Value) (hne : g ≠ g') : Blk (w.setCell ⟨g', o, none⟩ v) g cs :=
  ⟨fun p => (setCell_other v hne).trans (h.1 p), fun p => by rw [setCell_frozen]; exact h.2.1 p, by simpa [World.setCell] using h.2.2⟩
theorem Blk.congr {w : World} {g : Nat} {cs ds : Array Value} (h : Blk w g cs) (e : cs = ds) : Blk w g ds := e ▸ h
theorem Blk.cell {w : World} {g : Nat} {cs : Array Value} (h : Blk w g cs) (o : Nat) (v : Value) (hv : cs[o]? = some v) : w.cell? ⟨g, o, none⟩ = some v := (h.1 o).trans hv
theorem Blk.drewN {w : World} {g : Nat} {cs : Array Value} (h : Blk w g cs) (n : Nat) : Blk (w.drewN n) g cs := h
/-- Tokens (or whatever else) that lay in an earlier world lie in a later one. -/
theorem Sl.cells_later {w0 w : World} {off b : Nat} {xs : List Value} (hb : Below w0.heap.size w0 w) (hlt : b < w0.heap.size)
    (hx : ∀ j u, xs[j]? = some u → w0.cell? ⟨b, off + j, none⟩ = some u) : ∀ j u, xs[j]? = some u → w.cell? ⟨b, off + j, none⟩ = some u :=
  fun j u hu => (hb.cell (p := ⟨b, off + j, none⟩) hlt).trans (hx j u hu)
end Go.Proofs.Ytmpanikeeeoikaa
