/- A block that keeps its form: its cells are as many, of the same type, as they were. -/
import Derived.Test.YtomhekohcadijaaGreatDoorPartRF1
import Derived.Laws.IdiomCopy
import Derived.Shelf.GgSortFunc.InsertionK
namespace Go.Proofs.YtomhekohcadijaaGreatDoor
open Go.RowKit Go.Shelf Go.Lib Go.Sort

def ShK (w w' : World) (b : Nat) : Prop := ∀ cs t, w.heap[b]? = some (.cells cs t (0, 0)) → ∃ cs', w'.heap[b]? = some (.cells cs' t (0, 0)) ∧ cs'.size = cs.size
theorem ShK.refl (w : World) (b : Nat) : ShK w w b := fun cs _ h => ⟨cs, h, rfl⟩
theorem ShK.drewN {w w' : World} {b : Nat} (h : ShK w w' b) (n : Nat) : ShK w (w'.drewN n) b := h
theorem ShK.trans {a b c : World} {g : Nat} (h : ShK a b g) (k : ShK b c g) : ShK a c g := fun cs t e => by
  obtain ⟨c1, e1, s1⟩ := h cs t e
  obtain ⟨c2, e2, s2⟩ := k c1 t e1
  exact ⟨c2, e2, s2.trans s1⟩
theorem sh_set {w w' : World} {b g o : Nat} {v : Value} (h : ShK w w' b) : ShK w (w'.setCell ⟨g, o, none⟩ v) b := fun cs t e => by
  obtain ⟨c1, e1, s1⟩ := h cs t e
  by_cases hg : g = b
  · subst hg
    refine ⟨c1.setIfInBounds o v, ?_, by simpa using s1⟩
    simp [World.setCell, Array.getElem?_modify, e1]
  · refine ⟨c1, ?_, s1⟩
    simp [World.setCell, Array.getElem?_modify, hg, e1]
theorem sh_sets {w : World} {b g : Nat} : ∀ (vs : List Value) (o : Nat) (w' : World), ShK w w' b → ShK w (w'.setCells g o vs) b
  | [], _, _, h => h
  | v :: vs, o, w', h => by
    rw [World.setCells]
    exact sh_sets vs (o + 1) _ (sh_set h)
theorem sh_sort {α : Type} [Inhabited α] (enc : α → List Value) (k : Nat) (w : World) (blk off n : Nat) (d : Array α) (os : Array Obj) (b : Nat) : ShK w (sortWorldK enc k w blk off n d os) b := fun cs t e => by
  have hlt : b < w.heap.size := (Array.getElem?_eq_some_iff.1 e).1
  have e' : (sortWorldK enc k w blk off n d os).heap[b]? = (w.heap.modify blk (onCells (putCells id off (flatK enc k d))))[b]? := by
    show ((w.heap.modify blk _) ++ os)[b]? = _
    rw [Array.getElem?_append_left (by simpa using hlt)]
  rw [e']
  by_cases hb : blk = b
  · subst hb
    refine ⟨putCells id off (flatK enc k d) cs, ?_, by simp [putCells]⟩
    simp [Array.getElem?_modify, e, onCells]
  · refine ⟨cs, ?_, rfl⟩
    simp [Array.getElem?_modify, hb, e]
theorem own_of_sh {w w' : World} {base g cap size n : Nat} {e : TypeId} {cur : Array Value} {xs : List Value} (hg : w.heap[g]? = some (.cells cur e (0, 0))) (hs : cur.size = cap * size) (hsh : ShK w w' g) (hb : base ≤ g) (hn : n ≤ cap) (hm : cap ≤ maxLen)
    (hl : xs.length = n * size) (hx : ∀ j u, xs[j]? = some u → w'.cell? ⟨g, 0 + j, none⟩ = some u) : w'.ownsRow base e size (.slice (some ⟨g, 0, none⟩) n cap) n xs := by
  obtain ⟨c1, e1, s1⟩ := hsh cur e hg
  refine ⟨hl, .inr ⟨g, cap, c1, rfl, hb, e1, hn, hm, s1.trans hs, ?_⟩⟩
  have hle : n * size ≤ c1.size := by rw [s1, hs]; exact Nat.mul_le_mul_right _ hn
  refine List.ext_getElem? fun j => ?_
  by_cases hj : j < n * size
  · have hu : xs[j]? = some xs[j] := List.getElem?_eq_getElem (by omega)
    have h1 := hx j _ hu
    rw [cell_of_row _ g (0 + j) c1 e (0, 0) e1, Nat.zero_add] at h1
    rw [hu, List.getElem?_take_of_lt hj]
    simpa using h1
  · rw [List.getElem?_eq_none (by simp; omega), List.getElem?_eq_none (by omega)]
end Go.Proofs.YtomhekohcadijaaGreatDoor
