/- syn.Roles, the reference's Normal, Print, SameRoles. -/
import Derived.Test.YtmpanikeeeoikaaDoorSynMore
namespace Go.Proofs.YtmpanikeeeoikaaDoor
open Go.RowKit Go.Shelf

theorem rolesS_two {s : St} (h : s.k = 2 ∨ s.k = 3) : rolesS s = [s.h, s.a] := by unfold rolesS; rw [if_pos h]
theorem rolesS_three {s : St} (h : s.k = 4) : rolesS s = [s.h, s.a, s.b] := by unfold rolesS; rw [if_neg (by omega), if_pos h]
theorem rolesS_one {s : St} (h : ¬ s.k = 2) (h3 : ¬ s.k = 3) (h4 : ¬ s.k = 4) : rolesS s = [s.h] := by unfold rolesS; rw [if_neg (by omega), if_neg h4]
/-- A slice whose block has just been made. -/
theorem Sl.new (w : World) (cs : List Value) (t : TypeId) (size n g : Nat) (hg : g = w.heap.size) (hl : cs.length = n * size) (hm : n ≤ maxLen) :
    Sl (w.alloc (.cells cs.toArray t)) size (.slice (some ⟨g, 0, none⟩) n n) n cs := by
  subst hg
  refine ⟨hl, hm, .inr ⟨w.heap.size, 0, n, rfl, Nat.le_refl _, hm, by simp, fun j u hu => ?_⟩⟩
  rw [(Blk.new w cs.toArray t).1]
  simpa using hu

theorem rl_cell {w : World} {b off : Nat} {l : List Rl} (h : ∀ j u, (l.flatMap Rl.cells)[j]? = some u → w.cell? ⟨b, off + j, none⟩ = some u) (k : Nat) (hk : k < l.length) :
    w.cell? ⟨b, off + k * 2, none⟩ = some (.string l[k].o) ∧ w.cell? ⟨b, off + k * 2 + 1, none⟩ = some (.string l[k].n) := by
  have hx : l[k]? = some l[k] := List.getElem?_eq_getElem hk
  have h0 := h _ _ ((flat_get Rl.cells 2 Rl.cells_len l k 0 (by omega) _ hx).trans rfl)
  have h1 := h _ _ ((flat_get Rl.cells 2 Rl.cells_len l k 1 (by omega) _ hx).trans rfl)
  exact ⟨h0, h1⟩
end Go.Proofs.YtmpanikeeeoikaaDoor
