/- syn.Roles, the reference's Normal, Print, SameRoles. -/
import Derived.Test.YtmpanikeeeoikaaSynMore
namespace Go.Proofs.Ytmpanikeeeoikaa
open Go.RowKit Go.Shelf

theorem rolesS_two {s : St} (h : s.k = 2 ∨ s.k = 3) : rolesS s = [s.h, s.a] := by unfold rolesS; rw [if_pos h]
theorem rolesS_three {s : St} (h : s.k = 4) : rolesS s = [s.h, s.a, s.b] := by unfold rolesS; rw [if_neg (by omega), if_pos h]
theorem rolesS_one {s : St} (h : ¬ s.k = 2) (h3 : ¬ s.k = 3) (h4 : ¬ s.k = 4) : rolesS s = [s.h] := by unfold rolesS; rw [if_neg (by omega), if_neg h4]
/-- A slice whose block has just been made. -/
theorem Sl.new (w : World) (cs : List Value) (t : TypeId) (size n g : Nat) (hg : g = w.heap.size) (hl : cs.length = n * size) (hm : n ≤ maxLen) :
    Sl (w.alloc (.cells cs.toArray t)) size (.slice (some ⟨g, 0, none⟩) n n) n cs := by
  subst hg
  refine ⟨hl, hm, .inr ⟨w.heap.size, 0, n, rfl, Nat.le_refl _, hm, by simp, fun j u hu => ?_⟩⟩
  rw [(Blk.new w cs.toArray t).1]
  simpa using hu

theorem rl_cell {w : World} {b off : Nat} {l : List Rl} (h : ∀ j u, (l.flatMap Rl.cells)[j]? = some u → w.cell? ⟨b, off + j, none⟩ = some u) (k : Nat) (hk : k < l.length) :
    w.cell? ⟨b, off + k * 2, none⟩ = some (.string l[k].o) ∧ w.cell? ⟨b, off + k * 2 + 1, none⟩ = some (.string l[k].n) := by
  have hx : l[k]? = some l[k] := List.getElem?_eq_getElem hk
  have h0 := h _ _ ((flat_get Rl.cells 2 Rl.cells_len l k 0 (by omega) _ hx).trans rfl)
  have h1 := h _ _ ((flat_get Rl.cells 2 Rl.cells_len l k 1 (by omega) _ hx).trans rfl)
  exact ⟨h0, h1⟩
set_option maxRecDepth 100000 in
set_option maxHeartbeats 1000000 in
theorem ref3_SameRoles_same (va vb : Value) (l : List Rl) (w : World) (ha : Sl w 2 va l.length (l.flatMap Rl.cells)) (hb : Sl w 2 vb l.length (l.flatMap Rl.cells)) :
    Calls Try.prog 51 #[va, vb] w fun e w' => e = .returned (.bool true) ∧ ∃ n, w' = w.drewN n := by
  have hmax := ha.max
  have hEq := role_eql
  have hNe := role_neq
  by_cases h0 : 0 < l.length
  · obtain ⟨b1, o1, c1, rfl, hc1, hm1, _, hx1⟩ := ha.pos h0
    obtain ⟨b2, o2, c2, rfl, hc2, hm2, _, hx2⟩ := hb.pos h0
    have HX1 := Lib.hid hx1
    have HX2 := Lib.hid hx2
    clear ha hb hx1 hx2
    have hne : ((l.length : Int) != (l.length : Int)) = false := by simp
    go_enter Try.func51, Try.ntmps51
    go_wp2
    go_loopw [13] (fun i wr => ∃ k n : Nat, k ≤ l.length ∧ i = .int .i64 k ∧ wr = w.drewN n) (fun i _ => l.length - (intOf i).toNat)
    case atStart => exact ⟨0, 0, by omega, rfl, rfl⟩
    case round =>
      obtain ⟨k, n, hk, rfl, rfl⟩ := hrel
      by_cases hlt : k < l.length
      · obtain ⟨p0, p1⟩ := rl_cell HX1.out k hlt
        obtain ⟨q0, q1⟩ := rl_cell HX2.out k hlt
        have d1 : (!eqRl ⟨l[k].o, l[k].n⟩ ⟨l[k].o, l[k].n⟩) = false := by simp [eqRl]
        go_wp2_with fail
        go_quiet (fail)
        go_wp2
        exact ⟨⟨k + 1, n + nq, by omega, by go_num, rfl⟩, by simp [intOf]; omega⟩
      · go_wp2
        go_ret
        exact ⟨rfl, n, rfl⟩
  · obtain ⟨a1, c1, rfl⟩ := ha.form
    obtain ⟨a2, c2, rfl⟩ := hb.form
    obtain rfl : l = [] := List.eq_nil_of_length_eq_zero (by omega)
    clear ha hb h0 hmax
    go_enter Try.func51, Try.ntmps51
    go_wp2
    go_loopw [13] (fun i wr => i = .int .i64 0 ∧ wr = w) (fun _ _ => 0)
    case atStart => exact ⟨rfl, rfl⟩
    case round =>
      obtain ⟨rfl, rfl⟩ := hrel
      go_wp2
      go_ret
      exact ⟨rfl, 0, rfl⟩
end Go.Proofs.Ytmpanikeeeoikaa
