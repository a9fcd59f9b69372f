/- The reference's Alike is true of two slices that read as the same tokens. -/
import Derived.Test.YtakpahlgbcgnmaaRef02Tok
namespace Go.Proofs.Ytakpahlgbcgnmaa
open Go.RowKit Go.Shelf

theorem tok_cell {w : World} {b off : Nat} {l : List Tok} (h : ∀ j u, (l.flatMap Tok.cells)[j]? = some u → w.cell? ⟨b, off + j, none⟩ = some u) (k : Nat) (hk : k < l.length) :
    w.cell? ⟨b, off + k * 3, none⟩ = some (.int .i64 l[k].kind) ∧ w.cell? ⟨b, off + k * 3 + 1, none⟩ = some (.string ⟨l[k].text.toArray⟩) ∧ w.cell? ⟨b, off + k * 3 + 2, none⟩ = some (.int .i64 l[k].col) := by
  have hx : l[k]? = some l[k] := List.getElem?_eq_getElem hk
  have h0 := h _ _ ((flat_get Tok.cells 3 Tok.cells_len l k 0 (by omega) _ hx).trans rfl)
  have h1 := h _ _ ((flat_get Tok.cells 3 Tok.cells_len l k 1 (by omega) _ hx).trans rfl)
  have h2 := h _ _ ((flat_get Tok.cells 3 Tok.cells_len l k 2 (by omega) _ hx).trans rfl)
  exact ⟨h0, h1, h2⟩

set_option maxRecDepth 100000 in
set_option maxHeartbeats 1000000 in
theorem ref2_Alike_same (va vb : Value) (l : List Tok) (w : World) (ha : Sl w 3 va l.length (l.flatMap Tok.cells)) (hb : Sl w 3 vb l.length (l.flatMap Tok.cells)) :
    Calls Try.prog 6 #[va, vb, .bool true] w fun e w' => e = .returned (.bool true) ∧ ∃ n, w' = w.drewN n := by
  have hmax := ha.max
  by_cases h0 : 0 < l.length
  · obtain ⟨b1, o1, c1, rfl, hc1, hm1, _, hx1⟩ := ha.pos h0
    obtain ⟨b2, o2, c2, rfl, hc2, hm2, _, hx2⟩ := hb.pos h0
    have HX1 := Lib.hid hx1
    have HX2 := Lib.hid hx2
    clear ha hb hx1 hx2
    have hne : ((l.length : Int) != (l.length : Int)) = false := by simp
    go_enter Try.func6, Try.ntmps6
    go_wp2
    go_loopw [15] (fun i wr => ∃ k n : Nat, k ≤ l.length ∧ i = .int .i64 k ∧ wr = w.drewN n) (fun i _ => l.length - (intOf i).toNat)
    case atStart => exact ⟨0, 0, by omega, rfl, rfl⟩
    case round =>
      obtain ⟨k, n, hk, rfl, rfl⟩ := hrel
      by_cases hlt : k < l.length
      · obtain ⟨p0, p1, p2⟩ := tok_cell HX1.out k hlt
        obtain ⟨q0, q1, q2⟩ := tok_cell HX2.out k hlt
        have d1 : (l[k].kind != l[k].kind) = false := by simp
        have d3 : (l[k].col != l[k].col) = false := by simp
        go_wp2_with fail
        go_quiet (fail)
        go_wp2
        exact ⟨⟨k + 1, n + nq, by omega, by go_num, rfl⟩, by simp [intOf]; omega⟩
      · go_wp2
        go_ret
        exact ⟨rfl, n, rfl⟩
  · obtain ⟨a1, c1, rfl⟩ := ha.form
    obtain ⟨a2, c2, rfl⟩ := hb.form
    obtain rfl : l = [] := List.eq_nil_of_length_eq_zero (by omega)
    clear ha hb h0 hmax
    go_enter Try.func6, Try.ntmps6
    go_wp2
    go_loopw [15] (fun i wr => i = .int .i64 0 ∧ wr = w) (fun _ _ => 0)
    case atStart => exact ⟨rfl, rfl⟩
    case round =>
      obtain ⟨rfl, rfl⟩ := hrel
      go_wp2
      go_ret
      exact ⟨rfl, 0, rfl⟩
end Go.Proofs.Ytakpahlgbcgnmaa
