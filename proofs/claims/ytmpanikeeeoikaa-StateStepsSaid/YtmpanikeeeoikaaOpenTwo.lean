/- An array of two rows of statements among a law's arguments: opened. -/
import Derived.Test.YtmpanikeeeoikaaOpenPol
import Derived.OpenShut
namespace Go.Proofs.Ytmpanikeeeoikaa
open Go.ChangeShapes Go.WideShapes Go.ChangeAt Go.RowKit Go.Deep

section
variable {H : Type} {enc : TypeId × Value → H} {w : World} {base : Nat} {held : Bool}
theorem two_of' {cs : List Value} (h : cs.length = 2) : ∃ a b, cs = [a, b] := by
  match cs, h with
  | [a, b], _ => exact ⟨a, b, rfl⟩
set_option maxRecDepth 100000 in
theorem open_two {r : Reach} {b0 : Nat} {v : Value} {d : DataW H} {ps : List MemPlace} (hval : Value.okWide Try.prog w r b0 47 v) (hd : DataW.Trod enc Try.prog w base (fun _ => true) held 47 v d ps) :
    ∃ v0 v1 l m, v = .agg #[v0, v1] ∧ SlA w 9 v0 l.length (l.flatMap St.cells) ∧ allLe l 9223372036854775807 ∧ SlA w 9 v1 m.length (m.flatMap St.cells) ∧ allLe m 9223372036854775807 := by
  have hu : Try.prog.underlying 47 = some (.array 2 22) := by kernel_rfl
  unfold Value.okWide at hval
  rw [hu] at hval
  obtain ⟨cs, rfl, _, _⟩ := hval
  obtain ⟨fuel, hf⟩ := hd
  obtain ⟨xs, n, _, _, hl, hlen, hf'⟩ := DataW.trod_array hu hf
  have hc : Try.prog.cellsOf 47 = 2 := by kernel_rfl
  have h0 : Try.prog.cellsOf 22 = 1 := by kernel_rfl
  rw [hc] at hl
  obtain ⟨c0, c1, hcs⟩ := two_of' hl
  rw [hcs] at hf'
  have f0 : DataW.trod enc Try.prog w base (fun _ => true) held n 22 [c0] = xs[0]? := by simpa [h0] using hf' 0 (by decide)
  have f1 : DataW.trod enc Try.prog w base (fun _ => true) held n 22 [c1] = xs[1]? := by simpa [h0] using hf' 1 (by decide)
  match xs, hlen with
  | [y0, y1], _ =>
    simp only [List.getElem?_cons_zero, List.getElem?_cons_succ] at f0 f1
    obtain ⟨l, s0, l0⟩ := open_stsC f0
    obtain ⟨m, s1, l1⟩ := open_stsC f1
    refine ⟨c0, c1, l, m, ?_, s0, l0, s1, l1⟩
    obtain ⟨cl⟩ := cs
    simp only [Value.cells] at hcs
    have : cl = [c0, c1] := by simpa using hcs
    rw [this]
end
end Go.Proofs.Ytmpanikeeeoikaa
