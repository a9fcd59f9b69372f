/- Roles and statements among a law's arguments: opened to data, and read again in a later world. -/
import Derived.Test.YtmpanikeeeoikaaSynLight
import Derived.ProofKit
import Derived.OpenShut
import Derived.ChangeMaps5
import Derived.Deep.Strs
namespace Go.Proofs.Ytmpanikeeeoikaa
open Go.ChangeShapes Go.WideShapes Go.ChangeAt Go.RowKit

section
variable {H : Type} {enc : TypeId × Value → H} {w : World} {base fuel n : Nat} {sp : Nat → Bool} {held : Bool} {cs : List Value} {x : DataW H × List MemPlace} {v : Value} {d : DataW H} {ps : List MemPlace}
def dStr (H : Type) (s : ByteArray) : DataW H := .lit (.string s.data.toList)
def dRl (H : Type) (r : Rl) : DataW H := .agg [dStr H r.o, dStr H r.n]
def dSt (H : Type) (s : St) : DataW H := .agg [.lit (.int .i64 s.k), dRl H s.h, dStr H s.who, dRl H s.a, dRl H s.b, dStr H s.via]
/-- A statement whose parts are such as a world may hold. -/
def St.fits (s : St) : Prop := s.le maxLen ∧ (Lit.int IntKind.i64 s.k).wf = true

theorem two_of (h : cs.length = 2) : ∃ a b, cs = [a, b] := by
  match cs, h with
  | [a, b], _ => exact ⟨a, b, rfl⟩
theorem trod_role (h : DataW.trod enc Try.prog w base sp held fuel 28 cs = some x) : ∃ r : Rl, cs = r.cells ∧ x = (dRl H r, []) ∧ r.le maxLen := by
  obtain ⟨xs, n, _, rfl, hl, hlen, hf⟩ := DataW.trod_struct Try.underlying28 h
  have hc : Try.prog.cellsOf 28 = 2 := by kernel_rfl
  have hs : Try.prog.cellsOf 9 = 1 := by kernel_rfl
  rw [hc] at hl
  obtain ⟨a, b, rfl⟩ := two_of hl
  have f0 : DataW.trod enc Try.prog w base sp held n 9 [a] = xs[0]? := by simpa [hs] using hf 0 _ rfl
  have f1 : DataW.trod enc Try.prog w base sp held n 9 [b] = xs[1]? := by simpa [hs] using hf 1 _ rfl
  match xs, hlen with
  | [y0, y1], _ =>
    simp only [List.getElem?_cons_zero, List.getElem?_cons_succ] at f0 f1
    obtain ⟨s0, e0, g0, l0⟩ := DataW.trod_string Try.underlying9 f0
    obtain ⟨s1, e1, g1, l1⟩ := DataW.trod_string Try.underlying9 f1
    simp only [List.cons.injEq, and_true] at e0 e1
    subst e0 e1 g0 g1
    exact ⟨⟨s0, s1⟩, rfl, rfl, l0, l1⟩
theorem trod_role_mk (m : Nat) (r : Rl) (h : r.le maxLen) : DataW.trod enc Try.prog w base sp held (m + 2) 28 r.cells = some (dRl H r, []) := by
  have hs : Try.prog.cellsOf 9 = 1 := by kernel_rfl
  have hu : ∀ s : ByteArray, s.size ≤ maxLen → DataW.trod enc Try.prog w base sp held (m + 1) 9 [.string s] = some (dStr H s, []) := fun s hs => by
    simp [DataW.trod, Try.underlying9, hs, dStr]
  refine trod_struct2_mk (n := m + 1) (y0 := (dStr H r.o, [])) (y1 := (dStr H r.n, [])) Try.underlying28 (by kernel_rfl) ?_ ?_
  · rw [hs]; exact hu _ h.1
  · rw [hs]; exact hu _ h.2

theorem nine_of (h : cs.length = 9) : ∃ a b c d e f g i j, cs = [a, b, c, d, e, f, g, i, j] := by
  match cs, h with
  | [a, b, c, d, e, f, g, i, j], _ => exact ⟨a, b, c, d, e, f, g, i, j, rfl⟩
theorem trod_stmt (h : DataW.trod enc Try.prog w base sp held fuel 30 cs = some x) : ∃ s : St, cs = s.cells ∧ x = (dSt H s, []) ∧ s.fits := by
  obtain ⟨xs, n, _, rfl, hl, hlen, hf⟩ := DataW.trod_struct Try.underlying30 h
  have hc : Try.prog.cellsOf 30 = 9 := by kernel_rfl
  have hr : Try.prog.cellsOf 28 = 2 := by kernel_rfl
  have hi : Try.prog.cellsOf 3 = 1 := by kernel_rfl
  have hs : Try.prog.cellsOf 9 = 1 := by kernel_rfl
  rw [hc] at hl
  obtain ⟨c0, c1, c2, c3, c4, c5, c6, c7, c8, rfl⟩ := nine_of hl
  have f0 : DataW.trod enc Try.prog w base sp held n 3 [c0] = xs[0]? := by simpa [hi] using hf 0 _ rfl
  have f1 : DataW.trod enc Try.prog w base sp held n 28 [c1, c2] = xs[1]? := by simpa [hr] using hf 1 _ rfl
  have f2 : DataW.trod enc Try.prog w base sp held n 9 [c3] = xs[2]? := by simpa [hs] using hf 2 _ rfl
  have f3 : DataW.trod enc Try.prog w base sp held n 28 [c4, c5] = xs[3]? := by simpa [hr] using hf 3 _ rfl
  have f4 : DataW.trod enc Try.prog w base sp held n 28 [c6, c7] = xs[4]? := by simpa [hr] using hf 4 _ rfl
  have f5 : DataW.trod enc Try.prog w base sp held n 9 [c8] = xs[5]? := by simpa [hs] using hf 5 _ rfl
  match xs, hlen with
  | [y0, y1, y2, y3, y4, y5], _ =>
    simp only [List.getElem?_cons_zero, List.getElem?_cons_succ] at f0 f1 f2 f3 f4 f5
    obtain ⟨k, e0, g0, l0⟩ := DataW.trod_int Try.underlying3 f0
    obtain ⟨r1, e1, g1, l1⟩ := trod_role f1
    obtain ⟨s2, e2, g2, l2⟩ := DataW.trod_string Try.underlying9 f2
    obtain ⟨r3, e3, g3, l3⟩ := trod_role f3
    obtain ⟨r4, e4, g4, l4⟩ := trod_role f4
    obtain ⟨s5, e5, g5, l5⟩ := DataW.trod_string Try.underlying9 f5
    simp only [Rl.cells, List.cons.injEq, and_true] at e0 e1 e2 e3 e4 e5
    obtain ⟨rfl, rfl⟩ := e1
    obtain ⟨rfl, rfl⟩ := e3
    obtain ⟨rfl, rfl⟩ := e4
    subst e0 e2 e5 g0 g1 g2 g3 g4 g5
    exact ⟨⟨k, r1, s2, r3, r4, s5⟩, rfl, rfl, ⟨l1, l2, l3, l4, l5⟩, l0⟩
set_option maxRecDepth 100000 in
theorem open_stmt {r : Reach} {b0 : Nat} (hval : Value.okWide Try.prog w r b0 30 v) (hd : DataW.Trod enc Try.prog w base sp held 30 v d ps) :
    ∃ s : St, v = sv s ∧ d = dSt H s ∧ ps = [] ∧ s.fits := by
  obtain ⟨cs, rfl, _⟩ := okWide_struct Try.underlying30 hval
  obtain ⟨fuel, hf⟩ := hd
  obtain ⟨s, h, hx, hs⟩ := trod_stmt hf
  refine ⟨s, ?_, congrArg Prod.fst hx, congrArg Prod.snd hx, hs⟩
  obtain ⟨l⟩ := cs
  simp [Value.cells] at h
  rw [h]; rfl
theorem shut_stmt (s : St) (h : s.fits) : DataW.Trod enc Try.prog w base sp held 30 (sv s) (dSt H s) [] := by
  obtain ⟨⟨h1, h2, h3, h4, h5⟩, hk⟩ := h
  have hr : Try.prog.cellsOf 28 = 2 := by kernel_rfl
  have hi : Try.prog.cellsOf 3 = 1 := by kernel_rfl
  have hs : Try.prog.cellsOf 9 = 1 := by kernel_rfl
  have hu : ∀ s : ByteArray, s.size ≤ maxLen → DataW.trod enc Try.prog w base sp held 2 9 [.string s] = some (dStr H s, []) := fun s hs => by
    simp [DataW.trod, Try.underlying9, hs, dStr]
  have hn : DataW.trod enc Try.prog w base sp held 2 3 [.int .i64 s.k] = some (.lit (.int .i64 s.k), []) := trod_int_mk 1 Try.underlying3 hk
  refine ⟨3, ?_⟩
  have := trod_struct_mk (enc := enc) (w := w) (base := base) (spare := sp) (held := held) (n := 2) (cs := s.cells)
    (xs := [(.lit (.int .i64 s.k), []), (dRl H s.h, []), (dStr H s.who, []), (dRl H s.a, []), (dRl H s.b, []), (dStr H s.via, [])]) Try.underlying30 (by kernel_rfl) (by
      simp only [List.mapM_cons, List.mapM_nil, hr, hi, hs]
      have e1 := trod_role_mk (enc := enc) (w := w) (base := base) (sp := sp) (held := held) 0 s.h h1
      have e3 := trod_role_mk (enc := enc) (w := w) (base := base) (sp := sp) (held := held) 0 s.a h3
      have e4 := trod_role_mk (enc := enc) (w := w) (base := base) (sp := sp) (held := held) 0 s.b h4
      simp only [Rl.cells] at e1 e3 e4
      simp [St.cells, hn, hu _ h2, hu _ h5, e1, e3, e4])
  show DataW.trod enc Try.prog w base sp held 3 30 s.cells = some (dSt H s, [])
  simpa [dSt] using this
end
end Go.Proofs.Ytmpanikeeeoikaa
