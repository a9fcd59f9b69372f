/- Roles and statements among a law's arguments: opened to data, and read again in a later world. Rows of statements among a law's arguments: opened. Policies among a law's arguments: opened. Rows among a law's arguments, whose elements are read as some data: opened, with their weights. Verdicts among a law's arguments: opened. -/
import Derived.Test.YtomhekohcadijaaGreatDoorPartRF15
import Derived.ProofKit
import Derived.OpenShut
import Derived.ChangeMaps5
import Derived.Deep.Strs
import Derived.Test.YtomhekohcadijaaGreatDoorPartRF9
import Derived.Deep.Slices
import Derived.Test.YtomhekohcadijaaGreatDoorPartRF16
import Derived.SizedLaws
import Derived.Test.YtomhekohcadijaaGreatDoorPartRF28
namespace Go.Proofs.YtomhekohcadijaaGreatDoor
open Go.ChangeShapes Go.WideShapes Go.ChangeAt Go.RowKit

section
variable {H : Type} {enc : TypeId × Value → H} {w : World} {base fuel n : Nat} {sp : Nat → Bool} {held : Bool} {cs : List Value} {x : DataW H × List MemPlace} {v : Value} {d : DataW H} {ps : List MemPlace}
def dStr (H : Type) (s : ByteArray) : DataW H := .lit (.string s.data.toList)
end
end Go.Proofs.YtomhekohcadijaaGreatDoor
namespace Go.Proofs.YtomhekohcadijaaGreatDoor
open Go.ChangeShapes Go.WideShapes Go.ChangeAt Go.RowKit Go.Deep

theorem laid_out : laidOutB Tryz.prog = true := by kernel_rfl
end Go.Proofs.YtomhekohcadijaaGreatDoor
namespace Go.Proofs.YtomhekohcadijaaGreatDoor
open Go.ChangeShapes Go.WideShapes Go.ChangeAt Go.RowKit Go.Deep

section
variable {H : Type} {enc : TypeId × Value → H} {w : World} {base : Nat} {held : Bool}
instance : Inhabited Rl := ⟨noR⟩
end
end Go.Proofs.YtomhekohcadijaaGreatDoor
namespace Go.Proofs.YtomhekohcadijaaGreatDoor
open Go.ChangeShapes Go.WideShapes Go.ChangeAt Go.RowKit Go.Deep

section
variable {H : Type} {enc : TypeId × Value → H} {w : World} {base : Nat} {held : Bool}
end
end Go.Proofs.YtomhekohcadijaaGreatDoor
namespace Go.Proofs.YtomhekohcadijaaGreatDoor
open Go.ChangeShapes Go.WideShapes Go.ChangeAt Go.RowKit Go.Deep

section
variable {H : Type} {enc : TypeId × Value → H} {w : World} {base : Nat} {held : Bool}
def VZ.ok (w : World) (z : VZ) : Prop := SlA w 9 z.v z.d.st.length (z.d.st.flatMap St.cells) ∧ allLe z.d.st 9223372036854775807
set_option maxRecDepth 100000 in
theorem wf_hi {k : Int} (h : (Lit.int .i64 k).wf = true) : k ≤ 9223372036854775807 := by
  rw [Lit.wf, Bool.and_eq_true] at h
  have e2 : IntKind.i64.max = 9223372036854775807 := by decide
  rw [← e2]
  exact of_decide_eq_true h.2
set_option maxRecDepth 100000 in
theorem trod_fault {fuel : Nat} {cs : List Value} {x : DataW H × List MemPlace} (h : DataW.trod enc Tryz.prog w base (fun _ => true) held fuel 48 cs = some x) :
    ∃ y l c : Int, cs = [.int .i64 y, .int .i64 l, .int .i64 c] ∧ y ≤ 9223372036854775807 ∧ l ≤ 9223372036854775807 ∧ c ≤ 9223372036854775807 := by
  obtain ⟨xs, n, _, rfl, hl, hlen, hf⟩ := DataW.trod_struct Tryz.underlying48 h
  have hc : Tryz.prog.cellsOf 48 = 3 := by kernel_rfl
  have hi : Tryz.prog.cellsOf 3 = 1 := by kernel_rfl
  have he : Tryz.prog.cellsOf 46 = 1 := by kernel_rfl
  rw [hc] at hl
  match cs, hl with
  | [c0, c1, c2], _ =>
    have f0 : DataW.trod enc Tryz.prog w base (fun _ => true) held n 46 [c0] = xs[0]? := by simpa [he] using hf 0 _ rfl
    have f1 : DataW.trod enc Tryz.prog w base (fun _ => true) held n 3 [c1] = xs[1]? := by simpa [hi, he] using hf 1 _ rfl
    have f2 : DataW.trod enc Tryz.prog w base (fun _ => true) held n 3 [c2] = xs[2]? := by simpa [hi, he] using hf 2 _ rfl
    match xs, hlen with
    | [y0, y1, y2], _ =>
      simp only [List.getElem?_cons_zero, List.getElem?_cons_succ] at f0 f1 f2
      obtain ⟨k0, e0, _, w0⟩ := DataW.trod_int Tryz.underlying46 f0
      obtain ⟨k1, e1, _, w1⟩ := DataW.trod_int Tryz.underlying3 f1
      obtain ⟨k2, e2, _, w2⟩ := DataW.trod_int Tryz.underlying3 f2
      simp only [List.cons.injEq, and_true] at e0 e1 e2
      subst e0 e1 e2
      exact ⟨k0, k1, k2, rfl, wf_hi w0, wf_hi w1, wf_hi w2⟩
set_option maxRecDepth 100000 in
theorem open_fault {r : Reach} {b0 : Nat} {v : Value} {d : DataW H} {ps : List MemPlace} (hval : Value.okWide Tryz.prog w r b0 48 v) (hd : DataW.Trod enc Tryz.prog w base (fun _ => true) held 48 v d ps) :
    ∃ y l c : Int, v = .agg #[.int .i64 y, .int .i64 l, .int .i64 c] ∧ y ≤ 9223372036854775807 ∧ l ≤ 9223372036854775807 ∧ c ≤ 9223372036854775807 := by
  obtain ⟨cs, rfl, _⟩ := okWide_struct Tryz.underlying48 hval
  obtain ⟨fuel, hf⟩ := hd
  obtain ⟨y, l, c, h, h1, h2, h3⟩ := trod_fault hf
  refine ⟨y, l, c, ?_, h1, h2, h3⟩
  obtain ⟨ls⟩ := cs
  simp only [Value.cells] at h
  rw [show ls = [.int .i64 y, .int .i64 l, .int .i64 c] from by simpa using h]
end
end Go.Proofs.YtomhekohcadijaaGreatDoor
