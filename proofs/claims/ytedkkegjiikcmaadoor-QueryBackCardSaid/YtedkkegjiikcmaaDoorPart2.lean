/- syn.Right returns whether a statement may be, for every statement of texts that are not too long. -/
import Derived.Test.YtedkkegjiikcmaaDoorPart1
namespace Go.Proofs.YtedkkegjiikcmaaDoor
open Go.RowKit Go.Shelf

theorem toList_inj {a c : ByteArray} : a.toList = c.toList ↔ a = c := by rw [toList_bl, toList_bl]; exact bl_inj
theorem beq_str (a c : ByteArray) : (a.toList == c.toList) = decide (a = c) := by
  rw [toList_bl, toList_bl, Bool.eq_iff_iff]
  exact beq_iff_eq.trans (bl_inj.trans decide_eq_true_iff.symm)
set_option maxHeartbeats 1000000 in
theorem role_equalIn (d : Nat) (a b c e : ByteArray) (w : World) : (Op.equalIn (d + 2) 29 (.agg #[.string a, .string b]) (.agg #[.string c, .string e])).run Tryd.prog w = .ok (eqRl ⟨a, b⟩ ⟨c, e⟩) w := by
  have hS : Tryd.prog.underlying 29 = some (.struct (Tryd.prog.fieldsOf 29)) := by kernel_rfl
  have hp : Tryd.prog.stoodInHeld 29 = false := by kernel_rfl
  rw [run_equalIn_agg w (d + 1) 29 _ _ hS hp]
  simp only [Program.fieldsOf, Tryd.underlying29]
  go_simp
  simp only [toList_inj]
  by_cases h1 : a = c <;> by_cases h2 : b = e <;> simp [h1, h2, eqRl]
theorem role_eql (a b c e : ByteArray) (w : World) : (binOp .eql 29 (.agg #[.string a, .string b]) (.agg #[.string c, .string e])).run Tryd.prog w = .ok (.bool (eqRl ⟨a, b⟩ ⟨c, e⟩)) w := by
  rw [run_eql_struct, show (10000 : Nat) = 9998 + 2 from rfl, role_equalIn 9998]
  rfl
theorem role_neq (a b c e : ByteArray) (w : World) : (binOp .neq 29 (.agg #[.string a, .string b]) (.agg #[.string c, .string e])).run Tryd.prog w = .ok (.bool (!eqRl ⟨a, b⟩ ⟨c, e⟩)) w := by
  rw [run_neq_struct, show (10000 : Nat) = 9998 + 2 from rfl, role_equalIn 9998]
  rfl
end Go.Proofs.YtedkkegjiikcmaaDoor
