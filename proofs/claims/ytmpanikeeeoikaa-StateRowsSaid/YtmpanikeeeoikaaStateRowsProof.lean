/- StateRows: for any two rows of statements and any statement the law returns true, and they read as they did. No condition. -/
import Derived.Test.YtmpanikeeeoikaaRows
import Derived.Test.YtmpanikeeeoikaaLaw10R
import Derived.Test.YtmpanikeeeoikaaOpenRow
import Derived.HandedShaped
import Derived.ProofKit
namespace Go.Proofs.Ytmpanikeeeoikaa
open Go.ChangeShapes Go.WideShapes Go.ChangeAt Go.RowKit

namespace stateRows
theorem own : ownKnob Try.prog.godebug = none := by kernel_rfl
set_option maxHeartbeats 800000 in
set_option maxRecDepth 100000 in
theorem lifted (os : Os) (started : os.Started) (H : Type) (enc : TypeId × Value → H) :
    ReturnsInHanded {} Try.checked os 5 .any (Rows.stateRowsSpec.pre6 enc Try.prog Try.f5 Rows.stateRowsRow.domain false) (Rows.stateRowsSpec.post enc Try.prog Try.f5 false true false false) := by
  refine returnsInHanded_of_change_shaped (C := Try.checked) own started (by kernel_rfl) Try.func5
    (ChangeSpec.witness6 (enc := enc) (C := Try.checked) false ⟨#[], #[.slice none 0 0, .slice none 0 0, sv noS], []⟩ 8 (by kernel_rfl) (by kernel_rfl) (by kernel_rfl) (by kernel_rfl)) ?_
  intro W base args ds gs before hval0 hW _ _ _ _
  have hval : ∀ (j : Nat) t v, Try.f5.params[j]? = some t → args[j]? = some v → Value.okWide Try.prog W .any base t v := hval0
  have hW' := hW
  obtain ⟨p, q, hA0, hV, rfl, _, _⟩ := hW
  have hA : DataW.TrodAll enc Try.prog W 0 (fun _ => true) true Try.f5.params.toList args.toList ds p := hA0
  rw [Try.params5] at hA hval
  obtain ⟨v0, v1, v2, d0, d1, d2, p0, p1, p2, rfl, rfl, rfl, h0, h1, h2⟩ := trodAll_three hA
  obtain ⟨rfl, rfl⟩ := trodVars_none hV
  obtain ⟨l, ha, hl⟩ := open_sts (hval 0 22 v0 rfl rfl) h0
  obtain ⟨m, hb, hm⟩ := open_sts (hval 1 22 v1 rfl rfl) h1
  obtain ⟨s, rfl, rfl, rfl, hs⟩ := open_stmt (hval 2 30 v2 rfl rfl) h2
  clear hA0 hval0
  simp only [List.append_nil] at hW'
  have hlt0 : ∀ x ∈ p0, x.block < W.heap.size := fun x hx => hW'.lt x (by simp [hx])
  have hlt1 : ∀ x ∈ p1, x.block < W.heap.size := fun x hx => hW'.lt x (by simp [hx])
  have hmax : maxLen = 9223372036854775807 := by decide
  refine (law10_StateRows v0 v1 l m s W ha hb (fun x hx => by have := (hl x hx).1; rw [hmax] at this; exact this) (fun x hx => by have := (hm x hx).1; rw [hmax] at this; exact this) (by have := hs.1; rw [hmax] at this; exact this)).mono fun e W' ⟨he, hnx⟩ => ?_
  subst he
  exact ⟨_, rfl, _, _, _, [], _, [], hW', trodAll_mk1 (shut_bool Try.underlying4 _), trodAll_mk3 (Below.trod laid_out (by kernel_rfl) (of_decide_eq_true (by kernel_rfl)) h0 hnx hlt0) (Below.trod laid_out (by kernel_rfl) (of_decide_eq_true (by kernel_rfl)) h1 hnx hlt1) (shut_stmt s hs), rfl, hnx.frame _, fun h => by cases h⟩
end stateRows

theorem stateRows_holds : Rows.StateRowsSaid :=
  OpenClaim.holds_of_wide 5 Try.f5 rfl rfl rfl rfl rfl rfl rfl ⟨rfl, rfl, rfl, rfl, rfl⟩ rfl rfl rfl rfl rfl (by kernel_rfl) Try.func5 (by kernel_rfl)
    (of_decide_eq_true (by kernel_rfl)) (by unfold Func.isWrapper; first | (rw [if_pos (by decide +kernel)]; kernel_rfl) | (rw [if_neg (by decide +kernel)]; exact ⟨rfl, rfl⟩))
    (fun os started H enc _ => stateRows.lifted os started H enc)
#print axioms stateRows_holds
end Go.Proofs.Ytmpanikeeeoikaa
