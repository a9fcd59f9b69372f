/- StateSteps: for any policy, any two rows of statements and any statement the law returns true, and they read as they did. No condition. -/
import Derived.Test.YtmpanikeeeoikaaRows
import Derived.Test.YtmpanikeeeoikaaLaw10T
import Derived.Test.YtmpanikeeeoikaaOpenTwo
import Derived.HandedShaped
import Derived.ProofKit
namespace Go.Proofs.Ytmpanikeeeoikaa
open Go.ChangeShapes Go.WideShapes Go.ChangeAt Go.RowKit

namespace stateSteps
theorem own : ownKnob Try.prog.godebug = none := by kernel_rfl
set_option maxHeartbeats 800000 in
set_option maxRecDepth 100000 in
theorem lifted (os : Os) (started : os.Started) (H : Type) (enc : TypeId × Value → H) :
    ReturnsInHanded {} Try.checked os 6 .any (Rows.stateStepsSpec.pre6 enc Try.prog Try.f6 Rows.stateStepsRow.domain false) (Rows.stateStepsSpec.post enc Try.prog Try.f6 false true false false) := by
  refine returnsInHanded_of_change_shaped (C := Try.checked) own started (by kernel_rfl) Try.func6
    (ChangeSpec.witness6 (enc := enc) (C := Try.checked) false ⟨#[], #[pv nilV nilV nilV nilV, .agg #[nilV, nilV], sv noS], []⟩ 8 (by kernel_rfl) (by kernel_rfl) (by kernel_rfl) (by kernel_rfl)) ?_
  intro W base args ds gs before hval0 hW _ _ _ _
  have hval : ∀ (j : Nat) t v, Try.f6.params[j]? = some t → args[j]? = some v → Value.okWide Try.prog W .any base t v := hval0
  have hW' := hW
  obtain ⟨p, q, hA0, hV, rfl, _, _⟩ := hW
  have hA : DataW.TrodAll enc Try.prog W 0 (fun _ => true) true Try.f6.params.toList args.toList ds p := hA0
  rw [Try.params6] at hA hval
  obtain ⟨v0, v1, v2, d0, d1, d2, p0, p1, p2, rfl, rfl, rfl, h0, h1, h2⟩ := trodAll_three hA
  obtain ⟨rfl, rfl⟩ := trodVars_none hV
  obtain ⟨a0, a1, a2, a3, l, g, h, qs, hv, hp⟩ := open_pol (hval 0 26 v0 rfl rfl) h0
  obtain ⟨c0, c1, m, n, hv1, hb, hm, hbn, hmn⟩ := open_two (hval 1 47 v1 rfl rfl) h1
  obtain ⟨s, rfl, rfl, rfl, hs⟩ := open_stmt (hval 2 30 v2 rfl rfl) h2
  clear hA0 hval0
  simp only [List.append_nil] at hW'
  have hlt0 : ∀ x ∈ p0, x.block < W.heap.size := fun x hx => hW'.lt x (by simp [hx])
  have hlt1 : ∀ x ∈ p1, x.block < W.heap.size := fun x hx => hW'.lt x (by simp [hx])
  subst hv hv1
  refine (law10_StateSteps a0 a1 a2 a3 c0 c1 l m n g h qs s W hp hb hbn hm hmn (le_max hs)).mono fun e W' ⟨he, hnx⟩ => ?_
  subst he
  exact ⟨_, rfl, _, _, _, [], _, [], hW', trodAll_mk1 (shut_bool Try.underlying4 _), trodAll_mk3 (Below.trod laid_out (by kernel_rfl) (of_decide_eq_true (by kernel_rfl)) h0 hnx hlt0) (Below.trod laid_out (by kernel_rfl) (of_decide_eq_true (by kernel_rfl)) h1 hnx hlt1) (shut_stmt s hs), rfl, hnx.frame _, fun h => by cases h⟩
end stateSteps

theorem stateSteps_holds : Rows.StateStepsSaid :=
  OpenClaim.holds_of_wide 6 Try.f6 rfl rfl rfl rfl rfl rfl rfl ⟨rfl, rfl, rfl, rfl, rfl⟩ rfl rfl rfl rfl rfl (by kernel_rfl) Try.func6 (by kernel_rfl)
    (of_decide_eq_true (by kernel_rfl)) (by unfold Func.isWrapper; first | (rw [if_pos (by decide +kernel)]; kernel_rfl) | (rw [if_neg (by decide +kernel)]; exact ⟨rfl, rfl⟩))
    (fun os started H enc _ => stateSteps.lifted os started H enc)
#print axioms stateSteps_holds
end Go.Proofs.Ytmpanikeeeoikaa
