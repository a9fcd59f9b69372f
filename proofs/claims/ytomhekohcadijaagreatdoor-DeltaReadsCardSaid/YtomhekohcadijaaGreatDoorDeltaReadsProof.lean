/- DeltaReads: for any two policies and any lines the law returns true, and they read as they did. No condition. -/
import Derived.Test.YtomhekohcadijaaGreatDoorPart1
import Derived.Test.YtomhekohcadijaaGreatDoorPart19
import Derived.Test.YtomhekohcadijaaGreatDoorPart20
import Derived.HandedShaped
import Derived.Test.YtomhekohcadijaaGreatDoorPart21
namespace Go.Proofs.YtomhekohcadijaaGreatDoor
open Go.ChangeShapes Go.WideShapes Go.ChangeAt Go.RowKit
open Go.ChangeMaps (open_string shut_string)

namespace deltaReads
theorem laid_met (os : Os) : laidMet Tryz.prog Rows.deltaReadsRow.laid ((laidWorld os).forCall (fun _ _ => 0) ⟨#[], #[pv nilV nilV nilV nilV, pv nilV nilV nilV nilV, .slice none 0 0], []⟩).memory :=
  laidMet_of_run' 8 (by kernel_rfl) (by kernel_rfl)
theorem reads (os : Os) {H : Type} (enc : TypeId × Value → H) : ∃ places, DataW.whole enc Tryz.prog ((laidWorld os).forCall (fun _ _ => 0) ⟨#[], #[pv nilV nilV nilV nilV, pv nilV nilV nilV nilV, .slice none 0 0], []⟩).memory Tryz.f3.params.toList Rows.deltaReadsSpec.vars false (#[pv nilV nilV nilV nilV, pv nilV nilV nilV nilV, .slice none 0 0] : Array Value).toList 8 = some ([.agg [.nil, .nil, .nil, .nil], .agg [.nil, .nil, .nil, .nil], .nil], [], places) :=
  ⟨[], by kernel_rfl⟩

set_option maxHeartbeats 800000 in
set_option maxRecDepth 100000 in
theorem lifted (os : Os) (started : os.Started) (H : Type) (enc : TypeId × Value → H) (F : Stop.Interp) :
    ReturnsInHanded {} Tryz.checked os 3 .any ((OpenSpec.ofChange Rows.deltaReadsSpec).preRow enc Tryz.prog Tryz.f3 Rows.deltaReadsRow.domain false Rows.deltaReadsRow.laid) (((OpenSpec.ofChange Rows.deltaReadsSpec).at F).post enc Tryz.prog Tryz.f3 false true false false) := by
  obtain ⟨places, hx⟩ := reads os enc
  refine returnsInHanded_of_row (C := Tryz.checked) (s := OpenSpec.ofChange Rows.deltaReadsSpec) own started (by kernel_rfl) Tryz.func3
    (witness_row_at (enc := enc) (C := Tryz.checked) false (laidWorld os) #[pv nilV nilV nilV nilV, pv nilV nilV nilV nilV, .slice none 0 0] rfl (by kernel_rfl) (by kernel_rfl) (by kernel_rfl)
      (OpenSpec.preRow_of_cond 8 hx (by kernel_rfl) (fun k hk => by cases hk) (by kernel_rfl) (laid_met os))) ?_
  intro W base args ds gs before hval0 hW _ _ _ hL hsh _
  have hval : ∀ (j : Nat) t v, Tryz.f3.params[j]? = some t → args[j]? = some v → Value.okWide Tryz.prog W .any base t v := hval0
  have hW' := hW
  obtain ⟨p, q, hA0, hV, rfl, _, _⟩ := hW
  have hA : DataW.TrodAll enc Tryz.prog W 0 (fun _ => true) true Tryz.f3.params.toList args.toList ds p := hA0
  rw [Tryz.params3] at hA hval
  obtain ⟨v0, v1, v2, d0, d1, d2, p0, p1, p2, rfl, rfl, rfl, h0, h1, h2⟩ := trodAll_three hA
  obtain ⟨rfl, rfl⟩ := trodVars_none hV
  obtain ⟨a00, a01, a02, a03, l0, g0, h0l, qs0, hv0, hp0⟩ := open_pol (hval 0 26 v0 rfl rfl) h0
  obtain ⟨a10, a11, a12, a13, l1, g1, h1l, qs1, hv1, hp1⟩ := open_pol (hval 1 26 v1 rfl rfl) h1
  obtain ⟨l2, hq2, hz2⟩ := open_strsQ (hval 2 27 v2 rfl rfl) h2
  clear hA0 hval0
  simp only [List.append_nil] at hW'
  have hlt0 : ∀ x ∈ p0, x.block < W.heap.size := fun x hx => hW'.lt x (by simp [hx])
  have hlt1 : ∀ x ∈ p1, x.block < W.heap.size := fun x hx => hW'.lt x (by simp [hx])
  have hlt2 : ∀ x ∈ p2, x.block < W.heap.size := fun x hx => hW'.lt x (by simp [hx])
  subst hv0
  subst hv1
  have hmax : maxLen = 9223372036854775807 := by decide
  refine (law32_DeltaReads a00 a01 a02 a03 a10 a11 a12 a13 v2 l0 l1 g0 h0l g1 h1l qs0 qs1 l2 W (gl_of_shaped W hsh) hp0 hp1 hq2 hz2).mono fun e W' ⟨he, hnx⟩ => ?_
  subst he
  exact ⟨_, rfl, _, _, _, [], _, [], hW', trodAll_mk1 (shut_bool Tryz.underlying4 _), trodAll_mk3 (Below.trod laid_out (by kernel_rfl) (of_decide_eq_true (by kernel_rfl)) h0 hnx hlt0) (Below.trod laid_out (by kernel_rfl) (of_decide_eq_true (by kernel_rfl)) h1 hnx hlt1) (Below.trod laid_out (by kernel_rfl) (of_decide_eq_true (by kernel_rfl)) h2 hnx hlt2), rfl, hnx.frame _, fun h => by cases h⟩

theorem said : Rows.DeltaReadsSaid :=
  OpenClaim.holds_of_cond 3 Tryz.f3 rfl rfl rfl rfl rfl rfl rfl ⟨rfl, rfl, rfl, rfl, rfl⟩ rfl rfl rfl rfl rfl (by kernel_rfl) Tryz.func3 closed
    (of_decide_eq_true (by kernel_rfl)) (by unfold Func.isWrapper; first | (rw [if_pos (by decide +kernel)]; kernel_rfl) | (rw [if_neg (by decide +kernel)]; exact ⟨rfl, rfl⟩))
    (fun os started H enc _ F => by rw [OpenClaim.pre_eq_preRow]; exact lifted os started H enc F)

theorem plain (f : FuncId) (fn : Func) (hf : Tryz.pinned.checked.prog.funcNamed "crupper/crupperlaw32.DeltaReads" = some f) (hfn : Tryz.pinned.checked.prog.funcs[f]? = some fn) :
    false = Tryz.pinned.checked.prog.looks [] ∧ ∀ (j : Nat) t, fn.params[j]? = some t → Tryz.pinned.checked.prog.wantsStandIn t = false := by
  obtain rfl : f = 3 := Option.some.inj ((show Tryz.prog.funcNamed "crupper/crupperlaw32.DeltaReads" = some 3 by kernel_rfl).symm.trans hf) |>.symm
  obtain rfl : fn = Tryz.f3 := (Option.some.inj (Tryz.func3.symm.trans hfn)).symm
  refine ⟨by kernel_rfl, fun j t ht => ?_⟩
  rw [Tryz.params3] at ht
  have hm : t = 26 ∨ t = 27 := by simpa using Array.mem_of_getElem? ht
  rcases hm with rfl | rfl
  · exact (show Tryz.prog.wantsStandIn 26 = false by kernel_rfl)
  · exact (show Tryz.prog.wantsStandIn 27 = false by kernel_rfl)
end deltaReads

theorem deltaReads_holds : Rows.DeltaReadsCardSaid :=
  Claim7.holds_tied_plain_at .later [] _ _ _ _ deltaReads.said (fun _ h => by cases h) (by kernel_rfl) (fun _ h => by cases h) deltaReads_row_tie rfl ⟨rfl, rfl⟩ (by kernel_rfl) rfl deltaReads.plain (by kernel_rfl)
#print axioms deltaReads_holds
end Go.Proofs.YtomhekohcadijaaGreatDoor
