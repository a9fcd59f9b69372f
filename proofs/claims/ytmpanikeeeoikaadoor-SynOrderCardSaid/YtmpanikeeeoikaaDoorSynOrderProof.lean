/- SynOrder: for any two statements and every row of statements the law returns true, and they read as they did. No condition. -/
import Derived.Test.YtmpanikeeeoikaaDoorLaidW
import Derived.Test.YtmpanikeeeoikaaDoorLaw03O
import Derived.Test.YtmpanikeeeoikaaDoorOpenRow
import Derived.HandedShaped
namespace Go.Proofs.YtmpanikeeeoikaaDoor
open Go.ChangeShapes Go.WideShapes Go.ChangeAt Go.RowKit
open Go.ChangeMaps (open_string shut_string)

namespace synOrder
theorem laid_met (os : Os) : laidMet Tryd.prog Rows.synOrderRow.laid ((laidWorld os).forCall (fun _ _ => 0) ⟨#[], #[sv noS, sv noS, .slice none 0 0], []⟩).memory :=
  laidMet_of_run' 8 (by kernel_rfl) (by kernel_rfl)
theorem reads (os : Os) {H : Type} (enc : TypeId × Value → H) : ∃ places, DataW.whole enc Tryd.prog ((laidWorld os).forCall (fun _ _ => 0) ⟨#[], #[sv noS, sv noS, .slice none 0 0], []⟩).memory Tryd.f3.params.toList Rows.synOrderSpec.vars false #[sv noS, sv noS, .slice none 0 0].toList 8 = some ([dSt H noS, dSt H noS, .nil], [], places) :=
  ⟨[], by kernel_rfl⟩

set_option maxRecDepth 100000 in
theorem lifted (os : Os) (started : os.Started) (H : Type) (enc : TypeId × Value → H) (F : Stop.Interp) :
    ReturnsInHanded {} Tryd.checked os 3 .any ((OpenSpec.ofChange Rows.synOrderSpec).preRow enc Tryd.prog Tryd.f3 Rows.synOrderRow.domain false Rows.synOrderRow.laid) (((OpenSpec.ofChange Rows.synOrderSpec).at F).post enc Tryd.prog Tryd.f3 false true false false) := by
  obtain ⟨places, hx⟩ := reads os enc
  refine returnsInHanded_of_row (C := Tryd.checked) (s := OpenSpec.ofChange Rows.synOrderSpec) own started (by kernel_rfl) Tryd.func3
    (witness_row_at (enc := enc) (C := Tryd.checked) false (laidWorld os) #[sv noS, sv noS, .slice none 0 0] rfl (by kernel_rfl) (by kernel_rfl) (by kernel_rfl)
      (OpenSpec.preRow_of_cond 8 hx (by kernel_rfl) (fun k hk => by cases hk) (by kernel_rfl) (laid_met os))) ?_
  intro W base args ds gs before hval0 hW _ _ _ hL hsh _
  have hval : ∀ (j : Nat) t v, Tryd.f3.params[j]? = some t → args[j]? = some v → Value.okWide Tryd.prog W .any base t v := hval0
  have hW' := hW
  obtain ⟨p, q, hA0, hV, rfl, _, _⟩ := hW
  have hA : DataW.TrodAll enc Tryd.prog W 0 (fun _ => true) true Tryd.f3.params.toList args.toList ds p := hA0
  rw [Tryd.params3] at hA hval
  obtain ⟨v0, v1, v2, d0, d1, d2, p0, p1, p2, rfl, rfl, rfl, h0, h1, h2⟩ := trodAll_three hA
  obtain ⟨rfl, rfl⟩ := trodVars_none hV
  obtain ⟨s, rfl, rfl, rfl, hs⟩ := open_stmt (hval 0 25 v0 rfl rfl) h0
  obtain ⟨s', rfl, rfl, rfl, hs'⟩ := open_stmt (hval 1 25 v1 rfl rfl) h1
  obtain ⟨l, ha, hl⟩ := open_sts (hval 2 26 v2 rfl rfl) h2
  clear hA0 hval0
  simp only [List.append_nil] at hW'
  have hlt : ∀ x ∈ p2, x.block < W.heap.size := fun x hx => hW'.lt x (by simpa using hx)
  have hmax : maxLen = 9223372036854775807 := by decide
  refine (law3_SynOrder s s' v2 l W (gl_of_shaped W hsh) (by have := hs.1; rw [hmax] at this; exact this) (by have := hs'.1; rw [hmax] at this; exact this) (fun x hx => by have := (hl x hx).1; rw [hmax] at this; exact this) ha).mono fun e W' ⟨he, hnx⟩ => ?_
  subst he
  exact ⟨_, rfl, _, _, _, [], _, [], hW', trodAll_mk1 (shut_bool Tryd.underlying4 _), trodAll_mk3 (shut_stmt s hs) (shut_stmt s' hs') (Below.trod laid_out (by kernel_rfl) (of_decide_eq_true (by kernel_rfl)) h2 hnx hlt), rfl, hnx.frame _, fun h => by cases h⟩

theorem said : Rows.SynOrderSaid :=
  OpenClaim.holds_of_cond 3 Tryd.f3 rfl rfl rfl rfl rfl rfl rfl ⟨rfl, rfl, rfl, rfl, rfl⟩ rfl rfl rfl rfl rfl (by kernel_rfl) Tryd.func3 (by kernel_rfl)
    (of_decide_eq_true (by kernel_rfl)) (by unfold Func.isWrapper; first | (rw [if_pos (by decide +kernel)]; kernel_rfl) | (rw [if_neg (by decide +kernel)]; exact ⟨rfl, rfl⟩))
    (fun os started H enc _ F => by rw [OpenClaim.pre_eq_preRow]; exact lifted os started H enc F)

theorem plain (f : FuncId) (fn : Func) (hf : Tryd.pinned.checked.prog.funcNamed "crupper/crupperlaw03.SynOrder" = some f) (hfn : Tryd.pinned.checked.prog.funcs[f]? = some fn) :
    false = Tryd.pinned.checked.prog.looks [] ∧ ∀ (j : Nat) t, fn.params[j]? = some t → Tryd.pinned.checked.prog.wantsStandIn t = false := by
  obtain rfl : f = 3 := Option.some.inj ((show Tryd.prog.funcNamed "crupper/crupperlaw03.SynOrder" = some 3 by kernel_rfl).symm.trans hf) |>.symm
  obtain rfl : fn = Tryd.f3 := (Option.some.inj (Tryd.func3.symm.trans hfn)).symm
  refine ⟨by kernel_rfl, fun j t ht => ?_⟩
  rw [Tryd.params3] at ht
  have hm : t = 25 ∨ t = 26 := by simpa using Array.mem_of_getElem? ht
  rcases hm with rfl | rfl
  · exact (show Tryd.prog.wantsStandIn 25 = false by kernel_rfl)
  · exact (show Tryd.prog.wantsStandIn 26 = false by kernel_rfl)
end synOrder

theorem synOrder_holds : Rows.SynOrderCardSaid :=
  Claim7.holds_tied_plain_at .later [] _ _ _ _ synOrder.said (fun _ h => by cases h) (by kernel_rfl) (fun _ h => by cases h) synOrder_row_tie rfl ⟨rfl, rfl⟩ (by kernel_rfl) rfl synOrder.plain (by kernel_rfl)
#print axioms synOrder_holds
end Go.Proofs.YtmpanikeeeoikaaDoor
