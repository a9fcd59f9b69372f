/- SynBack: for any two statements and every line the law returns true, and they read as they did. No condition. -/
import Derived.Test.YtakpahlgbcgnmaaDoorLaidW
import Derived.Test.YtakpahlgbcgnmaaDoorLaw03B
import Derived.Test.YtakpahlgbcgnmaaDoorOpenSyn
import Derived.HandedShaped
namespace Go.Proofs.YtakpahlgbcgnmaaDoor
open Go.ChangeShapes Go.WideShapes Go.ChangeAt Go.RowKit
open Go.ChangeMaps (open_string shut_string)

namespace synBack
theorem laid_met (os : Os) : laidMet Tryd.prog Rows.synBackRow.laid ((laidWorld os).forCall (fun _ _ => 0) ⟨#[], #[sv noS, sv noS, .string ⟨#[]⟩], []⟩).memory :=
  laidMet_of_run' 8 (by kernel_rfl) (by kernel_rfl)
theorem reads (os : Os) {H : Type} (enc : TypeId × Value → H) : ∃ places, DataW.whole enc Tryd.prog ((laidWorld os).forCall (fun _ _ => 0) ⟨#[], #[sv noS, sv noS, .string ⟨#[]⟩], []⟩).memory Tryd.f4.params.toList Rows.synBackSpec.vars false #[sv noS, sv noS, .string ⟨#[]⟩].toList 8 = some ([dSt H noS, dSt H noS, dStr H ⟨#[]⟩], [], places) :=
  ⟨[], by kernel_rfl⟩

set_option maxRecDepth 100000 in
theorem lifted (os : Os) (started : os.Started) (H : Type) (enc : TypeId × Value → H) (F : Stop.Interp) :
    ReturnsInHanded {} Tryd.checked os 4 .any ((OpenSpec.ofChange Rows.synBackSpec).preRow enc Tryd.prog Tryd.f4 Rows.synBackRow.domain false Rows.synBackRow.laid) (((OpenSpec.ofChange Rows.synBackSpec).at F).post enc Tryd.prog Tryd.f4 false true false false) := by
  obtain ⟨places, hx⟩ := reads os enc
  refine returnsInHanded_of_row (C := Tryd.checked) (s := OpenSpec.ofChange Rows.synBackSpec) own started (by kernel_rfl) Tryd.func4
    (witness_row_at (enc := enc) (C := Tryd.checked) false (laidWorld os) #[sv noS, sv noS, .string ⟨#[]⟩] rfl (by kernel_rfl) (by kernel_rfl) (by kernel_rfl)
      (OpenSpec.preRow_of_cond 8 hx (by kernel_rfl) (fun k hk => by cases hk) (by kernel_rfl) (laid_met os))) ?_
  intro W base args ds gs before hval0 hW _ _ _ hL hsh _
  have hval : ∀ (j : Nat) t v, Tryd.f4.params[j]? = some t → args[j]? = some v → Value.okWide Tryd.prog W .any base t v := hval0
  have hW' := hW
  obtain ⟨p, q, hA0, hV, rfl, _, _⟩ := hW
  have hA : DataW.TrodAll enc Tryd.prog W 0 (fun _ => true) true Tryd.f4.params.toList args.toList ds p := hA0
  rw [Tryd.params4] at hA hval
  obtain ⟨v0, v1, v2, d0, d1, d2, p0, p1, p2, rfl, rfl, rfl, h0, h1, h2⟩ := trodAll_three hA
  obtain ⟨rfl, rfl⟩ := trodVars_none hV
  obtain ⟨s, rfl, rfl, rfl, hs⟩ := open_stmt (hval 0 31 v0 rfl rfl) h0
  obtain ⟨s', rfl, rfl, rfl, hs'⟩ := open_stmt (hval 1 31 v1 rfl rfl) h1
  obtain ⟨l, rfl, rfl, rfl, hl⟩ := open_string Tryd.underlying9 (hval 2 9 v2 rfl rfl) h2
  clear hA0 hval0
  simp only [List.append_nil] at hW'
  have hmax : maxLen = 9223372036854775807 := by decide
  refine (law3_SynBack s s' l W (gl_of_shaped W hsh) (by have := hs.1; rw [hmax] at this; exact this) (by have := hs'.1; rw [hmax] at this; exact this) (by omega)).mono fun e W' ⟨he, hnx⟩ => ?_
  subst he
  exact ⟨_, rfl, _, _, _, [], [], [], hW', trodAll_mk1 (shut_bool Tryd.underlying4 _), trodAll_mk3 (shut_stmt s hs) (shut_stmt s' hs') (shut_string Tryd.underlying9 hl), rfl, hnx.frame _, fun h => by cases h⟩

theorem said : Rows.SynBackSaid :=
  OpenClaim.holds_of_cond 4 Tryd.f4 rfl rfl rfl rfl rfl rfl rfl ⟨rfl, rfl, rfl, rfl, rfl⟩ rfl rfl rfl rfl rfl (by kernel_rfl) Tryd.func4 (by kernel_rfl)
    (of_decide_eq_true (by kernel_rfl)) (by unfold Func.isWrapper; first | (rw [if_pos (by decide +kernel)]; kernel_rfl) | (rw [if_neg (by decide +kernel)]; exact ⟨rfl, rfl⟩))
    (fun os started H enc _ F => by rw [OpenClaim.pre_eq_preRow]; exact lifted os started H enc F)

theorem plain (f : FuncId) (fn : Func) (hf : Tryd.pinned.checked.prog.funcNamed "crupper/crupperlaw03.SynBack" = some f) (hfn : Tryd.pinned.checked.prog.funcs[f]? = some fn) :
    false = Tryd.pinned.checked.prog.looks [] ∧ ∀ (j : Nat) t, fn.params[j]? = some t → Tryd.pinned.checked.prog.wantsStandIn t = false := by
  obtain rfl : f = 4 := Option.some.inj ((show Tryd.prog.funcNamed "crupper/crupperlaw03.SynBack" = some 4 by kernel_rfl).symm.trans hf) |>.symm
  obtain rfl : fn = Tryd.f4 := (Option.some.inj (Tryd.func4.symm.trans hfn)).symm
  refine ⟨by kernel_rfl, fun j t ht => ?_⟩
  rw [Tryd.params4] at ht
  have hm : t = 31 ∨ t = 9 := by simpa using Array.mem_of_getElem? ht
  rcases hm with rfl | rfl
  · exact (show Tryd.prog.wantsStandIn 31 = false by kernel_rfl)
  · exact (show Tryd.prog.wantsStandIn 9 = false by kernel_rfl)
end synBack

theorem synBack_holds : Rows.SynBackCardSaid :=
  Claim7.holds_tied_plain_at .later [] _ _ _ _ synBack.said (fun _ h => by cases h) (by kernel_rfl) (fun _ h => by cases h) synBack_row_tie rfl ⟨rfl, rfl⟩ (by kernel_rfl) rfl synBack.plain (by kernel_rfl)
#print axioms synBack_holds
end Go.Proofs.YtakpahlgbcgnmaaDoor
