/- crupperlaw28.light, one: what is looked at; the example's policy. '==' of faults. -/
import Derived.Test.YtomhekohcadijaaGreatDoorPartRF39
import Derived.Test.YtomhekohcadijaaGreatDoorPartRF40
import Derived.Test.YtomhekohcadijaaGreatDoorPartRF41
import Derived.Test.YtomhekohcadijaaGreatDoorPartRF29
import Derived.Test.YtomhekohcadijaaGreatDoorPartRF5
namespace Go.Proofs.YtomhekohcadijaaGreatDoor
open Go.RowKit Go.Shelf

def ex28R : Rl := ⟨⟨#[65]⟩, ⟨#[114]⟩⟩
def ex28S : St := ⟨1, ex28R, ⟨#[66]⟩, noR, noR, emp⟩
def ex28Q : Qd := ⟨4, ex28R, noR, []⟩
def ex28P : Pd := ⟨[ex28S], [], [], [ex28Q]⟩
theorem ex28_right : RightD ex28P := by
  refine ⟨⟨fun x hx => ?_, fun x hx => ?_, fun x hx => ?_, fun x hx => ?_⟩, by kernel_rfl, rfl, rfl, by kernel_rfl⟩
  · obtain rfl := List.mem_singleton.1 hx
    kernel_rfl
  · exact absurd hx (by simp [ex28P])
  · exact absurd hx (by simp [ex28P])
  · obtain rfl := List.mem_singleton.1 hx
    exact right_iff.1 (show rightQ ⟨4, ex28R, noR, .slice none 0 0⟩ [] = true by kernel_rfl)
def OneP (w : World) (e : Ending) (w' : World) : Prop := ∃ v0 v1 v2 v3, e = .returned (pv v0 v1 v2 v3) ∧ PolD w' v0 v1 v2 v3 ex28P [(ex28Q, .slice none 0 0)] ∧ Below w.heap.size w w'
set_option maxRecDepth 100000 in
set_option maxHeartbeats 4000000 in
theorem law28_one (w : World) : Calls Tryz.prog 73 #[] w fun e w' => OneP w e w' := by
  go_enter Tryz.func73, Tryz.ntmps73
  go_wp2
  refine bodyPost_ret (v := pv (.slice (some ⟨w.heap.size + 1 + 1, 0, none⟩) 1 1) (.slice none 0 0) (.slice none 0 0) (.slice (some ⟨w.heap.size + 1 + 1 + 1, 0, none⟩) 1 1)) (by simp [results, Tryz.results73, go_sem]) rfl ?_
  refine ⟨_, _, _, _, rfl, ⟨rfl, ?_, (Sl.nil _ _).a, (Sl.nil _ _).a, ?_, ?_⟩, ?_⟩
  · exact ((Sl.new _ ex28S.cells 80 9 1 (w.heap.size + 1 + 1) (by simp) rfl (by simp [maxLen])).below ((Below.refl _ _).alloc (Nat.le_refl _) _)).a
  · exact (Sl.new _ (qz (ex28Q, .slice none 0 0)).cells 83 6 1 (w.heap.size + 1 + 1 + 1) (by simp) rfl (by simp [maxLen])).a
  · intro z hz
    obtain rfl := List.mem_singleton.1 hz
    exact (Sl.nil _ _).a
  · exact ((((Below.refl _ w).alloc (Nat.le_refl _) _).alloc (by simp) _).alloc (by simp; omega) _).alloc (by simp; omega) _
def ex28V : Vd := ⟨3, []⟩
def ex28Z : VZ := ⟨ex28V, .slice none 0 0, 5, 0⟩
def ex28T : ByteArray := ⟨#[49, 32, 99, 97, 110, 32, 65, 46, 114, 32, 98, 101, 32, 101, 109, 112, 116, 121, 32, 58, 32, 121, 101, 115, 10, 45, 32, 65, 46, 114, 32, 60, 45, 32, 66, 10]⟩
def ex28F : ByteArray := ⟨#[101, 114, 114, 111, 114, 32, 50, 32, 97, 116, 32, 51, 58, 49, 52]⟩
theorem ex28_print : printV true ex28P [ex28Z] = ex28T := by kernel_rfl
theorem ex28_text : ex28T = textR ex28P.l ex28P.q [ex28V] := by kernel_rfl
theorem ex28_fault : faultB 2 3 14 = ex28F := by kernel_rfl
theorem ex28_okv : OkV ex28V := (okV_iff _).1 (by kernel_rfl)
theorem ex28_le : LeP ex28P 40 40 := (okP_le ex28_right.ok).mono (by decide) (by decide)
set_option maxRecDepth 100000 in
set_option maxHeartbeats 4000000 in
theorem law28_lives (w : World) (hg : Gl w) : Calls Tryz.prog 28 #[] w fun e w' => e = .returned (.bool true) ∧ Below w.heap.size w w' := by
  have HB0 := Lib.hid ((Below.refl w.heap.size w).alloc (Nat.le_refl _) (.cells #[.int .i64 3, .slice none 0 0, .int .i64 5, .int .i64 0] 56))
  have HV0 := Lib.hid (show VsAt (w.alloc (.cells #[.int .i64 3, .slice none 0 0, .int .i64 5, .int .i64 0] 56)) (.slice (some ⟨w.heap.size, 0, none⟩) 1 1) [ex28Z] from
    ⟨(Sl.new w ex28Z.cells 56 4 1 w.heap.size rfl rfl (by simp [maxLen])).a, fun z hz => by obtain rfl := List.mem_singleton.1 hz; exact (Sl.nil _ _).a⟩)
  have HG := Lib.hid hg
  have hB : true = true ↔ RightD ex28P := ⟨fun _ => ex28_right, fun _ => rfl⟩
  have PR := Lib.hid (fun (v0 v1 v2 v3 va : Value) W (hp : PolD W v0 v1 v2 v3 ex28P [(ex28Q, .slice none 0 0)]) (hv : VsAt W va [ex28Z]) => rep_Print hp ex28_le (by decide) (by decide) (by decide) (by decide) hB va [ex28Z] hv (fun z hz x hx => by obtain rfl := List.mem_singleton.1 hz; cases hx) (fun z hz => by obtain rfl := List.mem_singleton.1 hz; decide))
  rw [ex28_print] at PR
  have RD := Lib.hid (fun (v0 v1 v2 v3 : Value) W (hp : PolD W v0 v1 v2 v3 ex28P [(ex28Q, .slice none 0 0)]) (hgl : Gl W) => rep_Read hp ex28_le (by decide) (by decide) (by decide) (by decide) hB ex28T (by decide) (lines_few _ (by decide)) hgl)
  have FT := Lib.hid (fun W => rep_Fault 2 3 14 W (by decide) (by decide) (by decide))
  rw [ex28_fault] at FT
  have HT := Lib.hid (tx_eq (a := ex28T) (b := ex28T) rfl)
  have d1 : (ex28T.toList == [49, 32, 99, 97, 110, 32, 65, 46, 114, 32, 98, 101, 32, 101, 109, 112, 116, 121, 32, 58, 32, 121, 101, 115, 10, 45, 32, 65, 46, 114, 32, 60, 45, 32, 66, 10]) = true := HT.out
  have HF := Lib.hid (tx_eq (a := ex28F) (b := ex28F) rfl)
  have d2 : (ex28F.toList == [101, 114, 114, 111, 114, 32, 50, 32, 97, 116, 32, 51, 58, 49, 52]) = true := HF.out
  clear hB hg
  go_enter Tryz.func28, Tryz.ntmps28
  obtain ⟨wl, hwl⟩ : ∃ W, W = w.alloc (.cells #[.int .i64 3, .slice none 0 0, .int .i64 5, .int .i64 0] 56) := ⟨_, rfl⟩
  go_wp2_with fail
  rw [← hwl] at HB0 HV0 ⊢
  clear hwl
  refine (law28_one _).mono ?_
  rintro e w1 ⟨v0, v1, v2, v3, rfl, hp1, hb1⟩
  have HP1 := Lib.hid hp1
  have HV1 := Lib.hid (HV0.out.below hb1)
  have HB1 := Lib.hid (HB0.out.trans (hb1.mono HB0.out.size))
  clear hp1 hb1 HB0 HV0
  go_wp2_with fail
  refine (PR.out _ _ _ _ _ _ HP1.out HV1.out).mono ?_
  rintro e w2 ⟨rfl, hb2⟩
  have HV2 := Lib.hid (HV1.out.below hb2)
  have HB2 := Lib.hid (HB1.out.trans (hb2.mono HB1.out.size))
  clear hb2 PR HV1 HP1
  go_wp2_with fail
  refine (law28_one _).mono ?_
  rintro e w3 ⟨y0, y1, y2, y3, rfl, hp3, hb3⟩
  have HP3 := Lib.hid hp3
  have HV3 := Lib.hid (HV2.out.below hb3)
  have HB3 := Lib.hid (HB2.out.trans (hb3.mono HB2.out.size))
  clear hp3 hb3 HV2
  go_wp2_with fail
  refine (RD.out _ _ _ _ _ HP3.out (HG.out.below HB3.out)).mono ?_
  rintro e w4 ⟨vm, ms, ok, rfl, hv4, hb4, _, _, _, h4⟩
  obtain ⟨rfl, hms⟩ := h4 [ex28V] ex28_right rfl (fun v hv => by rw [List.mem_singleton.1 hv]; exact ex28_okv) ex28_text
  have HV4 := Lib.hid (HV3.out.below hb4)
  have HB4 := Lib.hid (HB3.out.trans (hb4.mono HB3.out.size))
  have SM := Lib.hid (rep_Same _ vm [ex28Z] ms w4 HV4.out hv4)
  rw [show sameV [ex28Z] ms = true from decide_eq_true hms.symm] at SM
  obtain ⟨om, cm, rfl⟩ := hv4.r.form
  clear hv4 hb4 hms h4 RD HP3 HV3
  go_wp2_with fail
  refine SM.out.mono ?_
  rintro e w5 ⟨rfl, hb5⟩
  have HB5 := Lib.hid (HB4.out.trans (hb5.mono HB4.out.size))
  clear hb5 SM
  go_wp2_with fail
  refine (FT.out _).mono ?_
  rintro e w6 ⟨rfl, hb6⟩
  have HB6 := Lib.hid (HB5.out.trans (hb6.mono HB5.out.size))
  clear hb6 FT
  go_wp2
  go_ret
  exact ⟨rfl, HB6.out⟩
end Go.Proofs.YtomhekohcadijaaGreatDoor
namespace Go.Proofs.YtomhekohcadijaaGreatDoor
open Go.RowKit Go.Shelf

def eqF (a b c a' b' c' : Int) : Bool := decide (a = a' ∧ b = b' ∧ c = c')
set_option maxRecDepth 100000 in
set_option maxHeartbeats 1000000 in
theorem fault_equalIn (d : Nat) (a b c a' b' c' : Int) (w : World) : (Op.equalIn (d + 2) 48 (.agg #[.int .i64 a, .int .i64 b, .int .i64 c]) (.agg #[.int .i64 a', .int .i64 b', .int .i64 c'])).run Tryz.prog w = .ok (eqF a b c a' b' c') w := by
  have hS : Tryz.prog.underlying 48 = some (.struct (Tryz.prog.fieldsOf 48)) := by kernel_rfl
  have hp : Tryz.prog.stoodInHeld 48 = false := by kernel_rfl
  rw [run_equalIn_agg w (d + 1) 48 _ _ hS hp]
  simp only [Program.fieldsOf, Tryz.underlying48]
  go_simp
  by_cases h1 : a = a' <;> by_cases h2 : b = b' <;> by_cases h3 : c = c' <;> simp [h1, h2, h3, eqF]
theorem fault_eql (a b c a' b' c' : Int) (w : World) : (binOp .eql 48 (.agg #[.int .i64 a, .int .i64 b, .int .i64 c]) (.agg #[.int .i64 a', .int .i64 b', .int .i64 c'])).run Tryz.prog w = .ok (.bool (eqF a b c a' b' c')) w := by
  rw [run_eql_struct, show (10000 : Nat) = 9998 + 2 from rfl, fault_equalIn 9998]
  rfl
theorem eqF_same (a b c : Int) : eqF a b c a b c = true := decide_eq_true ⟨rfl, rfl, rfl⟩
end Go.Proofs.YtomhekohcadijaaGreatDoor
