/- Package state: MayCome and MayGo; the law's lives; the reference's Of. -/
import Derived.Test.YtmpanikeeeoikaaStLaw
import Derived.Test.YtmpanikeeeoikaaRlHas
namespace Go.Proofs.Ytmpanikeeeoikaa
open Go.RowKit Go.Shelf

/-- A policy's value: statements, roles that may not grow, roles that may not shrink, queries. -/
abbrev pv (a b c d : Value) : Value := .agg #[a, b, c, d]

set_option maxHeartbeats 1000000 in
theorem state_MayCome (v0 vg v2 v3 : Value) (g : List Rl) (s : St) (w : World) (hg : SlA w 2 vg g.length (g.flatMap Rl.cells)) (hs : s.le 4294967) (h0 : v0.oneCell' = true) (h2 : v2.oneCell' = true) (h3 : v3.oneCell' = true) :
    Calls Try.prog 17 #[pv v0 vg v2 v3, sv s] w fun e w' => e = .returned (.bool (rightS s && !hasR g s.h)) ∧ Below w.heap.size w w' := by
  have R := Lib.hid (fun W => syn_Right s W hs)
  have H := Lib.hid (fun W h => policy_Has vg g s.h W h)
  have HG := Lib.hid hg
  obtain ⟨ao, ac, rfl⟩ := hg.form
  obtain ⟨k, ⟨x1, x2⟩, who, ⟨a1, a2⟩, ⟨b1, b2⟩, via⟩ := s
  generalize rightS _ = r at R ⊢
  generalize hasR g _ = h at H ⊢
  clear hg hs
  go_enter Try.func17, Try.ntmps17
  go_wp2_with fail
  refine (R.out _).mono ?_
  rintro e w1 ⟨rfl, hb1⟩
  obtain ⟨⟨ca, fa, za⟩, ⟨cb, fb, zb⟩⟩ := keep2 hb1
  have HB1 := Lib.hid ((((Below.refl _ w).alloc (Nat.le_refl _) _).alloc (by simp) _).trans (hb1.mono (by simp only [World.size_alloc]; omega)) : Below w.heap.size w w1)
  clear hb1
  cases r with
  | false =>
    go_wp2
    go_ret
    exact ⟨rfl, HB1.out⟩
  | true =>
    go_wp2_with fail
    refine (H.out _ (HG.out.below HB1.out)).mono ?_
    rintro e w2 ⟨rfl, hb2⟩
    have HB2 := Lib.hid (HB1.out.trans (hb2.mono HB1.out.size))
    clear hb2
    go_wp2
    go_ret
    exact ⟨rfl, HB2.out⟩

set_option maxHeartbeats 1000000 in
theorem state_MayGo (v0 v1 vg v3 : Value) (g : List Rl) (s : St) (w : World) (hg : SlA w 2 vg g.length (g.flatMap Rl.cells)) (h0 : v0.oneCell' = true) (h1 : v1.oneCell' = true) (h3 : v3.oneCell' = true) :
    Calls Try.prog 19 #[pv v0 v1 vg v3, sv s] w fun e w' => e = .returned (.bool (!hasR g s.h)) ∧ Below w.heap.size w w' := by
  have H := Lib.hid (fun W h => policy_Has vg g s.h W h)
  have HG := Lib.hid hg
  obtain ⟨ao, ac, rfl⟩ := hg.form
  obtain ⟨k, ⟨x1, x2⟩, who, ⟨a1, a2⟩, ⟨b1, b2⟩, via⟩ := s
  generalize hasR g _ = h at H ⊢
  clear hg
  have HW := Lib.hid (((Below.refl _ w).alloc (Nat.le_refl _) (.cells #[v0, v1, .slice ao g.length ac, v3] 26)).alloc (by simp) (.cells #[.int .i64 k, .string x1, .string x2, .string who, .string a1, .string a2, .string b1, .string b2, .string via] 30) : Below w.heap.size w _)
  go_enter Try.func19, Try.ntmps19
  go_wp2_with fail
  refine (H.out _ (HG.out.below HW.out)).mono ?_
  rintro e w2 ⟨rfl, hb2⟩
  have HB2 := Lib.hid (HW.out.trans (hb2.mono HW.out.size))
  clear hb2
  go_wp2
  go_ret
  exact ⟨rfl, HB2.out⟩

def oneS : St := ⟨1, ⟨⟨#[65]⟩, ⟨#[114]⟩⟩, ⟨#[66]⟩, noR, noR, emp⟩
theorem one_right : rightS oneS = true := by kernel_rfl
theorem one_le : oneS.le 4294967 := by simp only [oneS, St.le, Rl.le, noR, ByteArray.size]; decide
set_option maxHeartbeats 1000000 in
theorem law10_one (w : World) : Calls Try.prog 32 #[] w fun e w' => e = .returned (sv oneS) ∧ Below w.heap.size w w' := by
  go_enter Try.func32, Try.ntmps32
  go_wp2
  (try simp only [Exit.inBlock, Exit.then])
  refine bodyPost_ret (v := sv oneS) (by simp [results, Try.results32, go_sem, oneS, noR, emp]) rfl ?_
  exact ⟨rfl, (Below.refl _ _).alloc (Nat.le_refl _) _⟩

theorem one_in : hasR [oneS.h] oneS.h = true := by kernel_rfl
theorem one_is : isS [oneS] = true := by kernel_rfl
abbrev nilV : Value := .slice none 0 0
theorem one_row (w : World) : Sl (w.alloc (.cells #[.string ⟨#[65]⟩, .string ⟨#[114]⟩] 28)) 2 (.slice (some ⟨w.heap.size, 0, none⟩) 1 1) [oneS.h].length ([oneS.h].flatMap Rl.cells) :=
  Sl.new w [.string ⟨#[65]⟩, .string ⟨#[114]⟩] 28 2 1 w.heap.size rfl rfl (by simp [maxLen])
theorem one_row2 (w : World) : Sl (w.alloc (.cells #[.int .i64 1, .string ⟨#[65]⟩, .string ⟨#[114]⟩, .string ⟨#[66]⟩, .string ⟨#[]⟩, .string ⟨#[]⟩, .string ⟨#[]⟩, .string ⟨#[]⟩, .string ⟨#[]⟩] 30)) 9 (.slice (some ⟨w.heap.size, 0, none⟩) 1 1) [oneS].length ([oneS].flatMap St.cells) :=
  Sl.new w [.int .i64 1, .string ⟨#[65]⟩, .string ⟨#[114]⟩, .string ⟨#[66]⟩, .string ⟨#[]⟩, .string ⟨#[]⟩, .string ⟨#[]⟩, .string ⟨#[]⟩, .string ⟨#[]⟩] 30 9 1 w.heap.size rfl rfl (by simp [maxLen])
theorem may1 (va vb : Value) (w : World) (ha : SlA w 2 va [oneS.h].length ([oneS.h].flatMap Rl.cells)) (hb : vb.oneCell' = true) :
    Calls Try.prog 17 #[pv nilV va vb nilV, sv oneS] w fun e w' => e = .returned (.bool false) ∧ Below w.heap.size w w' := by
  have h := state_MayCome nilV va vb nilV [oneS.h] oneS w ha one_le rfl hb rfl
  rw [one_in, one_right] at h
  exact h
theorem may2 (w : World) : Calls Try.prog 17 #[pv nilV nilV nilV nilV, sv oneS] w fun e w' => e = .returned (.bool true) ∧ Below w.heap.size w w' := by
  have h := state_MayCome nilV nilV nilV nilV [] oneS w (Sl.nil _ _).a one_le rfl rfl rfl
  rw [one_right] at h
  exact h
theorem may3 (va vb : Value) (w : World) (hb : SlA w 2 vb [oneS.h].length ([oneS.h].flatMap Rl.cells)) (ha : va.oneCell' = true) :
    Calls Try.prog 19 #[pv nilV va vb nilV, sv oneS] w fun e w' => e = .returned (.bool false) ∧ Below w.heap.size w w' := by
  have h := state_MayGo nilV va vb nilV [oneS.h] oneS w hb rfl ha rfl
  rw [one_in] at h
  exact h
theorem may4 (va : Value) (w : World) (ha : SlA w 9 va [oneS].length ([oneS].flatMap St.cells)) : Calls Try.prog 27 #[va] w fun e w' => e = .returned (.bool true) ∧ Below w.heap.size w w' := by
  have h := state_Is va [oneS] w ha (fun x hx => by rw [List.mem_singleton.1 hx]; exact one_le)
  rw [one_is] at h
  exact h

set_option maxRecDepth 100000 in
set_option maxHeartbeats 4000000 in
theorem law10_lives (w : World) : Calls Try.prog 10 #[] w fun e w' => e = .returned (.bool true) ∧ Below w.heap.size w w' := by
  have O := Lib.hid (fun W => law10_one W)
  simp only [oneS, sv, noR, emp] at O
  have hfd : ∀ w : World, (Instr.field 30 (.agg #[.int .i64 1, .string ⟨#[65]⟩, .string ⟨#[114]⟩, .string ⟨#[66]⟩, .string ⟨#[]⟩, .string ⟨#[]⟩, .string ⟨#[]⟩, .string ⟨#[]⟩, .string ⟨#[]⟩]) 1).run Try.prog w = .ok (.agg #[.string ⟨#[65]⟩, .string ⟨#[114]⟩]) w := fun _ => by kernel_rfl
  go_enter Try.func10, Try.ntmps10
  go_wp2_with fail
  refine (O.out _).mono ?_
  rintro e w1 ⟨rfl, hb1⟩
  have HB1 := Lib.hid hb1
  have R1 := Lib.hid (one_row w1)
  have HB2 := Lib.hid (HB1.out.alloc HB1.out.size (.cells #[.string ⟨#[65]⟩, .string ⟨#[114]⟩] 28))
  clear hb1
  go_wp2_with fail
  refine (O.out _).mono ?_
  rintro e w3 ⟨rfl, hb3⟩
  have HB3 := Lib.hid (HB2.out.trans (hb3.mono HB2.out.size))
  have R2 := Lib.hid (R1.out.below hb3)
  have R3 := Lib.hid (one_row w3)
  have HB4 := Lib.hid (HB3.out.alloc HB3.out.size (.cells #[.string ⟨#[65]⟩, .string ⟨#[114]⟩] 28))
  have R4 := Lib.hid (R2.out.below ((Below.refl _ w3).alloc (Nat.le_refl _) (.cells #[.string ⟨#[65]⟩, .string ⟨#[114]⟩] 28)))
  clear hb3
  have hlow5 : Below (w3.alloc (.cells #[.string ⟨#[65]⟩, .string ⟨#[114]⟩] 28)).heap.size (w3.alloc (.cells #[.string ⟨#[65]⟩, .string ⟨#[114]⟩] 28)) ((w3.alloc (.cells #[.string ⟨#[65]⟩, .string ⟨#[114]⟩] 28)).alloc (.cells #[.slice none 0 0, .slice (some ⟨w1.heap.size, 0, none⟩) 1 1, .slice (some ⟨w3.heap.size, 0, none⟩) 1 1, .slice none 0 0] 26)).drew := below_drew ((Below.refl _ _).alloc (Nat.le_refl _) _)
  have HRA : Sl ((w3.alloc (.cells #[.string ⟨#[65]⟩, .string ⟨#[114]⟩] 28)).alloc (.cells #[.slice none 0 0, .slice (some ⟨w1.heap.size, 0, none⟩) 1 1, .slice (some ⟨w3.heap.size, 0, none⟩) 1 1, .slice none 0 0] 26)).drew 2 (.slice (some ⟨w1.heap.size, 0, none⟩) 1 1) [oneS.h].length ([oneS.h].flatMap Rl.cells) := R4.out.below hlow5
  have HRB : Sl ((w3.alloc (.cells #[.string ⟨#[65]⟩, .string ⟨#[114]⟩] 28)).alloc (.cells #[.slice none 0 0, .slice (some ⟨w1.heap.size, 0, none⟩) 1 1, .slice (some ⟨w3.heap.size, 0, none⟩) 1 1, .slice none 0 0] 26)).drew 2 (.slice (some ⟨w3.heap.size, 0, none⟩) 1 1) [oneS.h].length ([oneS.h].flatMap Rl.cells) := R3.out.below hlow5
  have HBK : Blk ((w3.alloc (.cells #[.string ⟨#[65]⟩, .string ⟨#[114]⟩] 28)).alloc (.cells #[.slice none 0 0, .slice (some ⟨w1.heap.size, 0, none⟩) 1 1, .slice (some ⟨w3.heap.size, 0, none⟩) 1 1, .slice none 0 0] 26)).drew (w3.alloc (.cells #[.string ⟨#[65]⟩, .string ⟨#[114]⟩] 28)).heap.size #[.slice none 0 0, .slice (some ⟨w1.heap.size, 0, none⟩) 1 1, .slice (some ⟨w3.heap.size, 0, none⟩) 1 1, .slice none 0 0] := Blk.new (w3.alloc (.cells #[.string ⟨#[65]⟩, .string ⟨#[114]⟩] 28)) _ _
  simp only [World.size_alloc] at HBK
  have HBC : Below w.heap.size w ((w3.alloc (.cells #[.string ⟨#[65]⟩, .string ⟨#[114]⟩] 28)).alloc (.cells #[.slice none 0 0, .slice (some ⟨w1.heap.size, 0, none⟩) 1 1, .slice (some ⟨w3.heap.size, 0, none⟩) 1 1, .slice none 0 0] 26)).drew := below_drew (HB4.out.alloc HB4.out.size _)
  have M1 := Lib.hid (fun va vb W h1 h2 => may1 va vb W h1 h2)
  have M2 := Lib.hid (fun W => may2 W)
  have M3 := Lib.hid (fun va vb W h1 h2 => may3 va vb W h1 h2)
  have M4 := Lib.hid (fun va W h1 => may4 va W h1)
  simp only [oneS, sv, noR, emp] at M1 M2 M3
  clear hlow5
  go_upto_region 2 with fail
  go_region_held3 (fun W => ∀ o, W.cell? ⟨w3.heap.size + 1, o, none⟩ = (#[.slice none 0 0, .slice (some ⟨w1.heap.size, 0, none⟩) 1 1, .slice (some ⟨w3.heap.size, 0, none⟩) 1 1, .slice none 0 0] : Array Value)[o]?)
    (first | exact HBK.1 | exact (HBK.alloc _).1 | go_keep)
    (first
      | (go_at_call 32; refine (O.out _).mono ?_; rintro e wq ⟨rfl, hbq⟩; have HBC := HBC.trans (hbq.mono HBC.size); have HBK := HBK.below hbq; have HRA := HRA.below hbq; have HRB := HRB.below hbq; have cq := HBK.1)
      | (go_at_call_of 17 (Value.agg #[.slice none 0 0, .slice none 0 0, .slice none 0 0, .slice none 0 0]); refine (M2.out _).mono ?_; rintro e wq ⟨rfl, hbq⟩; have HBC := HBC.trans (hbq.mono HBC.size); have HBK := HBK.below hbq; have HRA := HRA.below hbq; have HRB := HRB.below hbq; have cq := HBK.1)
      | (go_at_call 17; refine (M1.out _ _ _ HRA.a rfl).mono ?_; rintro e wq ⟨rfl, hbq⟩; have HBC := HBC.trans (hbq.mono HBC.size); have HBK := HBK.below hbq; have HRA := HRA.below hbq; have HRB := HRB.below hbq; have cq := HBK.1)
      | (go_at_call 19; refine (M3.out _ _ _ HRB.a rfl).mono ?_; rintro e wq ⟨rfl, hbq⟩; have HBC := HBC.trans (hbq.mono HBC.size); have HBK := HBK.below hbq; have HRA := HRA.below hbq; have HRB := HRB.below hbq; have cq := HBK.1)
      | (go_at_call 27; refine (M4.out _ _ (one_row2 _).a).mono ?_; rintro e wq2 ⟨rfl, hbq⟩; have HBC := (HBC.alloc HBC.size (.cells #[.int .i64 1, .string ⟨#[65]⟩, .string ⟨#[114]⟩, .string ⟨#[66]⟩, .string ⟨#[]⟩, .string ⟨#[]⟩, .string ⟨#[]⟩, .string ⟨#[]⟩, .string ⟨#[]⟩] 30)).trans (hbq.mono (Nat.le_trans HBC.size (by simp))); have HBK := (HBK.alloc (.cells #[.int .i64 1, .string ⟨#[65]⟩, .string ⟨#[114]⟩, .string ⟨#[66]⟩, .string ⟨#[]⟩, .string ⟨#[]⟩, .string ⟨#[]⟩, .string ⟨#[]⟩, .string ⟨#[]⟩] 30)).below hbq; have cq := HBK.1))
  go_wp2
  go_ret
  exact ⟨rfl, HBC⟩
end Go.Proofs.Ytmpanikeeeoikaa
