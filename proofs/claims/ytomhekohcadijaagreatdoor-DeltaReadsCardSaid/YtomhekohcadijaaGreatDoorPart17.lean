/- (*delta.Delta).put: a line of the kind 2 (printed by gen_dlput.py). (*delta.Delta).put: a line of the kind 3 (printed by gen_dlput.py). (*delta.Delta).put: a line of the kind 4 (printed by gen_dlput.py). -/
import Derived.Test.YtomhekohcadijaaGreatDoorPart16
import Derived.Test.YtomhekohcadijaaGreatDoorPart10
import Derived.Test.YtomhekohcadijaaGreatDoorPart15
namespace Go.Proofs.YtomhekohcadijaaGreatDoor
open Go.RowKit Go.Shelf

set_option maxRecDepth 100000 in
set_option maxHeartbeats 8000000 in
theorem delta_put2 (s rest : ByteArray) (last : Int) (C b : Nat) (v0 v1 v2 v3 v4 v5 : Value) (d : Dl) (w : World) (hg : Gl w) (h : MkD C b w v0 v1 v2 v3 v4 v5 d) (hs : s.size ≤ 1000000) (hn : d.ungrow.length ≤ 100000) (hk : kindB s = (2, rest)) (hl : last ≤ 2) :
    Calls Tryz.prog 52 #[.pointer (some ⟨b, 0, none⟩), .string s, .int .i64 last] w fun e w' => PutP C b w 2 (if okLnR d.ungrow rest = true then some { d with ungrow := d.ungrow ++ [cutR rest] } else none) e w' := by
  have HG := Lib.hid hg
  have HM := Lib.hid h
  have hrs : rest.size ≤ 1000000 := by have := kindL_size s (bkL marksB 6); rw [show kindL s (bkL marksB 6) = (2, rest) from hk] at this; exact Nat.le_trans this hs
  have KD := Lib.hid (fun W => delta_kind s W (by omega))
  rw [hk] at KD
  obtain ⟨a0, c0, rfl⟩ := own_form h.r0
  obtain ⟨a1, c1, rfl⟩ := own_form h.r1
  obtain ⟨a2, c2, rfl⟩ := own_form h.r2
  obtain ⟨a3, c3, rfl⟩ := own_form h.r3
  obtain ⟨a4, c4, rfl⟩ := own_form h.r4
  obtain ⟨a5, c5, rfl⟩ := own_form h.r5
  obtain ⟨R, hR⟩ : ∃ R, R = (if okLnR d.ungrow rest = true then some { d with ungrow := d.ungrow ++ [cutR rest] } else none) := ⟨_, rfl⟩
  rw [← hR]
  have HR := Lib.hid hR
  have d1 : decide ((2 : Int) < last) = false := decide_eq_false (by omega)
  clear hg h hk hR hs
  go_enter Tryz.func52, Tryz.ntmps52
  go_wp2_with fail
  refine (KD.out _).mono ?_
  rintro e w1 ⟨rfl, hb1⟩
  have HB := Lib.hid hb1
  have HM := Lib.hid (HM.out.kp hb1)
  clear hb1 KD
  go_wp2_with fail
  have HRY := Lib.hid (show isRole (cutR rest) = true ∧ behR d.ungrow (cutR rest) = true → R = some { d with ungrow := d.ungrow ++ [cutR rest] } from fun h => by rw [HR.out, if_pos (okLnR_iff.2 h)])
  have HRN := Lib.hid (show ¬ (isRole (cutR rest) = true ∧ behR d.ungrow (cutR rest) = true) → R = none from fun h => by rw [HR.out, if_neg (fun h' => h (okLnR_iff.1 h'))])
  clear HR
  obtain ⟨mg, hmg⟩ := HG.out.below HB.out
  have CT := Tryz.strings_Cut rest ⟨#[46]⟩ mg w1 (by omega) hmg
  have CT := Lib.hid (show Calls Tryz.prog 91 #[.string rest, .string ⟨#[46]⟩] w1 fun e w' => e = .returned (.tuple #[.string (cutR rest).o, .string (cutR rest).n, .bool (Lib.cut (bl rest) [46]).2.2]) ∧ ∃ n, w' = w1.drewN n from CT)
  have hle := Lib.hid (cutR_le hrs)
  generalize (Lib.cut (bl rest) [46]).2.2 = fb at CT
  generalize cutR rest = x at *
  obtain ⟨x1, x2⟩ := x
  dsimp only at CT
  refine CT.out.mono ?_
  rintro e w2 ⟨rfl, n2, hn2⟩
  have hb2 : Below w1.heap.size w1 w2 := by rw [hn2]; exact below_of_drewN n2
  have HB := Lib.hid (HB.out.trans (hb2.mono HB.out.size))
  have HM := Lib.hid (HM.out.kp hb2)
  clear hb2 CT hn2 hmg
  obtain ⟨gx, hgx0⟩ : ∃ g, g = w2.heap.size := ⟨_, rfl⟩
  have HX := Lib.hid (Blk.new w2 #[.string x1, .string x2] 78)
  have hba := (Below.refl w2.heap.size w2).alloc (Nat.le_refl _) (.cells #[.string x1, .string x2] 78)
  have HMo := HM
  have hgx := Lib.hid (show w2.heap.size ≤ gx by rw [hgx0]; exact Nat.le_refl _)
  have HB := Lib.hid (HB.out.trans (hba.mono HB.out.size))
  have HM := Lib.hid (HM.out.kp hba)
  obtain ⟨w3, hw3⟩ : ∃ V, V = w2.alloc (.cells #[.string x1, .string x2] 78) := ⟨_, rfl⟩
  rw [← hw3] at HX HB HM
  rw [← hgx0] at HX
  clear hba
  go_upto_region 14 with fail
  rw [← hw3, ← hgx0]
  clear hw3 hgx0
  refine wp_region_held_drew (S := fun _ => True) (by kernel_rfl) trivial (fun hHeld => ?_)
  have hd := below_drew (Below.refl w3.heap.size w3)
  have HB := Lib.hid (HB.out.trans (hd.mono HB.out.size))
  have HM := Lib.hid (HM.out.kp hd)
  have HX := Lib.hid (HX.out.below hd)
  obtain ⟨w4, hw4⟩ : ∃ V, V = w3.drew := ⟨_, rfl⟩
  rw [← hw4] at HB HM HX ⊢
  clear hd hw4
  (refine hyes 0 ?_); (refine hyes 1 ?_); (refine hyes 2 ?_); (refine hyes 3 ?_); (refine hyes 4 ?_); (refine hyes 5 ?_); (refine hyes 6 ?_); (refine hyes 7 ?_); (refine hyes 8 ?_); (refine hyes 9 ?_); (refine hyes 10 ?_); (refine hyes 11 ?_); (refine hyes 13 ?_); (refine hyes 14 ?_); (try simp only [Act.put, List.setIfInBounds_toArray, List.set])
  (refine held_call 12 rfl (by kernel_rfl) (fun K hK => ?_); go_simp)
  obtain ⟨w5, hw5⟩ : ∃ V, V = w4.alloc (.cells #[.pointer (some ⟨b, 3, none⟩), .pointer (some ⟨b, 2, none⟩), .pointer (some ⟨b, 5, none⟩), .pointer (some ⟨b, 4, none⟩)] 147) := ⟨_, rfl⟩
  obtain ⟨bn, hbn⟩ : ∃ b, b = w4.heap.size := ⟨_, rfl⟩
  rw [← hw5, ← hbn]
  have hd : Below w4.heap.size w4 w5 := by rw [hw5]; exact (Below.refl _ _).alloc (Nat.le_refl _) _
  have hq : w5.cell? ⟨bn, 0, none⟩ = some (.pointer (some ⟨b, 3, none⟩)) := by
    rw [hw5, hbn]; exact (Blk.new w4 #[.pointer (some ⟨b, 3, none⟩), .pointer (some ⟨b, 2, none⟩), .pointer (some ⟨b, 5, none⟩), .pointer (some ⟨b, 4, none⟩)] 147).1 0
  have HB := Lib.hid (HB.out.trans (hd.mono HB.out.size))
  have HM := Lib.hid (HM.out.kp hd)
  have HX := Lib.hid (HX.out.below hd)
  clear hd hw5 hbn
  (refine hK.out _ _ trivial (fun hHeld => ?_); clear hK K; (try simp only [Act.put, List.setIfInBounds_toArray, List.set]))
  have hwi : IntKind.i64.wrap 0 = 0 := by decide
  (refine hnow 15 ?_); (refine hnow 16 ?_); (refine hnow 17 ?_); (try simp only [Act.put, List.setIfInBounds_toArray, List.set])
  refine wpAnyH_done (by kernel_rfl) ?_ _
  clear hq hHeld hwi
  obtain ⟨cm, fm, zm⟩ := HM.out.blk
  go_upto_region 16 with fail
  clear cm fm zm
  have IR := Lib.hid (fun W => syn_IsRole ⟨x1, x2⟩ W hle.out)
  cases hir : isRole ⟨x1, x2⟩ with
  | true =>
    rw [hir] at IR HRY HRN
    have HIR := Lib.hid hir
    clear hir
    by_cases hn0 : 0 < d.ungrow.length
    · have dn : decide ((0 : Int) < (d.ungrow.length : Int)) = true := decide_eq_true (by omega)
      have dn2 : decide (0 < d.ungrow.length) = true := decide_eq_true hn0
      obtain ⟨gl, ol, cl, he, hc1, hm1, hbl, hxl⟩ := (Sl.of_own HM.out.r3).pos hn0
      simp only [Value.slice.injEq, true_and] at he
      obtain ⟨rfl, rfl⟩ := he
      obtain ⟨p0, p1⟩ := rl_cell hxl (d.ungrow.length - 1) (by omega)
      obtain ⟨m, hm⟩ : ∃ m, m = d.ungrow.length - 1 := ⟨_, rfl⟩
      have hwm : IntKind.i64.wrap ((d.ungrow.length : Int) - 1) = (m : Int) := by rw [show (d.ungrow.length : Int) - 1 = (m : Int) by omega]; exact Go.IntWalk.i64_in _ (by omega)
      have hml : m < d.ungrow.length := by omega
      have BE := Lib.hid (beh_oneR (x := ⟨x1, x2⟩) hn0)
      clear hxl
      simp only [← hm] at p0 p1 BE
      have OR := Lib.hid (fun W => syn_LessB d.ungrow[m] ⟨x1, x2⟩ W)
      generalize d.ungrow[m] = z at *
      clear hm
      obtain ⟨z1, z2⟩ := z
      generalize cmpR ⟨z1, z2⟩ ⟨x1, x2⟩ = cc at OR BE
      refine wp_region_held_drew (S := fun W => (∀ o, W.cell? ⟨b, o, none⟩ = (#[.slice a0 d.more.length c0, .slice a1 d.gone.length c1, .slice a2 d.grow.length c2, .slice (some ⟨gl, ol, none⟩) d.ungrow.length c3, .slice a4 d.shrink.length c4, .slice a5 d.unshrink.length c5] : Array Value)[o]?) ∧ (∀ o, W.cell? ⟨gx, o, none⟩ = (#[.string x1, .string x2] : Array Value)[o]?) ∧ W.cell? ⟨gl, ol + m * 2, none⟩ = some (.string z1) ∧ W.cell? ⟨gl, ol + m * 2 + 1, none⟩ = some (.string z2)) (by kernel_rfl) ⟨(HM.out.blk.below (below_drew (Below.refl _ _))).1, (HX.out.below (below_drew (Below.refl _ _))).1, p0, p1⟩ (fun hHeld => ?_)
      have hd := below_drew (Below.refl w5.heap.size w5)
      have HB := Lib.hid (HB.out.trans (hd.mono HB.out.size))
      have HM := Lib.hid (HM.out.kp hd)
      have HX := Lib.hid (HX.out.below hd)
      have HP0 := Lib.hid ((hd.cell (p := ⟨gl, ol + m * 2, none⟩) hbl).trans p0)
      have HP1 := Lib.hid ((hd.cell (p := ⟨gl, ol + m * 2 + 1, none⟩) hbl).trans p1)
      clear p0 p1
      obtain ⟨w6, hw6⟩ : ∃ V, V = w5.drew := ⟨_, rfl⟩
      have hbl6 : gl < w6.heap.size := by rw [hw6]; exact Nat.lt_of_lt_of_le hbl hd.size
      rw [← hw6] at HB HM HX HP0 HP1 hHeld ⊢
      clear hd hw6 hbl
      (refine hyes 0 ?_); (try simp only [Act.put, List.setIfInBounds_toArray, List.set])
      (refine held_call 1 rfl (by kernel_rfl) (fun K hK => ?_); go_simp)
      go_at_call 108; refine (IR.out _).mono ?_; rintro e w7 ⟨rfl, hb7⟩
      have HB := Lib.hid (HB.out.trans (hb7.mono HB.out.size))
      have HM := Lib.hid (HM.out.kp hb7)
      have HX := Lib.hid (HX.out.below hb7)
      have HP0 := Lib.hid ((hb7.cell (p := ⟨gl, ol + m * 2, none⟩) hbl6).trans HP0.out)
      have HP1 := Lib.hid ((hb7.cell (p := ⟨gl, ol + m * 2 + 1, none⟩) hbl6).trans HP1.out)
      have hbl7 : gl < w7.heap.size := Nat.lt_of_lt_of_le hbl6 hb7.size
      clear hb7 IR hbl6
      (refine hK.out _ _ ⟨HM.out.blk.1, HX.out.1, HP0.out, HP1.out⟩ (fun hHeld => ?_); clear hK K; (try simp only [Act.put, List.setIfInBounds_toArray, List.set]))
      (refine hyes 2 ?_); (refine hyes 3 ?_); (refine hyes 4 ?_); (refine hyes 5 ?_); (refine hyes 6 ?_); (refine hyes 7 ?_); (refine hyes 8 ?_); (refine hyes 9 ?_); (refine hyes 10 ?_); (refine hyes 11 ?_); (refine hyes 12 ?_); (refine hyes 13 ?_); (refine hyes 14 ?_); (try simp only [Act.put, List.setIfInBounds_toArray, List.set])
      (refine held_call 15 rfl (by kernel_rfl) (fun K hK => ?_); go_simp)
      go_at_call 109; refine (OR.out _).mono ?_; rintro e w8 ⟨rfl, hb8⟩
      have HB := Lib.hid (HB.out.trans (hb8.mono HB.out.size))
      have HM := Lib.hid (HM.out.kp hb8)
      have HX := Lib.hid (HX.out.below hb8)
      have HP0 := Lib.hid ((hb8.cell (p := ⟨gl, ol + m * 2, none⟩) hbl7).trans HP0.out)
      have HP1 := Lib.hid ((hb8.cell (p := ⟨gl, ol + m * 2 + 1, none⟩) hbl7).trans HP1.out)
      clear hb8 OR hbl7
      (refine hK.out _ _ ⟨HM.out.blk.1, HX.out.1, HP0.out, HP1.out⟩ (fun hHeld => ?_); clear hK K; (try simp only [Act.put, List.setIfInBounds_toArray, List.set]))
      clear HP0 HP1
      by_cases hcc : cc < 0
      · have dc : decide (cc < 0) = true := decide_eq_true hcc
        (refine hyes 16 ?_); (refine hyes 17 ?_); (refine hyes 18 ?_); (try simp only [Act.put, List.setIfInBounds_toArray, List.set])
        refine wpAnyH_done (by kernel_rfl) ?_ _
        clear hHeld
        obtain ⟨wA, rfl⟩ : ∃ V, V = w8 := ⟨_, rfl⟩
        have hRs := Lib.hid (show R = some { d with ungrow := d.ungrow ++ [(⟨x1, x2⟩ : Rl)] } from HRY.out ⟨rfl, BE.out.trans (decide_eq_true hcc)⟩)
        clear HRY HRN
        have hC := HM.out.hC
        have hbC := HM.out.hb
        have hzx := HX.out.2.2
        obtain ⟨cm, fm, zm⟩ := HM.out.blk
        obtain ⟨cx, fx, zx⟩ := HX.out
        go_upto_region 18 with fail
        clear cm fm zm cx fx zx
        refine wp_region_last (S := fun W => (∀ o, W.cell? ⟨b, o, none⟩ = (#[.slice a0 d.more.length c0, .slice a1 d.gone.length c1, .slice a2 d.grow.length c2, .slice (some ⟨gl, ol, none⟩) d.ungrow.length c3, .slice a4 d.shrink.length c4, .slice a5 d.unshrink.length c5] : Array Value)[o]?) ∧ (∀ o, W.cell? ⟨gx, o, none⟩ = (#[.string x1, .string x2] : Array Value)[o]?)) 8 (by kernel_rfl) ⟨(HM.out.blk.below (below_drew (Below.refl _ _))).1, (HX.out.below (below_drew (Below.refl _ _))).1⟩ (fun hHeld => ?_)
        have hd := below_drew (Below.refl wA.heap.size wA)
        have HM := Lib.hid (HM.out.kp hd)
        have HB := Lib.hid (HB.out.trans (hd.mono HB.out.size))
        have HX := Lib.hid (HX.out.below hd)
        obtain ⟨W4, hW4⟩ : ∃ V, V = wA.drew := ⟨_, rfl⟩
        rw [← hW4] at HM HB HX hHeld ⊢
        clear hd hW4
        (refine lyes 0 ?_); (refine lyes 1 ?_); (refine lyes 2 ?_); (refine lyes 3 ?_); (refine lyes 4 ?_); (try simp only [Act.put, List.setIfInBounds_toArray, List.set])
        (refine last_call 5 rfl (by kernel_rfl) (fun K hK => ?_); go_simp)
        obtain ⟨W5, hW5⟩ : ∃ V, V = W4.alloc (.cells #[.string x1, .string x2] 78) := ⟨_, rfl⟩
        obtain ⟨bn, hbn⟩ : ∃ b, b = W4.heap.size := ⟨_, rfl⟩
        rw [← hW5, ← hbn]
        have hbq : Below W4.heap.size W4 W5 := by rw [hW5]; exact (Below.refl _ _).alloc (Nat.le_refl _) _
        have HN1 := Lib.hid (show Sl W5 2 (.slice (some ⟨bn, 0, none⟩) 1 1) 1 ([.string x1, .string x2]) by rw [hW5]; exact Sl.new W4 [.string x1, .string x2] 78 2 1 bn hbn rfl (by simp [maxLen]))
        have HM5 := Lib.hid (HM.out.kp hbq)
        have HB5 := Lib.hid (HB.out.trans (hbq.mono HB.out.size))
        have HX5 := Lib.hid (HX.out.below hbq)
        clear hbq hW5 hbn HM HB HX
        (refine hK.out _ _ ⟨HM5.out.blk.1, HX5.out.1⟩ (fun hHeld => ?_); clear hK K; (try simp only [Act.put, List.setIfInBounds_toArray, List.set]))
        obtain ⟨inf, hin, hs0, hs1, hs2⟩ := info_parts rl_info'
        have HIN := Lib.hid hin
        clear hin
        refine last_call 6 rfl (by kernel_rfl) (fun K hK => ?_)
        refine step_rowE rfl _ _ 23 rfl C 78 inf _ 2 32 Tryz.underlying23 HIN.out hs0 hs1 hs2 (by decide) rfl (by decide) _ d.ungrow.length _ rfl HM5.out.r3 _ 1 _ rfl HN1.out.a (rl_oneD ⟨x1, x2⟩) (by omega) HM5.out.hC ?_
        intro a9 c9 wc hown9 hg9 hlie
        have hneb : some b ≠ (Value.slice (some ⟨gl, ol, none⟩) d.ungrow.length c3).ownBlock := fun e => by have := (own_type HM5.out.r3 e.symm).1; omega
        have HKG := Lib.hid (Kp.of_grown (X := fun k => some k = (Value.slice (some ⟨gl, ol, none⟩) d.ungrow.length c3).ownBlock) hg9 (fun _ h => h))
        have HBG := Lib.hid (HKG.out.blk HM5.out.blk hneb)
        have hneq : some gx ≠ (Value.slice (some ⟨gl, ol, none⟩) d.ungrow.length c3).ownBlock := fun e => by
          obtain ⟨_, cs, h2⟩ := own_type HMo.out.r3 e.symm
          have := (Array.getElem?_eq_some_iff.1 h2).1
          have := hgx.out
          omega
        have HQG := Lib.hid (HKG.out.blk HX5.out hneq)
        have HLIE := Lib.hid hlie
        have e1 : (d.ungrow ++ [(⟨x1, x2⟩ : Rl)]).length = d.ungrow.length + 1 := by simp
        have HO9 := Lib.hid (show wc.ownsRow C 78 2 (.slice a9 (d.ungrow.length + 1) c9) (d.ungrow ++ [(⟨x1, x2⟩ : Rl)]).length ((d.ungrow ++ [(⟨x1, x2⟩ : Rl)]).flatMap Rl.cells) by
          rw [e1, List.flatMap_append, List.flatMap_singleton]; exact hown9)
        clear hg9 hown9 hlie HN1 HIN hs0 hs1 hs2 hneb hneq e1
        (refine hK.out _ _ ⟨HBG.out.1, HQG.out.1⟩ (fun hHeld => ?_); clear hK K; (try simp only [Act.put, List.setIfInBounds_toArray, List.set]))
        (refine lyes 7 ?_); (try simp only [Act.put, List.setIfInBounds_toArray, List.set])
        obtain ⟨cg, fg, zg⟩ := HBG.out
        (refine last_end 8 rfl (by kernel_rfl) (by kernel_rfl) (fun K hK => ?_); go_simp)
        clear cg fg zg
        have HMP := Lib.hid (HM5.out.put3 HKG.out HO9.out HLIE.out)
        have HKP := Lib.hid (((Kp.of_below (X := fun k => k = b ∨ C ≤ k) HB5.out).trans HKG.out (fun g hg e => .inr (own_type HMo.out.r3 e.symm).1)).trans (Kp.set (X := fun k => k = b) (o := 3) (v := .slice a9 (d.ungrow.length + 1) c9) rfl) (fun g _ e => .inl e))
        obtain ⟨wd, hwd⟩ : ∃ V, V = wc.setCell ⟨b, 3, none⟩ (.slice a9 (d.ungrow.length + 1) c9) := ⟨_, rfl⟩
        rw [← hwd] at HMP HKP ⊢
        clear hwd HBG HQG HKG HO9 HM5 HB5 HX5 HLIE
        refine hK.out _ _ ?_
        clear hK K
        go_wp2
        refine bodyPost_ret (v := .tuple #[.int .i64 2, .bool true]) (by simp [results, Tryz.results52, go_sem]) rfl ?_
        exact ⟨by rw [hRs.out]; rfl, HKP.out, fun d' hd => by rw [hRs.out] at hd; cases hd; exact ⟨_, _, _, _, _, _, HMP.out⟩⟩
      · have dc : decide (cc < 0) = false := decide_eq_false hcc
        (refine hyes 16 ?_); (refine hyes 17 ?_); (refine hyes 18 ?_); (try simp only [Act.put, List.setIfInBounds_toArray, List.set])
        refine wpAnyH_done (by kernel_rfl) ?_ _
        clear hHeld
        obtain ⟨wA, rfl⟩ : ∃ V, V = w8 := ⟨_, rfl⟩
        have hRn := Lib.hid (show R = none from HRN.out (fun h => by rw [BE.out] at h; exact hcc (of_decide_eq_true h.2)))
        go_wp2
        refine bodyPost_ret (v := .tuple #[.int .i64 2, .bool false]) (by simp [results, Tryz.results52, go_sem]) rfl ?_
        exact ⟨by rw [hRn.out]; rfl, Kp.of_below HB.out, fun d' hd => by rw [hRn.out] at hd; cases hd⟩
    · have dn : decide ((0 : Int) < (d.ungrow.length : Int)) = false := decide_eq_false (by omega)
      have dn2 : decide (0 < d.ungrow.length) = false := decide_eq_false hn0
      have BE := Lib.hid (beh_zeroR (x := ⟨x1, x2⟩) hn0)
      clear hn0
      refine wp_region_held_drew (S := (fun W => (∀ o, W.cell? ⟨b, o, none⟩ = (#[.slice a0 d.more.length c0, .slice a1 d.gone.length c1, .slice a2 d.grow.length c2, .slice a3 d.ungrow.length c3, .slice a4 d.shrink.length c4, .slice a5 d.unshrink.length c5] : Array Value)[o]?) ∧ (∀ o, W.cell? ⟨gx, o, none⟩ = (#[.string x1, .string x2] : Array Value)[o]?))) (by kernel_rfl) ⟨(HM.out.blk.below (below_drew (Below.refl _ _))).1, (HX.out.below (below_drew (Below.refl _ _))).1⟩ (fun hHeld => ?_)
      have hd := below_drew (Below.refl w5.heap.size w5)
      have HB := Lib.hid (HB.out.trans (hd.mono HB.out.size))
      have HM := Lib.hid (HM.out.kp hd)
      have HX := Lib.hid (HX.out.below hd)
      obtain ⟨w6, hw6⟩ : ∃ V, V = w5.drew := ⟨_, rfl⟩
      rw [← hw6] at HB HM HX hHeld ⊢
      clear hd hw6
      (refine hyes 0 ?_); (try simp only [Act.put, List.setIfInBounds_toArray, List.set])
      (refine held_call 1 rfl (by kernel_rfl) (fun K hK => ?_); go_simp)
      go_at_call 108; refine (IR.out _).mono ?_; rintro e w7 ⟨rfl, hb7⟩
      have HB := Lib.hid (HB.out.trans (hb7.mono HB.out.size))
      have HM := Lib.hid (HM.out.kp hb7)
      have HX := Lib.hid (HX.out.below hb7)
      clear hb7 IR
      (refine hK.out _ _ ⟨HM.out.blk.1, HX.out.1⟩ (fun hHeld => ?_); clear hK K; (try simp only [Act.put, List.setIfInBounds_toArray, List.set]))
      (refine hyes 2 ?_); (refine hyes 3 ?_); (refine hyes 4 ?_); (refine hyes 5 ?_); (refine hyes 6 ?_); (try simp only [Act.put, List.setIfInBounds_toArray, List.set])
      (refine hno 7 ?_); (refine hno 8 ?_); (refine hno 9 ?_); (refine hno 10 ?_); (refine hno 11 ?_); (refine hno 12 ?_); (refine hno 13 ?_); (refine hno 14 ?_); (refine hno 15 ?_); (refine hno 16 ?_); (try simp only [Act.put, List.setIfInBounds_toArray, List.set])
      (refine hyes 17 ?_); (refine hyes 18 ?_); (try simp only [Act.put, List.setIfInBounds_toArray, List.set])
      refine wpAnyH_done (by kernel_rfl) ?_ _
      clear hHeld
      obtain ⟨wA, rfl⟩ : ∃ V, V = w7 := ⟨_, rfl⟩
      have hRs := Lib.hid (show R = some { d with ungrow := d.ungrow ++ [(⟨x1, x2⟩ : Rl)] } from HRY.out ⟨rfl, BE.out⟩)
      clear HRY HRN
      have hC := HM.out.hC
      have hbC := HM.out.hb
      have hzx := HX.out.2.2
      obtain ⟨cm, fm, zm⟩ := HM.out.blk
      obtain ⟨cx, fx, zx⟩ := HX.out
      go_upto_region 18 with fail
      clear cm fm zm cx fx zx
      refine wp_region_last (S := fun W => (∀ o, W.cell? ⟨b, o, none⟩ = (#[.slice a0 d.more.length c0, .slice a1 d.gone.length c1, .slice a2 d.grow.length c2, .slice a3 d.ungrow.length c3, .slice a4 d.shrink.length c4, .slice a5 d.unshrink.length c5] : Array Value)[o]?) ∧ (∀ o, W.cell? ⟨gx, o, none⟩ = (#[.string x1, .string x2] : Array Value)[o]?)) 8 (by kernel_rfl) ⟨(HM.out.blk.below (below_drew (Below.refl _ _))).1, (HX.out.below (below_drew (Below.refl _ _))).1⟩ (fun hHeld => ?_)
      have hd := below_drew (Below.refl wA.heap.size wA)
      have HM := Lib.hid (HM.out.kp hd)
      have HB := Lib.hid (HB.out.trans (hd.mono HB.out.size))
      have HX := Lib.hid (HX.out.below hd)
      obtain ⟨W4, hW4⟩ : ∃ V, V = wA.drew := ⟨_, rfl⟩
      rw [← hW4] at HM HB HX hHeld ⊢
      clear hd hW4
      (refine lyes 0 ?_); (refine lyes 1 ?_); (refine lyes 2 ?_); (refine lyes 3 ?_); (refine lyes 4 ?_); (try simp only [Act.put, List.setIfInBounds_toArray, List.set])
      (refine last_call 5 rfl (by kernel_rfl) (fun K hK => ?_); go_simp)
      obtain ⟨W5, hW5⟩ : ∃ V, V = W4.alloc (.cells #[.string x1, .string x2] 78) := ⟨_, rfl⟩
      obtain ⟨bn, hbn⟩ : ∃ b, b = W4.heap.size := ⟨_, rfl⟩
      rw [← hW5, ← hbn]
      have hbq : Below W4.heap.size W4 W5 := by rw [hW5]; exact (Below.refl _ _).alloc (Nat.le_refl _) _
      have HN1 := Lib.hid (show Sl W5 2 (.slice (some ⟨bn, 0, none⟩) 1 1) 1 ([.string x1, .string x2]) by rw [hW5]; exact Sl.new W4 [.string x1, .string x2] 78 2 1 bn hbn rfl (by simp [maxLen]))
      have HM5 := Lib.hid (HM.out.kp hbq)
      have HB5 := Lib.hid (HB.out.trans (hbq.mono HB.out.size))
      have HX5 := Lib.hid (HX.out.below hbq)
      clear hbq hW5 hbn HM HB HX
      (refine hK.out _ _ ⟨HM5.out.blk.1, HX5.out.1⟩ (fun hHeld => ?_); clear hK K; (try simp only [Act.put, List.setIfInBounds_toArray, List.set]))
      obtain ⟨inf, hin, hs0, hs1, hs2⟩ := info_parts rl_info'
      have HIN := Lib.hid hin
      clear hin
      refine last_call 6 rfl (by kernel_rfl) (fun K hK => ?_)
      refine step_rowE rfl _ _ 23 rfl C 78 inf _ 2 32 Tryz.underlying23 HIN.out hs0 hs1 hs2 (by decide) rfl (by decide) _ d.ungrow.length _ rfl HM5.out.r3 _ 1 _ rfl HN1.out.a (rl_oneD ⟨x1, x2⟩) (by omega) HM5.out.hC ?_
      intro a9 c9 wc hown9 hg9 hlie
      have hneb : some b ≠ (Value.slice a3 d.ungrow.length c3).ownBlock := fun e => by have := (own_type HM5.out.r3 e.symm).1; omega
      have HKG := Lib.hid (Kp.of_grown (X := fun k => some k = (Value.slice a3 d.ungrow.length c3).ownBlock) hg9 (fun _ h => h))
      have HBG := Lib.hid (HKG.out.blk HM5.out.blk hneb)
      have hneq : some gx ≠ (Value.slice a3 d.ungrow.length c3).ownBlock := fun e => by
        obtain ⟨_, cs, h2⟩ := own_type HMo.out.r3 e.symm
        have := (Array.getElem?_eq_some_iff.1 h2).1
        have := hgx.out
        omega
      have HQG := Lib.hid (HKG.out.blk HX5.out hneq)
      have HLIE := Lib.hid hlie
      have e1 : (d.ungrow ++ [(⟨x1, x2⟩ : Rl)]).length = d.ungrow.length + 1 := by simp
      have HO9 := Lib.hid (show wc.ownsRow C 78 2 (.slice a9 (d.ungrow.length + 1) c9) (d.ungrow ++ [(⟨x1, x2⟩ : Rl)]).length ((d.ungrow ++ [(⟨x1, x2⟩ : Rl)]).flatMap Rl.cells) by
        rw [e1, List.flatMap_append, List.flatMap_singleton]; exact hown9)
      clear hg9 hown9 hlie HN1 HIN hs0 hs1 hs2 hneb hneq e1
      (refine hK.out _ _ ⟨HBG.out.1, HQG.out.1⟩ (fun hHeld => ?_); clear hK K; (try simp only [Act.put, List.setIfInBounds_toArray, List.set]))
      (refine lyes 7 ?_); (try simp only [Act.put, List.setIfInBounds_toArray, List.set])
      obtain ⟨cg, fg, zg⟩ := HBG.out
      (refine last_end 8 rfl (by kernel_rfl) (by kernel_rfl) (fun K hK => ?_); go_simp)
      clear cg fg zg
      have HMP := Lib.hid (HM5.out.put3 HKG.out HO9.out HLIE.out)
      have HKP := Lib.hid (((Kp.of_below (X := fun k => k = b ∨ C ≤ k) HB5.out).trans HKG.out (fun g hg e => .inr (own_type HMo.out.r3 e.symm).1)).trans (Kp.set (X := fun k => k = b) (o := 3) (v := .slice a9 (d.ungrow.length + 1) c9) rfl) (fun g _ e => .inl e))
      obtain ⟨wd, hwd⟩ : ∃ V, V = wc.setCell ⟨b, 3, none⟩ (.slice a9 (d.ungrow.length + 1) c9) := ⟨_, rfl⟩
      rw [← hwd] at HMP HKP ⊢
      clear hwd HBG HQG HKG HO9 HM5 HB5 HX5 HLIE
      refine hK.out _ _ ?_
      clear hK K
      go_wp2
      refine bodyPost_ret (v := .tuple #[.int .i64 2, .bool true]) (by simp [results, Tryz.results52, go_sem]) rfl ?_
      exact ⟨by rw [hRs.out]; rfl, HKP.out, fun d' hd => by rw [hRs.out] at hd; cases hd; exact ⟨_, _, _, _, _, _, HMP.out⟩⟩
  | false =>
    rw [hir] at IR HRN
    clear HRY
    have HRN := Lib.hid (HRN.out (fun h => by cases h.1))
    clear hir
    refine wp_region_held_drew (S := (fun W => (∀ o, W.cell? ⟨b, o, none⟩ = (#[.slice a0 d.more.length c0, .slice a1 d.gone.length c1, .slice a2 d.grow.length c2, .slice a3 d.ungrow.length c3, .slice a4 d.shrink.length c4, .slice a5 d.unshrink.length c5] : Array Value)[o]?) ∧ (∀ o, W.cell? ⟨gx, o, none⟩ = (#[.string x1, .string x2] : Array Value)[o]?))) (by kernel_rfl) ⟨(HM.out.blk.below (below_drew (Below.refl _ _))).1, (HX.out.below (below_drew (Below.refl _ _))).1⟩ (fun hHeld => ?_)
    have hd := below_drew (Below.refl w5.heap.size w5)
    have HB := Lib.hid (HB.out.trans (hd.mono HB.out.size))
    have HM := Lib.hid (HM.out.kp hd)
    have HX := Lib.hid (HX.out.below hd)
    obtain ⟨w6, hw6⟩ : ∃ V, V = w5.drew := ⟨_, rfl⟩
    rw [← hw6] at HB HM HX hHeld ⊢
    clear hd hw6
    (refine hyes 0 ?_); (try simp only [Act.put, List.setIfInBounds_toArray, List.set])
    (refine held_call 1 rfl (by kernel_rfl) (fun K hK => ?_); go_simp)
    go_at_call 108; refine (IR.out _).mono ?_; rintro e w7 ⟨rfl, hb7⟩
    have HB := Lib.hid (HB.out.trans (hb7.mono HB.out.size))
    have HM := Lib.hid (HM.out.kp hb7)
    have HX := Lib.hid (HX.out.below hb7)
    clear hb7 IR
    (refine hK.out _ _ ⟨HM.out.blk.1, HX.out.1⟩ (fun hHeld => ?_); clear hK K; (try simp only [Act.put, List.setIfInBounds_toArray, List.set]))
    (refine hyes 2 ?_); (refine hyes 3 ?_); (try simp only [Act.put, List.setIfInBounds_toArray, List.set])
    (refine hno 4 ?_); (refine hno 5 ?_); (refine hno 6 ?_); (refine hno 7 ?_); (refine hno 8 ?_); (refine hno 9 ?_); (refine hno 10 ?_); (refine hno 11 ?_); (refine hno 12 ?_); (refine hno 13 ?_); (refine hno 14 ?_); (refine hno 15 ?_); (refine hno 16 ?_); (refine hno 17 ?_); (try simp only [Act.put, List.setIfInBounds_toArray, List.set])
    (refine hyes 18 ?_); (try simp only [Act.put, List.setIfInBounds_toArray, List.set])
    refine wpAnyH_done (by kernel_rfl) ?_ _
    clear hHeld
    obtain ⟨wA, rfl⟩ : ∃ V, V = w7 := ⟨_, rfl⟩
    have hRn := Lib.hid (show R = none from HRN.out)
    go_wp2
    refine bodyPost_ret (v := .tuple #[.int .i64 2, .bool false]) (by simp [results, Tryz.results52, go_sem]) rfl ?_
    exact ⟨by rw [hRn.out]; rfl, Kp.of_below HB.out, fun d' hd => by rw [hRn.out] at hd; cases hd⟩
end Go.Proofs.YtomhekohcadijaaGreatDoor
namespace Go.Proofs.YtomhekohcadijaaGreatDoor
open Go.RowKit Go.Shelf

set_option maxRecDepth 100000 in
set_option maxHeartbeats 8000000 in
theorem delta_put3 (s rest : ByteArray) (last : Int) (C b : Nat) (v0 v1 v2 v3 v4 v5 : Value) (d : Dl) (w : World) (hg : Gl w) (h : MkD C b w v0 v1 v2 v3 v4 v5 d) (hs : s.size ≤ 1000000) (hn : d.grow.length ≤ 100000) (hk : kindB s = (3, rest)) (hl : last ≤ 3) :
    Calls Tryz.prog 52 #[.pointer (some ⟨b, 0, none⟩), .string s, .int .i64 last] w fun e w' => PutP C b w 3 (if okLnR d.grow rest = true then some { d with grow := d.grow ++ [cutR rest] } else none) e w' := by
  have HG := Lib.hid hg
  have HM := Lib.hid h
  have hrs : rest.size ≤ 1000000 := by have := kindL_size s (bkL marksB 6); rw [show kindL s (bkL marksB 6) = (3, rest) from hk] at this; exact Nat.le_trans this hs
  have KD := Lib.hid (fun W => delta_kind s W (by omega))
  rw [hk] at KD
  obtain ⟨a0, c0, rfl⟩ := own_form h.r0
  obtain ⟨a1, c1, rfl⟩ := own_form h.r1
  obtain ⟨a2, c2, rfl⟩ := own_form h.r2
  obtain ⟨a3, c3, rfl⟩ := own_form h.r3
  obtain ⟨a4, c4, rfl⟩ := own_form h.r4
  obtain ⟨a5, c5, rfl⟩ := own_form h.r5
  obtain ⟨R, hR⟩ : ∃ R, R = (if okLnR d.grow rest = true then some { d with grow := d.grow ++ [cutR rest] } else none) := ⟨_, rfl⟩
  rw [← hR]
  have HR := Lib.hid hR
  have d1 : decide ((3 : Int) < last) = false := decide_eq_false (by omega)
  clear hg h hk hR hs
  go_enter Tryz.func52, Tryz.ntmps52
  go_wp2_with fail
  refine (KD.out _).mono ?_
  rintro e w1 ⟨rfl, hb1⟩
  have HB := Lib.hid hb1
  have HM := Lib.hid (HM.out.kp hb1)
  clear hb1 KD
  go_wp2_with fail
  have HRY := Lib.hid (show isRole (cutR rest) = true ∧ behR d.grow (cutR rest) = true → R = some { d with grow := d.grow ++ [cutR rest] } from fun h => by rw [HR.out, if_pos (okLnR_iff.2 h)])
  have HRN := Lib.hid (show ¬ (isRole (cutR rest) = true ∧ behR d.grow (cutR rest) = true) → R = none from fun h => by rw [HR.out, if_neg (fun h' => h (okLnR_iff.1 h'))])
  clear HR
  obtain ⟨mg, hmg⟩ := HG.out.below HB.out
  have CT := Tryz.strings_Cut rest ⟨#[46]⟩ mg w1 (by omega) hmg
  have CT := Lib.hid (show Calls Tryz.prog 91 #[.string rest, .string ⟨#[46]⟩] w1 fun e w' => e = .returned (.tuple #[.string (cutR rest).o, .string (cutR rest).n, .bool (Lib.cut (bl rest) [46]).2.2]) ∧ ∃ n, w' = w1.drewN n from CT)
  have hle := Lib.hid (cutR_le hrs)
  generalize (Lib.cut (bl rest) [46]).2.2 = fb at CT
  generalize cutR rest = x at *
  obtain ⟨x1, x2⟩ := x
  dsimp only at CT
  refine CT.out.mono ?_
  rintro e w2 ⟨rfl, n2, hn2⟩
  have hb2 : Below w1.heap.size w1 w2 := by rw [hn2]; exact below_of_drewN n2
  have HB := Lib.hid (HB.out.trans (hb2.mono HB.out.size))
  have HM := Lib.hid (HM.out.kp hb2)
  clear hb2 CT hn2 hmg
  obtain ⟨gx, hgx0⟩ : ∃ g, g = w2.heap.size := ⟨_, rfl⟩
  have HX := Lib.hid (Blk.new w2 #[.string x1, .string x2] 78)
  have hba := (Below.refl w2.heap.size w2).alloc (Nat.le_refl _) (.cells #[.string x1, .string x2] 78)
  have HMo := HM
  have hgx := Lib.hid (show w2.heap.size ≤ gx by rw [hgx0]; exact Nat.le_refl _)
  have HB := Lib.hid (HB.out.trans (hba.mono HB.out.size))
  have HM := Lib.hid (HM.out.kp hba)
  obtain ⟨w3, hw3⟩ : ∃ V, V = w2.alloc (.cells #[.string x1, .string x2] 78) := ⟨_, rfl⟩
  rw [← hw3] at HX HB HM
  rw [← hgx0] at HX
  clear hba
  go_upto_region 14 with fail
  rw [← hw3, ← hgx0]
  clear hw3 hgx0
  refine wp_region_held_drew (S := fun _ => True) (by kernel_rfl) trivial (fun hHeld => ?_)
  have hd := below_drew (Below.refl w3.heap.size w3)
  have HB := Lib.hid (HB.out.trans (hd.mono HB.out.size))
  have HM := Lib.hid (HM.out.kp hd)
  have HX := Lib.hid (HX.out.below hd)
  obtain ⟨w4, hw4⟩ : ∃ V, V = w3.drew := ⟨_, rfl⟩
  rw [← hw4] at HB HM HX ⊢
  clear hd hw4
  (refine hyes 0 ?_); (refine hyes 1 ?_); (refine hyes 2 ?_); (refine hyes 3 ?_); (refine hyes 4 ?_); (refine hyes 5 ?_); (refine hyes 6 ?_); (refine hyes 7 ?_); (refine hyes 8 ?_); (refine hyes 9 ?_); (refine hyes 10 ?_); (refine hyes 11 ?_); (refine hyes 13 ?_); (refine hyes 14 ?_); (try simp only [Act.put, List.setIfInBounds_toArray, List.set])
  (refine held_call 12 rfl (by kernel_rfl) (fun K hK => ?_); go_simp)
  obtain ⟨w5, hw5⟩ : ∃ V, V = w4.alloc (.cells #[.pointer (some ⟨b, 3, none⟩), .pointer (some ⟨b, 2, none⟩), .pointer (some ⟨b, 5, none⟩), .pointer (some ⟨b, 4, none⟩)] 147) := ⟨_, rfl⟩
  obtain ⟨bn, hbn⟩ : ∃ b, b = w4.heap.size := ⟨_, rfl⟩
  rw [← hw5, ← hbn]
  have hd : Below w4.heap.size w4 w5 := by rw [hw5]; exact (Below.refl _ _).alloc (Nat.le_refl _) _
  have hq : w5.cell? ⟨bn, 1, none⟩ = some (.pointer (some ⟨b, 2, none⟩)) := by
    rw [hw5, hbn]; exact (Blk.new w4 #[.pointer (some ⟨b, 3, none⟩), .pointer (some ⟨b, 2, none⟩), .pointer (some ⟨b, 5, none⟩), .pointer (some ⟨b, 4, none⟩)] 147).1 1
  have HB := Lib.hid (HB.out.trans (hd.mono HB.out.size))
  have HM := Lib.hid (HM.out.kp hd)
  have HX := Lib.hid (HX.out.below hd)
  clear hd hw5 hbn
  (refine hK.out _ _ trivial (fun hHeld => ?_); clear hK K; (try simp only [Act.put, List.setIfInBounds_toArray, List.set]))
  have hwi : IntKind.i64.wrap 1 = 1 := by decide
  (refine hnow 15 ?_); (refine hnow 16 ?_); (refine hnow 17 ?_); (try simp only [Act.put, List.setIfInBounds_toArray, List.set])
  refine wpAnyH_done (by kernel_rfl) ?_ _
  clear hq hHeld hwi
  obtain ⟨cm, fm, zm⟩ := HM.out.blk
  go_upto_region 16 with fail
  clear cm fm zm
  have IR := Lib.hid (fun W => syn_IsRole ⟨x1, x2⟩ W hle.out)
  cases hir : isRole ⟨x1, x2⟩ with
  | true =>
    rw [hir] at IR HRY HRN
    have HIR := Lib.hid hir
    clear hir
    by_cases hn0 : 0 < d.grow.length
    · have dn : decide ((0 : Int) < (d.grow.length : Int)) = true := decide_eq_true (by omega)
      have dn2 : decide (0 < d.grow.length) = true := decide_eq_true hn0
      obtain ⟨gl, ol, cl, he, hc1, hm1, hbl, hxl⟩ := (Sl.of_own HM.out.r2).pos hn0
      simp only [Value.slice.injEq, true_and] at he
      obtain ⟨rfl, rfl⟩ := he
      obtain ⟨p0, p1⟩ := rl_cell hxl (d.grow.length - 1) (by omega)
      obtain ⟨m, hm⟩ : ∃ m, m = d.grow.length - 1 := ⟨_, rfl⟩
      have hwm : IntKind.i64.wrap ((d.grow.length : Int) - 1) = (m : Int) := by rw [show (d.grow.length : Int) - 1 = (m : Int) by omega]; exact Go.IntWalk.i64_in _ (by omega)
      have hml : m < d.grow.length := by omega
      have BE := Lib.hid (beh_oneR (x := ⟨x1, x2⟩) hn0)
      clear hxl
      simp only [← hm] at p0 p1 BE
      have OR := Lib.hid (fun W => syn_LessB d.grow[m] ⟨x1, x2⟩ W)
      generalize d.grow[m] = z at *
      clear hm
      obtain ⟨z1, z2⟩ := z
      generalize cmpR ⟨z1, z2⟩ ⟨x1, x2⟩ = cc at OR BE
      refine wp_region_held_drew (S := fun W => (∀ o, W.cell? ⟨b, o, none⟩ = (#[.slice a0 d.more.length c0, .slice a1 d.gone.length c1, .slice (some ⟨gl, ol, none⟩) d.grow.length c2, .slice a3 d.ungrow.length c3, .slice a4 d.shrink.length c4, .slice a5 d.unshrink.length c5] : Array Value)[o]?) ∧ (∀ o, W.cell? ⟨gx, o, none⟩ = (#[.string x1, .string x2] : Array Value)[o]?) ∧ W.cell? ⟨gl, ol + m * 2, none⟩ = some (.string z1) ∧ W.cell? ⟨gl, ol + m * 2 + 1, none⟩ = some (.string z2)) (by kernel_rfl) ⟨(HM.out.blk.below (below_drew (Below.refl _ _))).1, (HX.out.below (below_drew (Below.refl _ _))).1, p0, p1⟩ (fun hHeld => ?_)
      have hd := below_drew (Below.refl w5.heap.size w5)
      have HB := Lib.hid (HB.out.trans (hd.mono HB.out.size))
      have HM := Lib.hid (HM.out.kp hd)
      have HX := Lib.hid (HX.out.below hd)
      have HP0 := Lib.hid ((hd.cell (p := ⟨gl, ol + m * 2, none⟩) hbl).trans p0)
      have HP1 := Lib.hid ((hd.cell (p := ⟨gl, ol + m * 2 + 1, none⟩) hbl).trans p1)
      clear p0 p1
      obtain ⟨w6, hw6⟩ : ∃ V, V = w5.drew := ⟨_, rfl⟩
      have hbl6 : gl < w6.heap.size := by rw [hw6]; exact Nat.lt_of_lt_of_le hbl hd.size
      rw [← hw6] at HB HM HX HP0 HP1 hHeld ⊢
      clear hd hw6 hbl
      (refine hyes 0 ?_); (try simp only [Act.put, List.setIfInBounds_toArray, List.set])
      (refine held_call 1 rfl (by kernel_rfl) (fun K hK => ?_); go_simp)
      go_at_call 108; refine (IR.out _).mono ?_; rintro e w7 ⟨rfl, hb7⟩
      have HB := Lib.hid (HB.out.trans (hb7.mono HB.out.size))
      have HM := Lib.hid (HM.out.kp hb7)
      have HX := Lib.hid (HX.out.below hb7)
      have HP0 := Lib.hid ((hb7.cell (p := ⟨gl, ol + m * 2, none⟩) hbl6).trans HP0.out)
      have HP1 := Lib.hid ((hb7.cell (p := ⟨gl, ol + m * 2 + 1, none⟩) hbl6).trans HP1.out)
      have hbl7 : gl < w7.heap.size := Nat.lt_of_lt_of_le hbl6 hb7.size
      clear hb7 IR hbl6
      (refine hK.out _ _ ⟨HM.out.blk.1, HX.out.1, HP0.out, HP1.out⟩ (fun hHeld => ?_); clear hK K; (try simp only [Act.put, List.setIfInBounds_toArray, List.set]))
      (refine hyes 2 ?_); (refine hyes 3 ?_); (refine hyes 4 ?_); (refine hyes 5 ?_); (refine hyes 6 ?_); (refine hyes 7 ?_); (refine hyes 8 ?_); (refine hyes 9 ?_); (refine hyes 10 ?_); (refine hyes 11 ?_); (refine hyes 12 ?_); (refine hyes 13 ?_); (refine hyes 14 ?_); (try simp only [Act.put, List.setIfInBounds_toArray, List.set])
      (refine held_call 15 rfl (by kernel_rfl) (fun K hK => ?_); go_simp)
      go_at_call 109; refine (OR.out _).mono ?_; rintro e w8 ⟨rfl, hb8⟩
      have HB := Lib.hid (HB.out.trans (hb8.mono HB.out.size))
      have HM := Lib.hid (HM.out.kp hb8)
      have HX := Lib.hid (HX.out.below hb8)
      have HP0 := Lib.hid ((hb8.cell (p := ⟨gl, ol + m * 2, none⟩) hbl7).trans HP0.out)
      have HP1 := Lib.hid ((hb8.cell (p := ⟨gl, ol + m * 2 + 1, none⟩) hbl7).trans HP1.out)
      clear hb8 OR hbl7
      (refine hK.out _ _ ⟨HM.out.blk.1, HX.out.1, HP0.out, HP1.out⟩ (fun hHeld => ?_); clear hK K; (try simp only [Act.put, List.setIfInBounds_toArray, List.set]))
      clear HP0 HP1
      by_cases hcc : cc < 0
      · have dc : decide (cc < 0) = true := decide_eq_true hcc
        (refine hyes 16 ?_); (refine hyes 17 ?_); (refine hyes 18 ?_); (try simp only [Act.put, List.setIfInBounds_toArray, List.set])
        refine wpAnyH_done (by kernel_rfl) ?_ _
        clear hHeld
        obtain ⟨wA, rfl⟩ : ∃ V, V = w8 := ⟨_, rfl⟩
        have hRs := Lib.hid (show R = some { d with grow := d.grow ++ [(⟨x1, x2⟩ : Rl)] } from HRY.out ⟨rfl, BE.out.trans (decide_eq_true hcc)⟩)
        clear HRY HRN
        have hC := HM.out.hC
        have hbC := HM.out.hb
        have hzx := HX.out.2.2
        obtain ⟨cm, fm, zm⟩ := HM.out.blk
        obtain ⟨cx, fx, zx⟩ := HX.out
        go_upto_region 18 with fail
        clear cm fm zm cx fx zx
        refine wp_region_last (S := fun W => (∀ o, W.cell? ⟨b, o, none⟩ = (#[.slice a0 d.more.length c0, .slice a1 d.gone.length c1, .slice (some ⟨gl, ol, none⟩) d.grow.length c2, .slice a3 d.ungrow.length c3, .slice a4 d.shrink.length c4, .slice a5 d.unshrink.length c5] : Array Value)[o]?) ∧ (∀ o, W.cell? ⟨gx, o, none⟩ = (#[.string x1, .string x2] : Array Value)[o]?)) 8 (by kernel_rfl) ⟨(HM.out.blk.below (below_drew (Below.refl _ _))).1, (HX.out.below (below_drew (Below.refl _ _))).1⟩ (fun hHeld => ?_)
        have hd := below_drew (Below.refl wA.heap.size wA)
        have HM := Lib.hid (HM.out.kp hd)
        have HB := Lib.hid (HB.out.trans (hd.mono HB.out.size))
        have HX := Lib.hid (HX.out.below hd)
        obtain ⟨W4, hW4⟩ : ∃ V, V = wA.drew := ⟨_, rfl⟩
        rw [← hW4] at HM HB HX hHeld ⊢
        clear hd hW4
        (refine lyes 0 ?_); (refine lyes 1 ?_); (refine lyes 2 ?_); (refine lyes 3 ?_); (refine lyes 4 ?_); (try simp only [Act.put, List.setIfInBounds_toArray, List.set])
        (refine last_call 5 rfl (by kernel_rfl) (fun K hK => ?_); go_simp)
        obtain ⟨W5, hW5⟩ : ∃ V, V = W4.alloc (.cells #[.string x1, .string x2] 78) := ⟨_, rfl⟩
        obtain ⟨bn, hbn⟩ : ∃ b, b = W4.heap.size := ⟨_, rfl⟩
        rw [← hW5, ← hbn]
        have hbq : Below W4.heap.size W4 W5 := by rw [hW5]; exact (Below.refl _ _).alloc (Nat.le_refl _) _
        have HN1 := Lib.hid (show Sl W5 2 (.slice (some ⟨bn, 0, none⟩) 1 1) 1 ([.string x1, .string x2]) by rw [hW5]; exact Sl.new W4 [.string x1, .string x2] 78 2 1 bn hbn rfl (by simp [maxLen]))
        have HM5 := Lib.hid (HM.out.kp hbq)
        have HB5 := Lib.hid (HB.out.trans (hbq.mono HB.out.size))
        have HX5 := Lib.hid (HX.out.below hbq)
        clear hbq hW5 hbn HM HB HX
        (refine hK.out _ _ ⟨HM5.out.blk.1, HX5.out.1⟩ (fun hHeld => ?_); clear hK K; (try simp only [Act.put, List.setIfInBounds_toArray, List.set]))
        obtain ⟨inf, hin, hs0, hs1, hs2⟩ := info_parts rl_info'
        have HIN := Lib.hid hin
        clear hin
        refine last_call 6 rfl (by kernel_rfl) (fun K hK => ?_)
        refine step_rowE rfl _ _ 23 rfl C 78 inf _ 2 32 Tryz.underlying23 HIN.out hs0 hs1 hs2 (by decide) rfl (by decide) _ d.grow.length _ rfl HM5.out.r2 _ 1 _ rfl HN1.out.a (rl_oneD ⟨x1, x2⟩) (by omega) HM5.out.hC ?_
        intro a9 c9 wc hown9 hg9 hlie
        have hneb : some b ≠ (Value.slice (some ⟨gl, ol, none⟩) d.grow.length c2).ownBlock := fun e => by have := (own_type HM5.out.r2 e.symm).1; omega
        have HKG := Lib.hid (Kp.of_grown (X := fun k => some k = (Value.slice (some ⟨gl, ol, none⟩) d.grow.length c2).ownBlock) hg9 (fun _ h => h))
        have HBG := Lib.hid (HKG.out.blk HM5.out.blk hneb)
        have hneq : some gx ≠ (Value.slice (some ⟨gl, ol, none⟩) d.grow.length c2).ownBlock := fun e => by
          obtain ⟨_, cs, h2⟩ := own_type HMo.out.r2 e.symm
          have := (Array.getElem?_eq_some_iff.1 h2).1
          have := hgx.out
          omega
        have HQG := Lib.hid (HKG.out.blk HX5.out hneq)
        have HLIE := Lib.hid hlie
        have e1 : (d.grow ++ [(⟨x1, x2⟩ : Rl)]).length = d.grow.length + 1 := by simp
        have HO9 := Lib.hid (show wc.ownsRow C 78 2 (.slice a9 (d.grow.length + 1) c9) (d.grow ++ [(⟨x1, x2⟩ : Rl)]).length ((d.grow ++ [(⟨x1, x2⟩ : Rl)]).flatMap Rl.cells) by
          rw [e1, List.flatMap_append, List.flatMap_singleton]; exact hown9)
        clear hg9 hown9 hlie HN1 HIN hs0 hs1 hs2 hneb hneq e1
        (refine hK.out _ _ ⟨HBG.out.1, HQG.out.1⟩ (fun hHeld => ?_); clear hK K; (try simp only [Act.put, List.setIfInBounds_toArray, List.set]))
        (refine lyes 7 ?_); (try simp only [Act.put, List.setIfInBounds_toArray, List.set])
        obtain ⟨cg, fg, zg⟩ := HBG.out
        (refine last_end 8 rfl (by kernel_rfl) (by kernel_rfl) (fun K hK => ?_); go_simp)
        clear cg fg zg
        have HMP := Lib.hid (HM5.out.put2 HKG.out HO9.out HLIE.out)
        have HKP := Lib.hid (((Kp.of_below (X := fun k => k = b ∨ C ≤ k) HB5.out).trans HKG.out (fun g hg e => .inr (own_type HMo.out.r2 e.symm).1)).trans (Kp.set (X := fun k => k = b) (o := 2) (v := .slice a9 (d.grow.length + 1) c9) rfl) (fun g _ e => .inl e))
        obtain ⟨wd, hwd⟩ : ∃ V, V = wc.setCell ⟨b, 2, none⟩ (.slice a9 (d.grow.length + 1) c9) := ⟨_, rfl⟩
        rw [← hwd] at HMP HKP ⊢
        clear hwd HBG HQG HKG HO9 HM5 HB5 HX5 HLIE
        refine hK.out _ _ ?_
        clear hK K
        go_wp2
        refine bodyPost_ret (v := .tuple #[.int .i64 3, .bool true]) (by simp [results, Tryz.results52, go_sem]) rfl ?_
        exact ⟨by rw [hRs.out]; rfl, HKP.out, fun d' hd => by rw [hRs.out] at hd; cases hd; exact ⟨_, _, _, _, _, _, HMP.out⟩⟩
      · have dc : decide (cc < 0) = false := decide_eq_false hcc
        (refine hyes 16 ?_); (refine hyes 17 ?_); (refine hyes 18 ?_); (try simp only [Act.put, List.setIfInBounds_toArray, List.set])
        refine wpAnyH_done (by kernel_rfl) ?_ _
        clear hHeld
        obtain ⟨wA, rfl⟩ : ∃ V, V = w8 := ⟨_, rfl⟩
        have hRn := Lib.hid (show R = none from HRN.out (fun h => by rw [BE.out] at h; exact hcc (of_decide_eq_true h.2)))
        go_wp2
        refine bodyPost_ret (v := .tuple #[.int .i64 3, .bool false]) (by simp [results, Tryz.results52, go_sem]) rfl ?_
        exact ⟨by rw [hRn.out]; rfl, Kp.of_below HB.out, fun d' hd => by rw [hRn.out] at hd; cases hd⟩
    · have dn : decide ((0 : Int) < (d.grow.length : Int)) = false := decide_eq_false (by omega)
      have dn2 : decide (0 < d.grow.length) = false := decide_eq_false hn0
      have BE := Lib.hid (beh_zeroR (x := ⟨x1, x2⟩) hn0)
      clear hn0
      refine wp_region_held_drew (S := (fun W => (∀ o, W.cell? ⟨b, o, none⟩ = (#[.slice a0 d.more.length c0, .slice a1 d.gone.length c1, .slice a2 d.grow.length c2, .slice a3 d.ungrow.length c3, .slice a4 d.shrink.length c4, .slice a5 d.unshrink.length c5] : Array Value)[o]?) ∧ (∀ o, W.cell? ⟨gx, o, none⟩ = (#[.string x1, .string x2] : Array Value)[o]?))) (by kernel_rfl) ⟨(HM.out.blk.below (below_drew (Below.refl _ _))).1, (HX.out.below (below_drew (Below.refl _ _))).1⟩ (fun hHeld => ?_)
      have hd := below_drew (Below.refl w5.heap.size w5)
      have HB := Lib.hid (HB.out.trans (hd.mono HB.out.size))
      have HM := Lib.hid (HM.out.kp hd)
      have HX := Lib.hid (HX.out.below hd)
      obtain ⟨w6, hw6⟩ : ∃ V, V = w5.drew := ⟨_, rfl⟩
      rw [← hw6] at HB HM HX hHeld ⊢
      clear hd hw6
      (refine hyes 0 ?_); (try simp only [Act.put, List.setIfInBounds_toArray, List.set])
      (refine held_call 1 rfl (by kernel_rfl) (fun K hK => ?_); go_simp)
      go_at_call 108; refine (IR.out _).mono ?_; rintro e w7 ⟨rfl, hb7⟩
      have HB := Lib.hid (HB.out.trans (hb7.mono HB.out.size))
      have HM := Lib.hid (HM.out.kp hb7)
      have HX := Lib.hid (HX.out.below hb7)
      clear hb7 IR
      (refine hK.out _ _ ⟨HM.out.blk.1, HX.out.1⟩ (fun hHeld => ?_); clear hK K; (try simp only [Act.put, List.setIfInBounds_toArray, List.set]))
      (refine hyes 2 ?_); (refine hyes 3 ?_); (refine hyes 4 ?_); (refine hyes 5 ?_); (refine hyes 6 ?_); (try simp only [Act.put, List.setIfInBounds_toArray, List.set])
      (refine hno 7 ?_); (refine hno 8 ?_); (refine hno 9 ?_); (refine hno 10 ?_); (refine hno 11 ?_); (refine hno 12 ?_); (refine hno 13 ?_); (refine hno 14 ?_); (refine hno 15 ?_); (refine hno 16 ?_); (try simp only [Act.put, List.setIfInBounds_toArray, List.set])
      (refine hyes 17 ?_); (refine hyes 18 ?_); (try simp only [Act.put, List.setIfInBounds_toArray, List.set])
      refine wpAnyH_done (by kernel_rfl) ?_ _
      clear hHeld
      obtain ⟨wA, rfl⟩ : ∃ V, V = w7 := ⟨_, rfl⟩
      have hRs := Lib.hid (show R = some { d with grow := d.grow ++ [(⟨x1, x2⟩ : Rl)] } from HRY.out ⟨rfl, BE.out⟩)
      clear HRY HRN
      have hC := HM.out.hC
      have hbC := HM.out.hb
      have hzx := HX.out.2.2
      obtain ⟨cm, fm, zm⟩ := HM.out.blk
      obtain ⟨cx, fx, zx⟩ := HX.out
      go_upto_region 18 with fail
      clear cm fm zm cx fx zx
      refine wp_region_last (S := fun W => (∀ o, W.cell? ⟨b, o, none⟩ = (#[.slice a0 d.more.length c0, .slice a1 d.gone.length c1, .slice a2 d.grow.length c2, .slice a3 d.ungrow.length c3, .slice a4 d.shrink.length c4, .slice a5 d.unshrink.length c5] : Array Value)[o]?) ∧ (∀ o, W.cell? ⟨gx, o, none⟩ = (#[.string x1, .string x2] : Array Value)[o]?)) 8 (by kernel_rfl) ⟨(HM.out.blk.below (below_drew (Below.refl _ _))).1, (HX.out.below (below_drew (Below.refl _ _))).1⟩ (fun hHeld => ?_)
      have hd := below_drew (Below.refl wA.heap.size wA)
      have HM := Lib.hid (HM.out.kp hd)
      have HB := Lib.hid (HB.out.trans (hd.mono HB.out.size))
      have HX := Lib.hid (HX.out.below hd)
      obtain ⟨W4, hW4⟩ : ∃ V, V = wA.drew := ⟨_, rfl⟩
      rw [← hW4] at HM HB HX hHeld ⊢
      clear hd hW4
      (refine lyes 0 ?_); (refine lyes 1 ?_); (refine lyes 2 ?_); (refine lyes 3 ?_); (refine lyes 4 ?_); (try simp only [Act.put, List.setIfInBounds_toArray, List.set])
      (refine last_call 5 rfl (by kernel_rfl) (fun K hK => ?_); go_simp)
      obtain ⟨W5, hW5⟩ : ∃ V, V = W4.alloc (.cells #[.string x1, .string x2] 78) := ⟨_, rfl⟩
      obtain ⟨bn, hbn⟩ : ∃ b, b = W4.heap.size := ⟨_, rfl⟩
      rw [← hW5, ← hbn]
      have hbq : Below W4.heap.size W4 W5 := by rw [hW5]; exact (Below.refl _ _).alloc (Nat.le_refl _) _
      have HN1 := Lib.hid (show Sl W5 2 (.slice (some ⟨bn, 0, none⟩) 1 1) 1 ([.string x1, .string x2]) by rw [hW5]; exact Sl.new W4 [.string x1, .string x2] 78 2 1 bn hbn rfl (by simp [maxLen]))
      have HM5 := Lib.hid (HM.out.kp hbq)
      have HB5 := Lib.hid (HB.out.trans (hbq.mono HB.out.size))
      have HX5 := Lib.hid (HX.out.below hbq)
      clear hbq hW5 hbn HM HB HX
      (refine hK.out _ _ ⟨HM5.out.blk.1, HX5.out.1⟩ (fun hHeld => ?_); clear hK K; (try simp only [Act.put, List.setIfInBounds_toArray, List.set]))
      obtain ⟨inf, hin, hs0, hs1, hs2⟩ := info_parts rl_info'
      have HIN := Lib.hid hin
      clear hin
      refine last_call 6 rfl (by kernel_rfl) (fun K hK => ?_)
      refine step_rowE rfl _ _ 23 rfl C 78 inf _ 2 32 Tryz.underlying23 HIN.out hs0 hs1 hs2 (by decide) rfl (by decide) _ d.grow.length _ rfl HM5.out.r2 _ 1 _ rfl HN1.out.a (rl_oneD ⟨x1, x2⟩) (by omega) HM5.out.hC ?_
      intro a9 c9 wc hown9 hg9 hlie
      have hneb : some b ≠ (Value.slice a2 d.grow.length c2).ownBlock := fun e => by have := (own_type HM5.out.r2 e.symm).1; omega
      have HKG := Lib.hid (Kp.of_grown (X := fun k => some k = (Value.slice a2 d.grow.length c2).ownBlock) hg9 (fun _ h => h))
      have HBG := Lib.hid (HKG.out.blk HM5.out.blk hneb)
      have hneq : some gx ≠ (Value.slice a2 d.grow.length c2).ownBlock := fun e => by
        obtain ⟨_, cs, h2⟩ := own_type HMo.out.r2 e.symm
        have := (Array.getElem?_eq_some_iff.1 h2).1
        have := hgx.out
        omega
      have HQG := Lib.hid (HKG.out.blk HX5.out hneq)
      have HLIE := Lib.hid hlie
      have e1 : (d.grow ++ [(⟨x1, x2⟩ : Rl)]).length = d.grow.length + 1 := by simp
      have HO9 := Lib.hid (show wc.ownsRow C 78 2 (.slice a9 (d.grow.length + 1) c9) (d.grow ++ [(⟨x1, x2⟩ : Rl)]).length ((d.grow ++ [(⟨x1, x2⟩ : Rl)]).flatMap Rl.cells) by
        rw [e1, List.flatMap_append, List.flatMap_singleton]; exact hown9)
      clear hg9 hown9 hlie HN1 HIN hs0 hs1 hs2 hneb hneq e1
      (refine hK.out _ _ ⟨HBG.out.1, HQG.out.1⟩ (fun hHeld => ?_); clear hK K; (try simp only [Act.put, List.setIfInBounds_toArray, List.set]))
      (refine lyes 7 ?_); (try simp only [Act.put, List.setIfInBounds_toArray, List.set])
      obtain ⟨cg, fg, zg⟩ := HBG.out
      (refine last_end 8 rfl (by kernel_rfl) (by kernel_rfl) (fun K hK => ?_); go_simp)
      clear cg fg zg
      have HMP := Lib.hid (HM5.out.put2 HKG.out HO9.out HLIE.out)
      have HKP := Lib.hid (((Kp.of_below (X := fun k => k = b ∨ C ≤ k) HB5.out).trans HKG.out (fun g hg e => .inr (own_type HMo.out.r2 e.symm).1)).trans (Kp.set (X := fun k => k = b) (o := 2) (v := .slice a9 (d.grow.length + 1) c9) rfl) (fun g _ e => .inl e))
      obtain ⟨wd, hwd⟩ : ∃ V, V = wc.setCell ⟨b, 2, none⟩ (.slice a9 (d.grow.length + 1) c9) := ⟨_, rfl⟩
      rw [← hwd] at HMP HKP ⊢
      clear hwd HBG HQG HKG HO9 HM5 HB5 HX5 HLIE
      refine hK.out _ _ ?_
      clear hK K
      go_wp2
      refine bodyPost_ret (v := .tuple #[.int .i64 3, .bool true]) (by simp [results, Tryz.results52, go_sem]) rfl ?_
      exact ⟨by rw [hRs.out]; rfl, HKP.out, fun d' hd => by rw [hRs.out] at hd; cases hd; exact ⟨_, _, _, _, _, _, HMP.out⟩⟩
  | false =>
    rw [hir] at IR HRN
    clear HRY
    have HRN := Lib.hid (HRN.out (fun h => by cases h.1))
    clear hir
    refine wp_region_held_drew (S := (fun W => (∀ o, W.cell? ⟨b, o, none⟩ = (#[.slice a0 d.more.length c0, .slice a1 d.gone.length c1, .slice a2 d.grow.length c2, .slice a3 d.ungrow.length c3, .slice a4 d.shrink.length c4, .slice a5 d.unshrink.length c5] : Array Value)[o]?) ∧ (∀ o, W.cell? ⟨gx, o, none⟩ = (#[.string x1, .string x2] : Array Value)[o]?))) (by kernel_rfl) ⟨(HM.out.blk.below (below_drew (Below.refl _ _))).1, (HX.out.below (below_drew (Below.refl _ _))).1⟩ (fun hHeld => ?_)
    have hd := below_drew (Below.refl w5.heap.size w5)
    have HB := Lib.hid (HB.out.trans (hd.mono HB.out.size))
    have HM := Lib.hid (HM.out.kp hd)
    have HX := Lib.hid (HX.out.below hd)
    obtain ⟨w6, hw6⟩ : ∃ V, V = w5.drew := ⟨_, rfl⟩
    rw [← hw6] at HB HM HX hHeld ⊢
    clear hd hw6
    (refine hyes 0 ?_); (try simp only [Act.put, List.setIfInBounds_toArray, List.set])
    (refine held_call 1 rfl (by kernel_rfl) (fun K hK => ?_); go_simp)
    go_at_call 108; refine (IR.out _).mono ?_; rintro e w7 ⟨rfl, hb7⟩
    have HB := Lib.hid (HB.out.trans (hb7.mono HB.out.size))
    have HM := Lib.hid (HM.out.kp hb7)
    have HX := Lib.hid (HX.out.below hb7)
    clear hb7 IR
    (refine hK.out _ _ ⟨HM.out.blk.1, HX.out.1⟩ (fun hHeld => ?_); clear hK K; (try simp only [Act.put, List.setIfInBounds_toArray, List.set]))
    (refine hyes 2 ?_); (refine hyes 3 ?_); (try simp only [Act.put, List.setIfInBounds_toArray, List.set])
    (refine hno 4 ?_); (refine hno 5 ?_); (refine hno 6 ?_); (refine hno 7 ?_); (refine hno 8 ?_); (refine hno 9 ?_); (refine hno 10 ?_); (refine hno 11 ?_); (refine hno 12 ?_); (refine hno 13 ?_); (refine hno 14 ?_); (refine hno 15 ?_); (refine hno 16 ?_); (refine hno 17 ?_); (try simp only [Act.put, List.setIfInBounds_toArray, List.set])
    (refine hyes 18 ?_); (try simp only [Act.put, List.setIfInBounds_toArray, List.set])
    refine wpAnyH_done (by kernel_rfl) ?_ _
    clear hHeld
    obtain ⟨wA, rfl⟩ : ∃ V, V = w7 := ⟨_, rfl⟩
    have hRn := Lib.hid (show R = none from HRN.out)
    go_wp2
    refine bodyPost_ret (v := .tuple #[.int .i64 3, .bool false]) (by simp [results, Tryz.results52, go_sem]) rfl ?_
    exact ⟨by rw [hRn.out]; rfl, Kp.of_below HB.out, fun d' hd => by rw [hRn.out] at hd; cases hd⟩
end Go.Proofs.YtomhekohcadijaaGreatDoor
namespace Go.Proofs.YtomhekohcadijaaGreatDoor
open Go.RowKit Go.Shelf

set_option maxRecDepth 100000 in
set_option maxHeartbeats 8000000 in
theorem delta_put4 (s rest : ByteArray) (last : Int) (C b : Nat) (v0 v1 v2 v3 v4 v5 : Value) (d : Dl) (w : World) (hg : Gl w) (h : MkD C b w v0 v1 v2 v3 v4 v5 d) (hs : s.size ≤ 1000000) (hn : d.unshrink.length ≤ 100000) (hk : kindB s = (4, rest)) (hl : last ≤ 4) :
    Calls Tryz.prog 52 #[.pointer (some ⟨b, 0, none⟩), .string s, .int .i64 last] w fun e w' => PutP C b w 4 (if okLnR d.unshrink rest = true then some { d with unshrink := d.unshrink ++ [cutR rest] } else none) e w' := by
  have HG := Lib.hid hg
  have HM := Lib.hid h
  have hrs : rest.size ≤ 1000000 := by have := kindL_size s (bkL marksB 6); rw [show kindL s (bkL marksB 6) = (4, rest) from hk] at this; exact Nat.le_trans this hs
  have KD := Lib.hid (fun W => delta_kind s W (by omega))
  rw [hk] at KD
  obtain ⟨a0, c0, rfl⟩ := own_form h.r0
  obtain ⟨a1, c1, rfl⟩ := own_form h.r1
  obtain ⟨a2, c2, rfl⟩ := own_form h.r2
  obtain ⟨a3, c3, rfl⟩ := own_form h.r3
  obtain ⟨a4, c4, rfl⟩ := own_form h.r4
  obtain ⟨a5, c5, rfl⟩ := own_form h.r5
  obtain ⟨R, hR⟩ : ∃ R, R = (if okLnR d.unshrink rest = true then some { d with unshrink := d.unshrink ++ [cutR rest] } else none) := ⟨_, rfl⟩
  rw [← hR]
  have HR := Lib.hid hR
  have d1 : decide ((4 : Int) < last) = false := decide_eq_false (by omega)
  clear hg h hk hR hs
  go_enter Tryz.func52, Tryz.ntmps52
  go_wp2_with fail
  refine (KD.out _).mono ?_
  rintro e w1 ⟨rfl, hb1⟩
  have HB := Lib.hid hb1
  have HM := Lib.hid (HM.out.kp hb1)
  clear hb1 KD
  go_wp2_with fail
  have HRY := Lib.hid (show isRole (cutR rest) = true ∧ behR d.unshrink (cutR rest) = true → R = some { d with unshrink := d.unshrink ++ [cutR rest] } from fun h => by rw [HR.out, if_pos (okLnR_iff.2 h)])
  have HRN := Lib.hid (show ¬ (isRole (cutR rest) = true ∧ behR d.unshrink (cutR rest) = true) → R = none from fun h => by rw [HR.out, if_neg (fun h' => h (okLnR_iff.1 h'))])
  clear HR
  obtain ⟨mg, hmg⟩ := HG.out.below HB.out
  have CT := Tryz.strings_Cut rest ⟨#[46]⟩ mg w1 (by omega) hmg
  have CT := Lib.hid (show Calls Tryz.prog 91 #[.string rest, .string ⟨#[46]⟩] w1 fun e w' => e = .returned (.tuple #[.string (cutR rest).o, .string (cutR rest).n, .bool (Lib.cut (bl rest) [46]).2.2]) ∧ ∃ n, w' = w1.drewN n from CT)
  have hle := Lib.hid (cutR_le hrs)
  generalize (Lib.cut (bl rest) [46]).2.2 = fb at CT
  generalize cutR rest = x at *
  obtain ⟨x1, x2⟩ := x
  dsimp only at CT
  refine CT.out.mono ?_
  rintro e w2 ⟨rfl, n2, hn2⟩
  have hb2 : Below w1.heap.size w1 w2 := by rw [hn2]; exact below_of_drewN n2
  have HB := Lib.hid (HB.out.trans (hb2.mono HB.out.size))
  have HM := Lib.hid (HM.out.kp hb2)
  clear hb2 CT hn2 hmg
  obtain ⟨gx, hgx0⟩ : ∃ g, g = w2.heap.size := ⟨_, rfl⟩
  have HX := Lib.hid (Blk.new w2 #[.string x1, .string x2] 78)
  have hba := (Below.refl w2.heap.size w2).alloc (Nat.le_refl _) (.cells #[.string x1, .string x2] 78)
  have HMo := HM
  have hgx := Lib.hid (show w2.heap.size ≤ gx by rw [hgx0]; exact Nat.le_refl _)
  have HB := Lib.hid (HB.out.trans (hba.mono HB.out.size))
  have HM := Lib.hid (HM.out.kp hba)
  obtain ⟨w3, hw3⟩ : ∃ V, V = w2.alloc (.cells #[.string x1, .string x2] 78) := ⟨_, rfl⟩
  rw [← hw3] at HX HB HM
  rw [← hgx0] at HX
  clear hba
  go_upto_region 14 with fail
  rw [← hw3, ← hgx0]
  clear hw3 hgx0
  refine wp_region_held_drew (S := fun _ => True) (by kernel_rfl) trivial (fun hHeld => ?_)
  have hd := below_drew (Below.refl w3.heap.size w3)
  have HB := Lib.hid (HB.out.trans (hd.mono HB.out.size))
  have HM := Lib.hid (HM.out.kp hd)
  have HX := Lib.hid (HX.out.below hd)
  obtain ⟨w4, hw4⟩ : ∃ V, V = w3.drew := ⟨_, rfl⟩
  rw [← hw4] at HB HM HX ⊢
  clear hd hw4
  (refine hyes 0 ?_); (refine hyes 1 ?_); (refine hyes 2 ?_); (refine hyes 3 ?_); (refine hyes 4 ?_); (refine hyes 5 ?_); (refine hyes 6 ?_); (refine hyes 7 ?_); (refine hyes 8 ?_); (refine hyes 9 ?_); (refine hyes 10 ?_); (refine hyes 11 ?_); (refine hyes 13 ?_); (refine hyes 14 ?_); (try simp only [Act.put, List.setIfInBounds_toArray, List.set])
  (refine held_call 12 rfl (by kernel_rfl) (fun K hK => ?_); go_simp)
  obtain ⟨w5, hw5⟩ : ∃ V, V = w4.alloc (.cells #[.pointer (some ⟨b, 3, none⟩), .pointer (some ⟨b, 2, none⟩), .pointer (some ⟨b, 5, none⟩), .pointer (some ⟨b, 4, none⟩)] 147) := ⟨_, rfl⟩
  obtain ⟨bn, hbn⟩ : ∃ b, b = w4.heap.size := ⟨_, rfl⟩
  rw [← hw5, ← hbn]
  have hd : Below w4.heap.size w4 w5 := by rw [hw5]; exact (Below.refl _ _).alloc (Nat.le_refl _) _
  have hq : w5.cell? ⟨bn, 2, none⟩ = some (.pointer (some ⟨b, 5, none⟩)) := by
    rw [hw5, hbn]; exact (Blk.new w4 #[.pointer (some ⟨b, 3, none⟩), .pointer (some ⟨b, 2, none⟩), .pointer (some ⟨b, 5, none⟩), .pointer (some ⟨b, 4, none⟩)] 147).1 2
  have HB := Lib.hid (HB.out.trans (hd.mono HB.out.size))
  have HM := Lib.hid (HM.out.kp hd)
  have HX := Lib.hid (HX.out.below hd)
  clear hd hw5 hbn
  (refine hK.out _ _ trivial (fun hHeld => ?_); clear hK K; (try simp only [Act.put, List.setIfInBounds_toArray, List.set]))
  have hwi : IntKind.i64.wrap 2 = 2 := by decide
  (refine hnow 15 ?_); (refine hnow 16 ?_); (refine hnow 17 ?_); (try simp only [Act.put, List.setIfInBounds_toArray, List.set])
  refine wpAnyH_done (by kernel_rfl) ?_ _
  clear hq hHeld hwi
  obtain ⟨cm, fm, zm⟩ := HM.out.blk
  go_upto_region 16 with fail
  clear cm fm zm
  have IR := Lib.hid (fun W => syn_IsRole ⟨x1, x2⟩ W hle.out)
  cases hir : isRole ⟨x1, x2⟩ with
  | true =>
    rw [hir] at IR HRY HRN
    have HIR := Lib.hid hir
    clear hir
    by_cases hn0 : 0 < d.unshrink.length
    · have dn : decide ((0 : Int) < (d.unshrink.length : Int)) = true := decide_eq_true (by omega)
      have dn2 : decide (0 < d.unshrink.length) = true := decide_eq_true hn0
      obtain ⟨gl, ol, cl, he, hc1, hm1, hbl, hxl⟩ := (Sl.of_own HM.out.r5).pos hn0
      simp only [Value.slice.injEq, true_and] at he
      obtain ⟨rfl, rfl⟩ := he
      obtain ⟨p0, p1⟩ := rl_cell hxl (d.unshrink.length - 1) (by omega)
      obtain ⟨m, hm⟩ : ∃ m, m = d.unshrink.length - 1 := ⟨_, rfl⟩
      have hwm : IntKind.i64.wrap ((d.unshrink.length : Int) - 1) = (m : Int) := by rw [show (d.unshrink.length : Int) - 1 = (m : Int) by omega]; exact Go.IntWalk.i64_in _ (by omega)
      have hml : m < d.unshrink.length := by omega
      have BE := Lib.hid (beh_oneR (x := ⟨x1, x2⟩) hn0)
      clear hxl
      simp only [← hm] at p0 p1 BE
      have OR := Lib.hid (fun W => syn_LessB d.unshrink[m] ⟨x1, x2⟩ W)
      generalize d.unshrink[m] = z at *
      clear hm
      obtain ⟨z1, z2⟩ := z
      generalize cmpR ⟨z1, z2⟩ ⟨x1, x2⟩ = cc at OR BE
      refine wp_region_held_drew (S := fun W => (∀ o, W.cell? ⟨b, o, none⟩ = (#[.slice a0 d.more.length c0, .slice a1 d.gone.length c1, .slice a2 d.grow.length c2, .slice a3 d.ungrow.length c3, .slice a4 d.shrink.length c4, .slice (some ⟨gl, ol, none⟩) d.unshrink.length c5] : Array Value)[o]?) ∧ (∀ o, W.cell? ⟨gx, o, none⟩ = (#[.string x1, .string x2] : Array Value)[o]?) ∧ W.cell? ⟨gl, ol + m * 2, none⟩ = some (.string z1) ∧ W.cell? ⟨gl, ol + m * 2 + 1, none⟩ = some (.string z2)) (by kernel_rfl) ⟨(HM.out.blk.below (below_drew (Below.refl _ _))).1, (HX.out.below (below_drew (Below.refl _ _))).1, p0, p1⟩ (fun hHeld => ?_)
      have hd := below_drew (Below.refl w5.heap.size w5)
      have HB := Lib.hid (HB.out.trans (hd.mono HB.out.size))
      have HM := Lib.hid (HM.out.kp hd)
      have HX := Lib.hid (HX.out.below hd)
      have HP0 := Lib.hid ((hd.cell (p := ⟨gl, ol + m * 2, none⟩) hbl).trans p0)
      have HP1 := Lib.hid ((hd.cell (p := ⟨gl, ol + m * 2 + 1, none⟩) hbl).trans p1)
      clear p0 p1
      obtain ⟨w6, hw6⟩ : ∃ V, V = w5.drew := ⟨_, rfl⟩
      have hbl6 : gl < w6.heap.size := by rw [hw6]; exact Nat.lt_of_lt_of_le hbl hd.size
      rw [← hw6] at HB HM HX HP0 HP1 hHeld ⊢
      clear hd hw6 hbl
      (refine hyes 0 ?_); (try simp only [Act.put, List.setIfInBounds_toArray, List.set])
      (refine held_call 1 rfl (by kernel_rfl) (fun K hK => ?_); go_simp)
      go_at_call 108; refine (IR.out _).mono ?_; rintro e w7 ⟨rfl, hb7⟩
      have HB := Lib.hid (HB.out.trans (hb7.mono HB.out.size))
      have HM := Lib.hid (HM.out.kp hb7)
      have HX := Lib.hid (HX.out.below hb7)
      have HP0 := Lib.hid ((hb7.cell (p := ⟨gl, ol + m * 2, none⟩) hbl6).trans HP0.out)
      have HP1 := Lib.hid ((hb7.cell (p := ⟨gl, ol + m * 2 + 1, none⟩) hbl6).trans HP1.out)
      have hbl7 : gl < w7.heap.size := Nat.lt_of_lt_of_le hbl6 hb7.size
      clear hb7 IR hbl6
      (refine hK.out _ _ ⟨HM.out.blk.1, HX.out.1, HP0.out, HP1.out⟩ (fun hHeld => ?_); clear hK K; (try simp only [Act.put, List.setIfInBounds_toArray, List.set]))
      (refine hyes 2 ?_); (refine hyes 3 ?_); (refine hyes 4 ?_); (refine hyes 5 ?_); (refine hyes 6 ?_); (refine hyes 7 ?_); (refine hyes 8 ?_); (refine hyes 9 ?_); (refine hyes 10 ?_); (refine hyes 11 ?_); (refine hyes 12 ?_); (refine hyes 13 ?_); (refine hyes 14 ?_); (try simp only [Act.put, List.setIfInBounds_toArray, List.set])
      (refine held_call 15 rfl (by kernel_rfl) (fun K hK => ?_); go_simp)
      go_at_call 109; refine (OR.out _).mono ?_; rintro e w8 ⟨rfl, hb8⟩
      have HB := Lib.hid (HB.out.trans (hb8.mono HB.out.size))
      have HM := Lib.hid (HM.out.kp hb8)
      have HX := Lib.hid (HX.out.below hb8)
      have HP0 := Lib.hid ((hb8.cell (p := ⟨gl, ol + m * 2, none⟩) hbl7).trans HP0.out)
      have HP1 := Lib.hid ((hb8.cell (p := ⟨gl, ol + m * 2 + 1, none⟩) hbl7).trans HP1.out)
      clear hb8 OR hbl7
      (refine hK.out _ _ ⟨HM.out.blk.1, HX.out.1, HP0.out, HP1.out⟩ (fun hHeld => ?_); clear hK K; (try simp only [Act.put, List.setIfInBounds_toArray, List.set]))
      clear HP0 HP1
      by_cases hcc : cc < 0
      · have dc : decide (cc < 0) = true := decide_eq_true hcc
        (refine hyes 16 ?_); (refine hyes 17 ?_); (refine hyes 18 ?_); (try simp only [Act.put, List.setIfInBounds_toArray, List.set])
        refine wpAnyH_done (by kernel_rfl) ?_ _
        clear hHeld
        obtain ⟨wA, rfl⟩ : ∃ V, V = w8 := ⟨_, rfl⟩
        have hRs := Lib.hid (show R = some { d with unshrink := d.unshrink ++ [(⟨x1, x2⟩ : Rl)] } from HRY.out ⟨rfl, BE.out.trans (decide_eq_true hcc)⟩)
        clear HRY HRN
        have hC := HM.out.hC
        have hbC := HM.out.hb
        have hzx := HX.out.2.2
        obtain ⟨cm, fm, zm⟩ := HM.out.blk
        obtain ⟨cx, fx, zx⟩ := HX.out
        go_upto_region 18 with fail
        clear cm fm zm cx fx zx
        refine wp_region_last (S := fun W => (∀ o, W.cell? ⟨b, o, none⟩ = (#[.slice a0 d.more.length c0, .slice a1 d.gone.length c1, .slice a2 d.grow.length c2, .slice a3 d.ungrow.length c3, .slice a4 d.shrink.length c4, .slice (some ⟨gl, ol, none⟩) d.unshrink.length c5] : Array Value)[o]?) ∧ (∀ o, W.cell? ⟨gx, o, none⟩ = (#[.string x1, .string x2] : Array Value)[o]?)) 8 (by kernel_rfl) ⟨(HM.out.blk.below (below_drew (Below.refl _ _))).1, (HX.out.below (below_drew (Below.refl _ _))).1⟩ (fun hHeld => ?_)
        have hd := below_drew (Below.refl wA.heap.size wA)
        have HM := Lib.hid (HM.out.kp hd)
        have HB := Lib.hid (HB.out.trans (hd.mono HB.out.size))
        have HX := Lib.hid (HX.out.below hd)
        obtain ⟨W4, hW4⟩ : ∃ V, V = wA.drew := ⟨_, rfl⟩
        rw [← hW4] at HM HB HX hHeld ⊢
        clear hd hW4
        (refine lyes 0 ?_); (refine lyes 1 ?_); (refine lyes 2 ?_); (refine lyes 3 ?_); (refine lyes 4 ?_); (try simp only [Act.put, List.setIfInBounds_toArray, List.set])
        (refine last_call 5 rfl (by kernel_rfl) (fun K hK => ?_); go_simp)
        obtain ⟨W5, hW5⟩ : ∃ V, V = W4.alloc (.cells #[.string x1, .string x2] 78) := ⟨_, rfl⟩
        obtain ⟨bn, hbn⟩ : ∃ b, b = W4.heap.size := ⟨_, rfl⟩
        rw [← hW5, ← hbn]
        have hbq : Below W4.heap.size W4 W5 := by rw [hW5]; exact (Below.refl _ _).alloc (Nat.le_refl _) _
        have HN1 := Lib.hid (show Sl W5 2 (.slice (some ⟨bn, 0, none⟩) 1 1) 1 ([.string x1, .string x2]) by rw [hW5]; exact Sl.new W4 [.string x1, .string x2] 78 2 1 bn hbn rfl (by simp [maxLen]))
        have HM5 := Lib.hid (HM.out.kp hbq)
        have HB5 := Lib.hid (HB.out.trans (hbq.mono HB.out.size))
        have HX5 := Lib.hid (HX.out.below hbq)
        clear hbq hW5 hbn HM HB HX
        (refine hK.out _ _ ⟨HM5.out.blk.1, HX5.out.1⟩ (fun hHeld => ?_); clear hK K; (try simp only [Act.put, List.setIfInBounds_toArray, List.set]))
        obtain ⟨inf, hin, hs0, hs1, hs2⟩ := info_parts rl_info'
        have HIN := Lib.hid hin
        clear hin
        refine last_call 6 rfl (by kernel_rfl) (fun K hK => ?_)
        refine step_rowE rfl _ _ 23 rfl C 78 inf _ 2 32 Tryz.underlying23 HIN.out hs0 hs1 hs2 (by decide) rfl (by decide) _ d.unshrink.length _ rfl HM5.out.r5 _ 1 _ rfl HN1.out.a (rl_oneD ⟨x1, x2⟩) (by omega) HM5.out.hC ?_
        intro a9 c9 wc hown9 hg9 hlie
        have hneb : some b ≠ (Value.slice (some ⟨gl, ol, none⟩) d.unshrink.length c5).ownBlock := fun e => by have := (own_type HM5.out.r5 e.symm).1; omega
        have HKG := Lib.hid (Kp.of_grown (X := fun k => some k = (Value.slice (some ⟨gl, ol, none⟩) d.unshrink.length c5).ownBlock) hg9 (fun _ h => h))
        have HBG := Lib.hid (HKG.out.blk HM5.out.blk hneb)
        have hneq : some gx ≠ (Value.slice (some ⟨gl, ol, none⟩) d.unshrink.length c5).ownBlock := fun e => by
          obtain ⟨_, cs, h2⟩ := own_type HMo.out.r5 e.symm
          have := (Array.getElem?_eq_some_iff.1 h2).1
          have := hgx.out
          omega
        have HQG := Lib.hid (HKG.out.blk HX5.out hneq)
        have HLIE := Lib.hid hlie
        have e1 : (d.unshrink ++ [(⟨x1, x2⟩ : Rl)]).length = d.unshrink.length + 1 := by simp
        have HO9 := Lib.hid (show wc.ownsRow C 78 2 (.slice a9 (d.unshrink.length + 1) c9) (d.unshrink ++ [(⟨x1, x2⟩ : Rl)]).length ((d.unshrink ++ [(⟨x1, x2⟩ : Rl)]).flatMap Rl.cells) by
          rw [e1, List.flatMap_append, List.flatMap_singleton]; exact hown9)
        clear hg9 hown9 hlie HN1 HIN hs0 hs1 hs2 hneb hneq e1
        (refine hK.out _ _ ⟨HBG.out.1, HQG.out.1⟩ (fun hHeld => ?_); clear hK K; (try simp only [Act.put, List.setIfInBounds_toArray, List.set]))
        (refine lyes 7 ?_); (try simp only [Act.put, List.setIfInBounds_toArray, List.set])
        obtain ⟨cg, fg, zg⟩ := HBG.out
        (refine last_end 8 rfl (by kernel_rfl) (by kernel_rfl) (fun K hK => ?_); go_simp)
        clear cg fg zg
        have HMP := Lib.hid (HM5.out.put5 HKG.out HO9.out HLIE.out)
        have HKP := Lib.hid (((Kp.of_below (X := fun k => k = b ∨ C ≤ k) HB5.out).trans HKG.out (fun g hg e => .inr (own_type HMo.out.r5 e.symm).1)).trans (Kp.set (X := fun k => k = b) (o := 5) (v := .slice a9 (d.unshrink.length + 1) c9) rfl) (fun g _ e => .inl e))
        obtain ⟨wd, hwd⟩ : ∃ V, V = wc.setCell ⟨b, 5, none⟩ (.slice a9 (d.unshrink.length + 1) c9) := ⟨_, rfl⟩
        rw [← hwd] at HMP HKP ⊢
        clear hwd HBG HQG HKG HO9 HM5 HB5 HX5 HLIE
        refine hK.out _ _ ?_
        clear hK K
        go_wp2
        refine bodyPost_ret (v := .tuple #[.int .i64 4, .bool true]) (by simp [results, Tryz.results52, go_sem]) rfl ?_
        exact ⟨by rw [hRs.out]; rfl, HKP.out, fun d' hd => by rw [hRs.out] at hd; cases hd; exact ⟨_, _, _, _, _, _, HMP.out⟩⟩
      · have dc : decide (cc < 0) = false := decide_eq_false hcc
        (refine hyes 16 ?_); (refine hyes 17 ?_); (refine hyes 18 ?_); (try simp only [Act.put, List.setIfInBounds_toArray, List.set])
        refine wpAnyH_done (by kernel_rfl) ?_ _
        clear hHeld
        obtain ⟨wA, rfl⟩ : ∃ V, V = w8 := ⟨_, rfl⟩
        have hRn := Lib.hid (show R = none from HRN.out (fun h => by rw [BE.out] at h; exact hcc (of_decide_eq_true h.2)))
        go_wp2
        refine bodyPost_ret (v := .tuple #[.int .i64 4, .bool false]) (by simp [results, Tryz.results52, go_sem]) rfl ?_
        exact ⟨by rw [hRn.out]; rfl, Kp.of_below HB.out, fun d' hd => by rw [hRn.out] at hd; cases hd⟩
    · have dn : decide ((0 : Int) < (d.unshrink.length : Int)) = false := decide_eq_false (by omega)
      have dn2 : decide (0 < d.unshrink.length) = false := decide_eq_false hn0
      have BE := Lib.hid (beh_zeroR (x := ⟨x1, x2⟩) hn0)
      clear hn0
      refine wp_region_held_drew (S := (fun W => (∀ o, W.cell? ⟨b, o, none⟩ = (#[.slice a0 d.more.length c0, .slice a1 d.gone.length c1, .slice a2 d.grow.length c2, .slice a3 d.ungrow.length c3, .slice a4 d.shrink.length c4, .slice a5 d.unshrink.length c5] : Array Value)[o]?) ∧ (∀ o, W.cell? ⟨gx, o, none⟩ = (#[.string x1, .string x2] : Array Value)[o]?))) (by kernel_rfl) ⟨(HM.out.blk.below (below_drew (Below.refl _ _))).1, (HX.out.below (below_drew (Below.refl _ _))).1⟩ (fun hHeld => ?_)
      have hd := below_drew (Below.refl w5.heap.size w5)
      have HB := Lib.hid (HB.out.trans (hd.mono HB.out.size))
      have HM := Lib.hid (HM.out.kp hd)
      have HX := Lib.hid (HX.out.below hd)
      obtain ⟨w6, hw6⟩ : ∃ V, V = w5.drew := ⟨_, rfl⟩
      rw [← hw6] at HB HM HX hHeld ⊢
      clear hd hw6
      (refine hyes 0 ?_); (try simp only [Act.put, List.setIfInBounds_toArray, List.set])
      (refine held_call 1 rfl (by kernel_rfl) (fun K hK => ?_); go_simp)
      go_at_call 108; refine (IR.out _).mono ?_; rintro e w7 ⟨rfl, hb7⟩
      have HB := Lib.hid (HB.out.trans (hb7.mono HB.out.size))
      have HM := Lib.hid (HM.out.kp hb7)
      have HX := Lib.hid (HX.out.below hb7)
      clear hb7 IR
      (refine hK.out _ _ ⟨HM.out.blk.1, HX.out.1⟩ (fun hHeld => ?_); clear hK K; (try simp only [Act.put, List.setIfInBounds_toArray, List.set]))
      (refine hyes 2 ?_); (refine hyes 3 ?_); (refine hyes 4 ?_); (refine hyes 5 ?_); (refine hyes 6 ?_); (try simp only [Act.put, List.setIfInBounds_toArray, List.set])
      (refine hno 7 ?_); (refine hno 8 ?_); (refine hno 9 ?_); (refine hno 10 ?_); (refine hno 11 ?_); (refine hno 12 ?_); (refine hno 13 ?_); (refine hno 14 ?_); (refine hno 15 ?_); (refine hno 16 ?_); (try simp only [Act.put, List.setIfInBounds_toArray, List.set])
      (refine hyes 17 ?_); (refine hyes 18 ?_); (try simp only [Act.put, List.setIfInBounds_toArray, List.set])
      refine wpAnyH_done (by kernel_rfl) ?_ _
      clear hHeld
      obtain ⟨wA, rfl⟩ : ∃ V, V = w7 := ⟨_, rfl⟩
      have hRs := Lib.hid (show R = some { d with unshrink := d.unshrink ++ [(⟨x1, x2⟩ : Rl)] } from HRY.out ⟨rfl, BE.out⟩)
      clear HRY HRN
      have hC := HM.out.hC
      have hbC := HM.out.hb
      have hzx := HX.out.2.2
      obtain ⟨cm, fm, zm⟩ := HM.out.blk
      obtain ⟨cx, fx, zx⟩ := HX.out
      go_upto_region 18 with fail
      clear cm fm zm cx fx zx
      refine wp_region_last (S := fun W => (∀ o, W.cell? ⟨b, o, none⟩ = (#[.slice a0 d.more.length c0, .slice a1 d.gone.length c1, .slice a2 d.grow.length c2, .slice a3 d.ungrow.length c3, .slice a4 d.shrink.length c4, .slice a5 d.unshrink.length c5] : Array Value)[o]?) ∧ (∀ o, W.cell? ⟨gx, o, none⟩ = (#[.string x1, .string x2] : Array Value)[o]?)) 8 (by kernel_rfl) ⟨(HM.out.blk.below (below_drew (Below.refl _ _))).1, (HX.out.below (below_drew (Below.refl _ _))).1⟩ (fun hHeld => ?_)
      have hd := below_drew (Below.refl wA.heap.size wA)
      have HM := Lib.hid (HM.out.kp hd)
      have HB := Lib.hid (HB.out.trans (hd.mono HB.out.size))
      have HX := Lib.hid (HX.out.below hd)
      obtain ⟨W4, hW4⟩ : ∃ V, V = wA.drew := ⟨_, rfl⟩
      rw [← hW4] at HM HB HX hHeld ⊢
      clear hd hW4
      (refine lyes 0 ?_); (refine lyes 1 ?_); (refine lyes 2 ?_); (refine lyes 3 ?_); (refine lyes 4 ?_); (try simp only [Act.put, List.setIfInBounds_toArray, List.set])
      (refine last_call 5 rfl (by kernel_rfl) (fun K hK => ?_); go_simp)
      obtain ⟨W5, hW5⟩ : ∃ V, V = W4.alloc (.cells #[.string x1, .string x2] 78) := ⟨_, rfl⟩
      obtain ⟨bn, hbn⟩ : ∃ b, b = W4.heap.size := ⟨_, rfl⟩
      rw [← hW5, ← hbn]
      have hbq : Below W4.heap.size W4 W5 := by rw [hW5]; exact (Below.refl _ _).alloc (Nat.le_refl _) _
      have HN1 := Lib.hid (show Sl W5 2 (.slice (some ⟨bn, 0, none⟩) 1 1) 1 ([.string x1, .string x2]) by rw [hW5]; exact Sl.new W4 [.string x1, .string x2] 78 2 1 bn hbn rfl (by simp [maxLen]))
      have HM5 := Lib.hid (HM.out.kp hbq)
      have HB5 := Lib.hid (HB.out.trans (hbq.mono HB.out.size))
      have HX5 := Lib.hid (HX.out.below hbq)
      clear hbq hW5 hbn HM HB HX
      (refine hK.out _ _ ⟨HM5.out.blk.1, HX5.out.1⟩ (fun hHeld => ?_); clear hK K; (try simp only [Act.put, List.setIfInBounds_toArray, List.set]))
      obtain ⟨inf, hin, hs0, hs1, hs2⟩ := info_parts rl_info'
      have HIN := Lib.hid hin
      clear hin
      refine last_call 6 rfl (by kernel_rfl) (fun K hK => ?_)
      refine step_rowE rfl _ _ 23 rfl C 78 inf _ 2 32 Tryz.underlying23 HIN.out hs0 hs1 hs2 (by decide) rfl (by decide) _ d.unshrink.length _ rfl HM5.out.r5 _ 1 _ rfl HN1.out.a (rl_oneD ⟨x1, x2⟩) (by omega) HM5.out.hC ?_
      intro a9 c9 wc hown9 hg9 hlie
      have hneb : some b ≠ (Value.slice a5 d.unshrink.length c5).ownBlock := fun e => by have := (own_type HM5.out.r5 e.symm).1; omega
      have HKG := Lib.hid (Kp.of_grown (X := fun k => some k = (Value.slice a5 d.unshrink.length c5).ownBlock) hg9 (fun _ h => h))
      have HBG := Lib.hid (HKG.out.blk HM5.out.blk hneb)
      have hneq : some gx ≠ (Value.slice a5 d.unshrink.length c5).ownBlock := fun e => by
        obtain ⟨_, cs, h2⟩ := own_type HMo.out.r5 e.symm
        have := (Array.getElem?_eq_some_iff.1 h2).1
        have := hgx.out
        omega
      have HQG := Lib.hid (HKG.out.blk HX5.out hneq)
      have HLIE := Lib.hid hlie
      have e1 : (d.unshrink ++ [(⟨x1, x2⟩ : Rl)]).length = d.unshrink.length + 1 := by simp
      have HO9 := Lib.hid (show wc.ownsRow C 78 2 (.slice a9 (d.unshrink.length + 1) c9) (d.unshrink ++ [(⟨x1, x2⟩ : Rl)]).length ((d.unshrink ++ [(⟨x1, x2⟩ : Rl)]).flatMap Rl.cells) by
        rw [e1, List.flatMap_append, List.flatMap_singleton]; exact hown9)
      clear hg9 hown9 hlie HN1 HIN hs0 hs1 hs2 hneb hneq e1
      (refine hK.out _ _ ⟨HBG.out.1, HQG.out.1⟩ (fun hHeld => ?_); clear hK K; (try simp only [Act.put, List.setIfInBounds_toArray, List.set]))
      (refine lyes 7 ?_); (try simp only [Act.put, List.setIfInBounds_toArray, List.set])
      obtain ⟨cg, fg, zg⟩ := HBG.out
      (refine last_end 8 rfl (by kernel_rfl) (by kernel_rfl) (fun K hK => ?_); go_simp)
      clear cg fg zg
      have HMP := Lib.hid (HM5.out.put5 HKG.out HO9.out HLIE.out)
      have HKP := Lib.hid (((Kp.of_below (X := fun k => k = b ∨ C ≤ k) HB5.out).trans HKG.out (fun g hg e => .inr (own_type HMo.out.r5 e.symm).1)).trans (Kp.set (X := fun k => k = b) (o := 5) (v := .slice a9 (d.unshrink.length + 1) c9) rfl) (fun g _ e => .inl e))
      obtain ⟨wd, hwd⟩ : ∃ V, V = wc.setCell ⟨b, 5, none⟩ (.slice a9 (d.unshrink.length + 1) c9) := ⟨_, rfl⟩
      rw [← hwd] at HMP HKP ⊢
      clear hwd HBG HQG HKG HO9 HM5 HB5 HX5 HLIE
      refine hK.out _ _ ?_
      clear hK K
      go_wp2
      refine bodyPost_ret (v := .tuple #[.int .i64 4, .bool true]) (by simp [results, Tryz.results52, go_sem]) rfl ?_
      exact ⟨by rw [hRs.out]; rfl, HKP.out, fun d' hd => by rw [hRs.out] at hd; cases hd; exact ⟨_, _, _, _, _, _, HMP.out⟩⟩
  | false =>
    rw [hir] at IR HRN
    clear HRY
    have HRN := Lib.hid (HRN.out (fun h => by cases h.1))
    clear hir
    refine wp_region_held_drew (S := (fun W => (∀ o, W.cell? ⟨b, o, none⟩ = (#[.slice a0 d.more.length c0, .slice a1 d.gone.length c1, .slice a2 d.grow.length c2, .slice a3 d.ungrow.length c3, .slice a4 d.shrink.length c4, .slice a5 d.unshrink.length c5] : Array Value)[o]?) ∧ (∀ o, W.cell? ⟨gx, o, none⟩ = (#[.string x1, .string x2] : Array Value)[o]?))) (by kernel_rfl) ⟨(HM.out.blk.below (below_drew (Below.refl _ _))).1, (HX.out.below (below_drew (Below.refl _ _))).1⟩ (fun hHeld => ?_)
    have hd := below_drew (Below.refl w5.heap.size w5)
    have HB := Lib.hid (HB.out.trans (hd.mono HB.out.size))
    have HM := Lib.hid (HM.out.kp hd)
    have HX := Lib.hid (HX.out.below hd)
    obtain ⟨w6, hw6⟩ : ∃ V, V = w5.drew := ⟨_, rfl⟩
    rw [← hw6] at HB HM HX hHeld ⊢
    clear hd hw6
    (refine hyes 0 ?_); (try simp only [Act.put, List.setIfInBounds_toArray, List.set])
    (refine held_call 1 rfl (by kernel_rfl) (fun K hK => ?_); go_simp)
    go_at_call 108; refine (IR.out _).mono ?_; rintro e w7 ⟨rfl, hb7⟩
    have HB := Lib.hid (HB.out.trans (hb7.mono HB.out.size))
    have HM := Lib.hid (HM.out.kp hb7)
    have HX := Lib.hid (HX.out.below hb7)
    clear hb7 IR
    (refine hK.out _ _ ⟨HM.out.blk.1, HX.out.1⟩ (fun hHeld => ?_); clear hK K; (try simp only [Act.put, List.setIfInBounds_toArray, List.set]))
    (refine hyes 2 ?_); (refine hyes 3 ?_); (try simp only [Act.put, List.setIfInBounds_toArray, List.set])
    (refine hno 4 ?_); (refine hno 5 ?_); (refine hno 6 ?_); (refine hno 7 ?_); (refine hno 8 ?_); (refine hno 9 ?_); (refine hno 10 ?_); (refine hno 11 ?_); (refine hno 12 ?_); (refine hno 13 ?_); (refine hno 14 ?_); (refine hno 15 ?_); (refine hno 16 ?_); (refine hno 17 ?_); (try simp only [Act.put, List.setIfInBounds_toArray, List.set])
    (refine hyes 18 ?_); (try simp only [Act.put, List.setIfInBounds_toArray, List.set])
    refine wpAnyH_done (by kernel_rfl) ?_ _
    clear hHeld
    obtain ⟨wA, rfl⟩ : ∃ V, V = w7 := ⟨_, rfl⟩
    have hRn := Lib.hid (show R = none from HRN.out)
    go_wp2
    refine bodyPost_ret (v := .tuple #[.int .i64 4, .bool false]) (by simp [results, Tryz.results52, go_sem]) rfl ?_
    exact ⟨by rw [hRn.out]; rfl, Kp.of_below HB.out, fun d' hd => by rw [hRn.out] at hd; cases hd⟩
end Go.Proofs.YtomhekohcadijaaGreatDoor
