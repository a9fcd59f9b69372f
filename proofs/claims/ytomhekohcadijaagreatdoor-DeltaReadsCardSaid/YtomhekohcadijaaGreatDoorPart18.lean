/- (*delta.Delta).put: a line of the kind 5 (printed by gen_dlput.py). (*delta.Delta).put at any line; delta.Read (printed by gen_dlreadw.py). The lines of a difference are read as it, in plain Lean (printed by gen_dlback.py). What a difference makes of a policy: delta.Apply, crupperref32.Apply; delta.Tightens (printed by gen_dlapply.py). Whether two rows of texts, two queries, two policies are the same: of the same ones. The document's example of layer 32. Light of texts, told whole. Light of queries and policies, with the lengths of the queries' roles (turned by gen_lights.py). -/
import Derived.Test.YtomhekohcadijaaGreatDoorPart16
import Derived.Test.YtomhekohcadijaaGreatDoorPart10
import Derived.Test.YtomhekohcadijaaGreatDoorPart15
import Derived.Test.YtomhekohcadijaaGreatDoorPart17
import Derived.Test.YtomhekohcadijaaGreatDoorPart11
import Derived.Test.YtomhekohcadijaaGreatDoorPart8
import Derived.Test.YtomhekohcadijaaGreatDoorPart7
import Derived.Test.YtomhekohcadijaaGreatDoorPart6
import Derived.Test.YtomhekohcadijaaGreatDoorPart9
import Derived.Test.YtomhekohcadijaaGreatDoorPart5
namespace Go.Proofs.YtomhekohcadijaaGreatDoor
open Go.RowKit Go.Shelf

set_option maxRecDepth 100000 in
set_option maxHeartbeats 8000000 in
theorem delta_put5 (s rest : ByteArray) (last : Int) (C b : Nat) (v0 v1 v2 v3 v4 v5 : Value) (d : Dl) (w : World) (hg : Gl w) (h : MkD C b w v0 v1 v2 v3 v4 v5 d) (hs : s.size ≤ 1000000) (hn : d.shrink.length ≤ 100000) (hk : kindB s = (5, rest)) (hl : last ≤ 5) :
    Calls Tryz.prog 52 #[.pointer (some ⟨b, 0, none⟩), .string s, .int .i64 last] w fun e w' => PutP C b w 5 (if okLnR d.shrink rest = true then some { d with shrink := d.shrink ++ [cutR rest] } else none) e w' := by
  have HG := Lib.hid hg
  have HM := Lib.hid h
  have hrs : rest.size ≤ 1000000 := by have := kindL_size s (bkL marksB 6); rw [show kindL s (bkL marksB 6) = (5, rest) from hk] at this; exact Nat.le_trans this hs
  have KD := Lib.hid (fun W => delta_kind s W (by omega))
  rw [hk] at KD
  obtain ⟨a0, c0, rfl⟩ := own_form h.r0
  obtain ⟨a1, c1, rfl⟩ := own_form h.r1
  obtain ⟨a2, c2, rfl⟩ := own_form h.r2
  obtain ⟨a3, c3, rfl⟩ := own_form h.r3
  obtain ⟨a4, c4, rfl⟩ := own_form h.r4
  obtain ⟨a5, c5, rfl⟩ := own_form h.r5
  obtain ⟨R, hR⟩ : ∃ R, R = (if okLnR d.shrink rest = true then some { d with shrink := d.shrink ++ [cutR rest] } else none) := ⟨_, rfl⟩
  rw [← hR]
  have HR := Lib.hid hR
  have d1 : decide ((5 : Int) < last) = false := decide_eq_false (by omega)
  clear hg h hk hR hs
  go_enter Tryz.func52, Tryz.ntmps52
  go_wp2_with fail
  refine (KD.out _).mono ?_
  rintro e w1 ⟨rfl, hb1⟩
  have HB := Lib.hid hb1
  have HM := Lib.hid (HM.out.kp hb1)
  clear hb1 KD
  go_wp2_with fail
  have HRY := Lib.hid (show isRole (cutR rest) = true ∧ behR d.shrink (cutR rest) = true → R = some { d with shrink := d.shrink ++ [cutR rest] } from fun h => by rw [HR.out, if_pos (okLnR_iff.2 h)])
  have HRN := Lib.hid (show ¬ (isRole (cutR rest) = true ∧ behR d.shrink (cutR rest) = true) → R = none from fun h => by rw [HR.out, if_neg (fun h' => h (okLnR_iff.1 h'))])
  clear HR
  obtain ⟨mg, hmg⟩ := HG.out.below HB.out
  have CT := Tryz.strings_Cut rest ⟨#[46]⟩ mg w1 (by omega) hmg
  have CT := Lib.hid (show Calls Tryz.prog 91 #[.string rest, .string ⟨#[46]⟩] w1 fun e w' => e = .returned (.tuple #[.string (cutR rest).o, .string (cutR rest).n, .bool (Lib.cut (bl rest) [46]).2.2]) ∧ ∃ n, w' = w1.drewN n from CT)
  have hle := Lib.hid (cutR_le hrs)
  generalize (Lib.cut (bl rest) [46]).2.2 = fb at CT
  generalize cutR rest = x at *
  obtain ⟨x1, x2⟩ := x
  dsimp only at CT
  refine CT.out.mono ?_
  rintro e w2 ⟨rfl, n2, hn2⟩
  have hb2 : Below w1.heap.size w1 w2 := by rw [hn2]; exact below_of_drewN n2
  have HB := Lib.hid (HB.out.trans (hb2.mono HB.out.size))
  have HM := Lib.hid (HM.out.kp hb2)
  clear hb2 CT hn2 hmg
  obtain ⟨gx, hgx0⟩ : ∃ g, g = w2.heap.size := ⟨_, rfl⟩
  have HX := Lib.hid (Blk.new w2 #[.string x1, .string x2] 78)
  have hba := (Below.refl w2.heap.size w2).alloc (Nat.le_refl _) (.cells #[.string x1, .string x2] 78)
  have HMo := HM
  have hgx := Lib.hid (show w2.heap.size ≤ gx by rw [hgx0]; exact Nat.le_refl _)
  have HB := Lib.hid (HB.out.trans (hba.mono HB.out.size))
  have HM := Lib.hid (HM.out.kp hba)
  obtain ⟨w3, hw3⟩ : ∃ V, V = w2.alloc (.cells #[.string x1, .string x2] 78) := ⟨_, rfl⟩
  rw [← hw3] at HX HB HM
  rw [← hgx0] at HX
  clear hba
  go_upto_region 14 with fail
  rw [← hw3, ← hgx0]
  clear hw3 hgx0
  refine wp_region_held_drew (S := fun _ => True) (by kernel_rfl) trivial (fun hHeld => ?_)
  have hd := below_drew (Below.refl w3.heap.size w3)
  have HB := Lib.hid (HB.out.trans (hd.mono HB.out.size))
  have HM := Lib.hid (HM.out.kp hd)
  have HX := Lib.hid (HX.out.below hd)
  obtain ⟨w4, hw4⟩ : ∃ V, V = w3.drew := ⟨_, rfl⟩
  rw [← hw4] at HB HM HX ⊢
  clear hd hw4
  (refine hyes 0 ?_); (refine hyes 1 ?_); (refine hyes 2 ?_); (refine hyes 3 ?_); (refine hyes 4 ?_); (refine hyes 5 ?_); (refine hyes 6 ?_); (refine hyes 7 ?_); (refine hyes 8 ?_); (refine hyes 9 ?_); (refine hyes 10 ?_); (refine hyes 11 ?_); (refine hyes 13 ?_); (refine hyes 14 ?_); (try simp only [Act.put, List.setIfInBounds_toArray, List.set])
  (refine held_call 12 rfl (by kernel_rfl) (fun K hK => ?_); go_simp)
  obtain ⟨w5, hw5⟩ : ∃ V, V = w4.alloc (.cells #[.pointer (some ⟨b, 3, none⟩), .pointer (some ⟨b, 2, none⟩), .pointer (some ⟨b, 5, none⟩), .pointer (some ⟨b, 4, none⟩)] 147) := ⟨_, rfl⟩
  obtain ⟨bn, hbn⟩ : ∃ b, b = w4.heap.size := ⟨_, rfl⟩
  rw [← hw5, ← hbn]
  have hd : Below w4.heap.size w4 w5 := by rw [hw5]; exact (Below.refl _ _).alloc (Nat.le_refl _) _
  have hq : w5.cell? ⟨bn, 3, none⟩ = some (.pointer (some ⟨b, 4, none⟩)) := by
    rw [hw5, hbn]; exact (Blk.new w4 #[.pointer (some ⟨b, 3, none⟩), .pointer (some ⟨b, 2, none⟩), .pointer (some ⟨b, 5, none⟩), .pointer (some ⟨b, 4, none⟩)] 147).1 3
  have HB := Lib.hid (HB.out.trans (hd.mono HB.out.size))
  have HM := Lib.hid (HM.out.kp hd)
  have HX := Lib.hid (HX.out.below hd)
  clear hd hw5 hbn
  (refine hK.out _ _ trivial (fun hHeld => ?_); clear hK K; (try simp only [Act.put, List.setIfInBounds_toArray, List.set]))
  have hwi : IntKind.i64.wrap 3 = 3 := by decide
  (refine hnow 15 ?_); (refine hnow 16 ?_); (refine hnow 17 ?_); (try simp only [Act.put, List.setIfInBounds_toArray, List.set])
  refine wpAnyH_done (by kernel_rfl) ?_ _
  clear hq hHeld hwi
  obtain ⟨cm, fm, zm⟩ := HM.out.blk
  go_upto_region 16 with fail
  clear cm fm zm
  have IR := Lib.hid (fun W => syn_IsRole ⟨x1, x2⟩ W hle.out)
  cases hir : isRole ⟨x1, x2⟩ with
  | true =>
    rw [hir] at IR HRY HRN
    have HIR := Lib.hid hir
    clear hir
    by_cases hn0 : 0 < d.shrink.length
    · have dn : decide ((0 : Int) < (d.shrink.length : Int)) = true := decide_eq_true (by omega)
      have dn2 : decide (0 < d.shrink.length) = true := decide_eq_true hn0
      obtain ⟨gl, ol, cl, he, hc1, hm1, hbl, hxl⟩ := (Sl.of_own HM.out.r4).pos hn0
      simp only [Value.slice.injEq, true_and] at he
      obtain ⟨rfl, rfl⟩ := he
      obtain ⟨p0, p1⟩ := rl_cell hxl (d.shrink.length - 1) (by omega)
      obtain ⟨m, hm⟩ : ∃ m, m = d.shrink.length - 1 := ⟨_, rfl⟩
      have hwm : IntKind.i64.wrap ((d.shrink.length : Int) - 1) = (m : Int) := by rw [show (d.shrink.length : Int) - 1 = (m : Int) by omega]; exact Go.IntWalk.i64_in _ (by omega)
      have hml : m < d.shrink.length := by omega
      have BE := Lib.hid (beh_oneR (x := ⟨x1, x2⟩) hn0)
      clear hxl
      simp only [← hm] at p0 p1 BE
      have OR := Lib.hid (fun W => syn_LessB d.shrink[m] ⟨x1, x2⟩ W)
      generalize d.shrink[m] = z at *
      clear hm
      obtain ⟨z1, z2⟩ := z
      generalize cmpR ⟨z1, z2⟩ ⟨x1, x2⟩ = cc at OR BE
      refine wp_region_held_drew (S := fun W => (∀ o, W.cell? ⟨b, o, none⟩ = (#[.slice a0 d.more.length c0, .slice a1 d.gone.length c1, .slice a2 d.grow.length c2, .slice a3 d.ungrow.length c3, .slice (some ⟨gl, ol, none⟩) d.shrink.length c4, .slice a5 d.unshrink.length c5] : Array Value)[o]?) ∧ (∀ o, W.cell? ⟨gx, o, none⟩ = (#[.string x1, .string x2] : Array Value)[o]?) ∧ W.cell? ⟨gl, ol + m * 2, none⟩ = some (.string z1) ∧ W.cell? ⟨gl, ol + m * 2 + 1, none⟩ = some (.string z2)) (by kernel_rfl) ⟨(HM.out.blk.below (below_drew (Below.refl _ _))).1, (HX.out.below (below_drew (Below.refl _ _))).1, p0, p1⟩ (fun hHeld => ?_)
      have hd := below_drew (Below.refl w5.heap.size w5)
      have HB := Lib.hid (HB.out.trans (hd.mono HB.out.size))
      have HM := Lib.hid (HM.out.kp hd)
      have HX := Lib.hid (HX.out.below hd)
      have HP0 := Lib.hid ((hd.cell (p := ⟨gl, ol + m * 2, none⟩) hbl).trans p0)
      have HP1 := Lib.hid ((hd.cell (p := ⟨gl, ol + m * 2 + 1, none⟩) hbl).trans p1)
      clear p0 p1
      obtain ⟨w6, hw6⟩ : ∃ V, V = w5.drew := ⟨_, rfl⟩
      have hbl6 : gl < w6.heap.size := by rw [hw6]; exact Nat.lt_of_lt_of_le hbl hd.size
      rw [← hw6] at HB HM HX HP0 HP1 hHeld ⊢
      clear hd hw6 hbl
      (refine hyes 0 ?_); (try simp only [Act.put, List.setIfInBounds_toArray, List.set])
      (refine held_call 1 rfl (by kernel_rfl) (fun K hK => ?_); go_simp)
      go_at_call 108; refine (IR.out _).mono ?_; rintro e w7 ⟨rfl, hb7⟩
      have HB := Lib.hid (HB.out.trans (hb7.mono HB.out.size))
      have HM := Lib.hid (HM.out.kp hb7)
      have HX := Lib.hid (HX.out.below hb7)
      have HP0 := Lib.hid ((hb7.cell (p := ⟨gl, ol + m * 2, none⟩) hbl6).trans HP0.out)
      have HP1 := Lib.hid ((hb7.cell (p := ⟨gl, ol + m * 2 + 1, none⟩) hbl6).trans HP1.out)
      have hbl7 : gl < w7.heap.size := Nat.lt_of_lt_of_le hbl6 hb7.size
      clear hb7 IR hbl6
      (refine hK.out _ _ ⟨HM.out.blk.1, HX.out.1, HP0.out, HP1.out⟩ (fun hHeld => ?_); clear hK K; (try simp only [Act.put, List.setIfInBounds_toArray, List.set]))
      (refine hyes 2 ?_); (refine hyes 3 ?_); (refine hyes 4 ?_); (refine hyes 5 ?_); (refine hyes 6 ?_); (refine hyes 7 ?_); (refine hyes 8 ?_); (refine hyes 9 ?_); (refine hyes 10 ?_); (refine hyes 11 ?_); (refine hyes 12 ?_); (refine hyes 13 ?_); (refine hyes 14 ?_); (try simp only [Act.put, List.setIfInBounds_toArray, List.set])
      (refine held_call 15 rfl (by kernel_rfl) (fun K hK => ?_); go_simp)
      go_at_call 109; refine (OR.out _).mono ?_; rintro e w8 ⟨rfl, hb8⟩
      have HB := Lib.hid (HB.out.trans (hb8.mono HB.out.size))
      have HM := Lib.hid (HM.out.kp hb8)
      have HX := Lib.hid (HX.out.below hb8)
      have HP0 := Lib.hid ((hb8.cell (p := ⟨gl, ol + m * 2, none⟩) hbl7).trans HP0.out)
      have HP1 := Lib.hid ((hb8.cell (p := ⟨gl, ol + m * 2 + 1, none⟩) hbl7).trans HP1.out)
      clear hb8 OR hbl7
      (refine hK.out _ _ ⟨HM.out.blk.1, HX.out.1, HP0.out, HP1.out⟩ (fun hHeld => ?_); clear hK K; (try simp only [Act.put, List.setIfInBounds_toArray, List.set]))
      clear HP0 HP1
      by_cases hcc : cc < 0
      · have dc : decide (cc < 0) = true := decide_eq_true hcc
        (refine hyes 16 ?_); (refine hyes 17 ?_); (refine hyes 18 ?_); (try simp only [Act.put, List.setIfInBounds_toArray, List.set])
        refine wpAnyH_done (by kernel_rfl) ?_ _
        clear hHeld
        obtain ⟨wA, rfl⟩ : ∃ V, V = w8 := ⟨_, rfl⟩
        have hRs := Lib.hid (show R = some { d with shrink := d.shrink ++ [(⟨x1, x2⟩ : Rl)] } from HRY.out ⟨rfl, BE.out.trans (decide_eq_true hcc)⟩)
        clear HRY HRN
        have hC := HM.out.hC
        have hbC := HM.out.hb
        have hzx := HX.out.2.2
        obtain ⟨cm, fm, zm⟩ := HM.out.blk
        obtain ⟨cx, fx, zx⟩ := HX.out
        go_upto_region 18 with fail
        clear cm fm zm cx fx zx
        refine wp_region_last (S := fun W => (∀ o, W.cell? ⟨b, o, none⟩ = (#[.slice a0 d.more.length c0, .slice a1 d.gone.length c1, .slice a2 d.grow.length c2, .slice a3 d.ungrow.length c3, .slice (some ⟨gl, ol, none⟩) d.shrink.length c4, .slice a5 d.unshrink.length c5] : Array Value)[o]?) ∧ (∀ o, W.cell? ⟨gx, o, none⟩ = (#[.string x1, .string x2] : Array Value)[o]?)) 8 (by kernel_rfl) ⟨(HM.out.blk.below (below_drew (Below.refl _ _))).1, (HX.out.below (below_drew (Below.refl _ _))).1⟩ (fun hHeld => ?_)
        have hd := below_drew (Below.refl wA.heap.size wA)
        have HM := Lib.hid (HM.out.kp hd)
        have HB := Lib.hid (HB.out.trans (hd.mono HB.out.size))
        have HX := Lib.hid (HX.out.below hd)
        obtain ⟨W4, hW4⟩ : ∃ V, V = wA.drew := ⟨_, rfl⟩
        rw [← hW4] at HM HB HX hHeld ⊢
        clear hd hW4
        (refine lyes 0 ?_); (refine lyes 1 ?_); (refine lyes 2 ?_); (refine lyes 3 ?_); (refine lyes 4 ?_); (try simp only [Act.put, List.setIfInBounds_toArray, List.set])
        (refine last_call 5 rfl (by kernel_rfl) (fun K hK => ?_); go_simp)
        obtain ⟨W5, hW5⟩ : ∃ V, V = W4.alloc (.cells #[.string x1, .string x2] 78) := ⟨_, rfl⟩
        obtain ⟨bn, hbn⟩ : ∃ b, b = W4.heap.size := ⟨_, rfl⟩
        rw [← hW5, ← hbn]
        have hbq : Below W4.heap.size W4 W5 := by rw [hW5]; exact (Below.refl _ _).alloc (Nat.le_refl _) _
        have HN1 := Lib.hid (show Sl W5 2 (.slice (some ⟨bn, 0, none⟩) 1 1) 1 ([.string x1, .string x2]) by rw [hW5]; exact Sl.new W4 [.string x1, .string x2] 78 2 1 bn hbn rfl (by simp [maxLen]))
        have HM5 := Lib.hid (HM.out.kp hbq)
        have HB5 := Lib.hid (HB.out.trans (hbq.mono HB.out.size))
        have HX5 := Lib.hid (HX.out.below hbq)
        clear hbq hW5 hbn HM HB HX
        (refine hK.out _ _ ⟨HM5.out.blk.1, HX5.out.1⟩ (fun hHeld => ?_); clear hK K; (try simp only [Act.put, List.setIfInBounds_toArray, List.set]))
        obtain ⟨inf, hin, hs0, hs1, hs2⟩ := info_parts rl_info'
        have HIN := Lib.hid hin
        clear hin
        refine last_call 6 rfl (by kernel_rfl) (fun K hK => ?_)
        refine step_rowE rfl _ _ 23 rfl C 78 inf _ 2 32 Tryz.underlying23 HIN.out hs0 hs1 hs2 (by decide) rfl (by decide) _ d.shrink.length _ rfl HM5.out.r4 _ 1 _ rfl HN1.out.a (rl_oneD ⟨x1, x2⟩) (by omega) HM5.out.hC ?_
        intro a9 c9 wc hown9 hg9 hlie
        have hneb : some b ≠ (Value.slice (some ⟨gl, ol, none⟩) d.shrink.length c4).ownBlock := fun e => by have := (own_type HM5.out.r4 e.symm).1; omega
        have HKG := Lib.hid (Kp.of_grown (X := fun k => some k = (Value.slice (some ⟨gl, ol, none⟩) d.shrink.length c4).ownBlock) hg9 (fun _ h => h))
        have HBG := Lib.hid (HKG.out.blk HM5.out.blk hneb)
        have hneq : some gx ≠ (Value.slice (some ⟨gl, ol, none⟩) d.shrink.length c4).ownBlock := fun e => by
          obtain ⟨_, cs, h2⟩ := own_type HMo.out.r4 e.symm
          have := (Array.getElem?_eq_some_iff.1 h2).1
          have := hgx.out
          omega
        have HQG := Lib.hid (HKG.out.blk HX5.out hneq)
        have HLIE := Lib.hid hlie
        have e1 : (d.shrink ++ [(⟨x1, x2⟩ : Rl)]).length = d.shrink.length + 1 := by simp
        have HO9 := Lib.hid (show wc.ownsRow C 78 2 (.slice a9 (d.shrink.length + 1) c9) (d.shrink ++ [(⟨x1, x2⟩ : Rl)]).length ((d.shrink ++ [(⟨x1, x2⟩ : Rl)]).flatMap Rl.cells) by
          rw [e1, List.flatMap_append, List.flatMap_singleton]; exact hown9)
        clear hg9 hown9 hlie HN1 HIN hs0 hs1 hs2 hneb hneq e1
        (refine hK.out _ _ ⟨HBG.out.1, HQG.out.1⟩ (fun hHeld => ?_); clear hK K; (try simp only [Act.put, List.setIfInBounds_toArray, List.set]))
        (refine lyes 7 ?_); (try simp only [Act.put, List.setIfInBounds_toArray, List.set])
        obtain ⟨cg, fg, zg⟩ := HBG.out
        (refine last_end 8 rfl (by kernel_rfl) (by kernel_rfl) (fun K hK => ?_); go_simp)
        clear cg fg zg
        have HMP := Lib.hid (HM5.out.put4 HKG.out HO9.out HLIE.out)
        have HKP := Lib.hid (((Kp.of_below (X := fun k => k = b ∨ C ≤ k) HB5.out).trans HKG.out (fun g hg e => .inr (own_type HMo.out.r4 e.symm).1)).trans (Kp.set (X := fun k => k = b) (o := 4) (v := .slice a9 (d.shrink.length + 1) c9) rfl) (fun g _ e => .inl e))
        obtain ⟨wd, hwd⟩ : ∃ V, V = wc.setCell ⟨b, 4, none⟩ (.slice a9 (d.shrink.length + 1) c9) := ⟨_, rfl⟩
        rw [← hwd] at HMP HKP ⊢
        clear hwd HBG HQG HKG HO9 HM5 HB5 HX5 HLIE
        refine hK.out _ _ ?_
        clear hK K
        go_wp2
        refine bodyPost_ret (v := .tuple #[.int .i64 5, .bool true]) (by simp [results, Tryz.results52, go_sem]) rfl ?_
        exact ⟨by rw [hRs.out]; rfl, HKP.out, fun d' hd => by rw [hRs.out] at hd; cases hd; exact ⟨_, _, _, _, _, _, HMP.out⟩⟩
      · have dc : decide (cc < 0) = false := decide_eq_false hcc
        (refine hyes 16 ?_); (refine hyes 17 ?_); (refine hyes 18 ?_); (try simp only [Act.put, List.setIfInBounds_toArray, List.set])
        refine wpAnyH_done (by kernel_rfl) ?_ _
        clear hHeld
        obtain ⟨wA, rfl⟩ : ∃ V, V = w8 := ⟨_, rfl⟩
        have hRn := Lib.hid (show R = none from HRN.out (fun h => by rw [BE.out] at h; exact hcc (of_decide_eq_true h.2)))
        go_wp2
        refine bodyPost_ret (v := .tuple #[.int .i64 5, .bool false]) (by simp [results, Tryz.results52, go_sem]) rfl ?_
        exact ⟨by rw [hRn.out]; rfl, Kp.of_below HB.out, fun d' hd => by rw [hRn.out] at hd; cases hd⟩
    · have dn : decide ((0 : Int) < (d.shrink.length : Int)) = false := decide_eq_false (by omega)
      have dn2 : decide (0 < d.shrink.length) = false := decide_eq_false hn0
      have BE := Lib.hid (beh_zeroR (x := ⟨x1, x2⟩) hn0)
      clear hn0
      refine wp_region_held_drew (S := (fun W => (∀ o, W.cell? ⟨b, o, none⟩ = (#[.slice a0 d.more.length c0, .slice a1 d.gone.length c1, .slice a2 d.grow.length c2, .slice a3 d.ungrow.length c3, .slice a4 d.shrink.length c4, .slice a5 d.unshrink.length c5] : Array Value)[o]?) ∧ (∀ o, W.cell? ⟨gx, o, none⟩ = (#[.string x1, .string x2] : Array Value)[o]?))) (by kernel_rfl) ⟨(HM.out.blk.below (below_drew (Below.refl _ _))).1, (HX.out.below (below_drew (Below.refl _ _))).1⟩ (fun hHeld => ?_)
      have hd := below_drew (Below.refl w5.heap.size w5)
      have HB := Lib.hid (HB.out.trans (hd.mono HB.out.size))
      have HM := Lib.hid (HM.out.kp hd)
      have HX := Lib.hid (HX.out.below hd)
      obtain ⟨w6, hw6⟩ : ∃ V, V = w5.drew := ⟨_, rfl⟩
      rw [← hw6] at HB HM HX hHeld ⊢
      clear hd hw6
      (refine hyes 0 ?_); (try simp only [Act.put, List.setIfInBounds_toArray, List.set])
      (refine held_call 1 rfl (by kernel_rfl) (fun K hK => ?_); go_simp)
      go_at_call 108; refine (IR.out _).mono ?_; rintro e w7 ⟨rfl, hb7⟩
      have HB := Lib.hid (HB.out.trans (hb7.mono HB.out.size))
      have HM := Lib.hid (HM.out.kp hb7)
      have HX := Lib.hid (HX.out.below hb7)
      clear hb7 IR
      (refine hK.out _ _ ⟨HM.out.blk.1, HX.out.1⟩ (fun hHeld => ?_); clear hK K; (try simp only [Act.put, List.setIfInBounds_toArray, List.set]))
      (refine hyes 2 ?_); (refine hyes 3 ?_); (refine hyes 4 ?_); (refine hyes 5 ?_); (refine hyes 6 ?_); (try simp only [Act.put, List.setIfInBounds_toArray, List.set])
      (refine hno 7 ?_); (refine hno 8 ?_); (refine hno 9 ?_); (refine hno 10 ?_); (refine hno 11 ?_); (refine hno 12 ?_); (refine hno 13 ?_); (refine hno 14 ?_); (refine hno 15 ?_); (refine hno 16 ?_); (try simp only [Act.put, List.setIfInBounds_toArray, List.set])
      (refine hyes 17 ?_); (refine hyes 18 ?_); (try simp only [Act.put, List.setIfInBounds_toArray, List.set])
      refine wpAnyH_done (by kernel_rfl) ?_ _
      clear hHeld
      obtain ⟨wA, rfl⟩ : ∃ V, V = w7 := ⟨_, rfl⟩
      have hRs := Lib.hid (show R = some { d with shrink := d.shrink ++ [(⟨x1, x2⟩ : Rl)] } from HRY.out ⟨rfl, BE.out⟩)
      clear HRY HRN
      have hC := HM.out.hC
      have hbC := HM.out.hb
      have hzx := HX.out.2.2
      obtain ⟨cm, fm, zm⟩ := HM.out.blk
      obtain ⟨cx, fx, zx⟩ := HX.out
      go_upto_region 18 with fail
      clear cm fm zm cx fx zx
      refine wp_region_last (S := fun W => (∀ o, W.cell? ⟨b, o, none⟩ = (#[.slice a0 d.more.length c0, .slice a1 d.gone.length c1, .slice a2 d.grow.length c2, .slice a3 d.ungrow.length c3, .slice a4 d.shrink.length c4, .slice a5 d.unshrink.length c5] : Array Value)[o]?) ∧ (∀ o, W.cell? ⟨gx, o, none⟩ = (#[.string x1, .string x2] : Array Value)[o]?)) 8 (by kernel_rfl) ⟨(HM.out.blk.below (below_drew (Below.refl _ _))).1, (HX.out.below (below_drew (Below.refl _ _))).1⟩ (fun hHeld => ?_)
      have hd := below_drew (Below.refl wA.heap.size wA)
      have HM := Lib.hid (HM.out.kp hd)
      have HB := Lib.hid (HB.out.trans (hd.mono HB.out.size))
      have HX := Lib.hid (HX.out.below hd)
      obtain ⟨W4, hW4⟩ : ∃ V, V = wA.drew := ⟨_, rfl⟩
      rw [← hW4] at HM HB HX hHeld ⊢
      clear hd hW4
      (refine lyes 0 ?_); (refine lyes 1 ?_); (refine lyes 2 ?_); (refine lyes 3 ?_); (refine lyes 4 ?_); (try simp only [Act.put, List.setIfInBounds_toArray, List.set])
      (refine last_call 5 rfl (by kernel_rfl) (fun K hK => ?_); go_simp)
      obtain ⟨W5, hW5⟩ : ∃ V, V = W4.alloc (.cells #[.string x1, .string x2] 78) := ⟨_, rfl⟩
      obtain ⟨bn, hbn⟩ : ∃ b, b = W4.heap.size := ⟨_, rfl⟩
      rw [← hW5, ← hbn]
      have hbq : Below W4.heap.size W4 W5 := by rw [hW5]; exact (Below.refl _ _).alloc (Nat.le_refl _) _
      have HN1 := Lib.hid (show Sl W5 2 (.slice (some ⟨bn, 0, none⟩) 1 1) 1 ([.string x1, .string x2]) by rw [hW5]; exact Sl.new W4 [.string x1, .string x2] 78 2 1 bn hbn rfl (by simp [maxLen]))
      have HM5 := Lib.hid (HM.out.kp hbq)
      have HB5 := Lib.hid (HB.out.trans (hbq.mono HB.out.size))
      have HX5 := Lib.hid (HX.out.below hbq)
      clear hbq hW5 hbn HM HB HX
      (refine hK.out _ _ ⟨HM5.out.blk.1, HX5.out.1⟩ (fun hHeld => ?_); clear hK K; (try simp only [Act.put, List.setIfInBounds_toArray, List.set]))
      obtain ⟨inf, hin, hs0, hs1, hs2⟩ := info_parts rl_info'
      have HIN := Lib.hid hin
      clear hin
      refine last_call 6 rfl (by kernel_rfl) (fun K hK => ?_)
      refine step_rowE rfl _ _ 23 rfl C 78 inf _ 2 32 Tryz.underlying23 HIN.out hs0 hs1 hs2 (by decide) rfl (by decide) _ d.shrink.length _ rfl HM5.out.r4 _ 1 _ rfl HN1.out.a (rl_oneD ⟨x1, x2⟩) (by omega) HM5.out.hC ?_
      intro a9 c9 wc hown9 hg9 hlie
      have hneb : some b ≠ (Value.slice a4 d.shrink.length c4).ownBlock := fun e => by have := (own_type HM5.out.r4 e.symm).1; omega
      have HKG := Lib.hid (Kp.of_grown (X := fun k => some k = (Value.slice a4 d.shrink.length c4).ownBlock) hg9 (fun _ h => h))
      have HBG := Lib.hid (HKG.out.blk HM5.out.blk hneb)
      have hneq : some gx ≠ (Value.slice a4 d.shrink.length c4).ownBlock := fun e => by
        obtain ⟨_, cs, h2⟩ := own_type HMo.out.r4 e.symm
        have := (Array.getElem?_eq_some_iff.1 h2).1
        have := hgx.out
        omega
      have HQG := Lib.hid (HKG.out.blk HX5.out hneq)
      have HLIE := Lib.hid hlie
      have e1 : (d.shrink ++ [(⟨x1, x2⟩ : Rl)]).length = d.shrink.length + 1 := by simp
      have HO9 := Lib.hid (show wc.ownsRow C 78 2 (.slice a9 (d.shrink.length + 1) c9) (d.shrink ++ [(⟨x1, x2⟩ : Rl)]).length ((d.shrink ++ [(⟨x1, x2⟩ : Rl)]).flatMap Rl.cells) by
        rw [e1, List.flatMap_append, List.flatMap_singleton]; exact hown9)
      clear hg9 hown9 hlie HN1 HIN hs0 hs1 hs2 hneb hneq e1
      (refine hK.out _ _ ⟨HBG.out.1, HQG.out.1⟩ (fun hHeld => ?_); clear hK K; (try simp only [Act.put, List.setIfInBounds_toArray, List.set]))
      (refine lyes 7 ?_); (try simp only [Act.put, List.setIfInBounds_toArray, List.set])
      obtain ⟨cg, fg, zg⟩ := HBG.out
      (refine last_end 8 rfl (by kernel_rfl) (by kernel_rfl) (fun K hK => ?_); go_simp)
      clear cg fg zg
      have HMP := Lib.hid (HM5.out.put4 HKG.out HO9.out HLIE.out)
      have HKP := Lib.hid (((Kp.of_below (X := fun k => k = b ∨ C ≤ k) HB5.out).trans HKG.out (fun g hg e => .inr (own_type HMo.out.r4 e.symm).1)).trans (Kp.set (X := fun k => k = b) (o := 4) (v := .slice a9 (d.shrink.length + 1) c9) rfl) (fun g _ e => .inl e))
      obtain ⟨wd, hwd⟩ : ∃ V, V = wc.setCell ⟨b, 4, none⟩ (.slice a9 (d.shrink.length + 1) c9) := ⟨_, rfl⟩
      rw [← hwd] at HMP HKP ⊢
      clear hwd HBG HQG HKG HO9 HM5 HB5 HX5 HLIE
      refine hK.out _ _ ?_
      clear hK K
      go_wp2
      refine bodyPost_ret (v := .tuple #[.int .i64 5, .bool true]) (by simp [results, Tryz.results52, go_sem]) rfl ?_
      exact ⟨by rw [hRs.out]; rfl, HKP.out, fun d' hd => by rw [hRs.out] at hd; cases hd; exact ⟨_, _, _, _, _, _, HMP.out⟩⟩
  | false =>
    rw [hir] at IR HRN
    clear HRY
    have HRN := Lib.hid (HRN.out (fun h => by cases h.1))
    clear hir
    refine wp_region_held_drew (S := (fun W => (∀ o, W.cell? ⟨b, o, none⟩ = (#[.slice a0 d.more.length c0, .slice a1 d.gone.length c1, .slice a2 d.grow.length c2, .slice a3 d.ungrow.length c3, .slice a4 d.shrink.length c4, .slice a5 d.unshrink.length c5] : Array Value)[o]?) ∧ (∀ o, W.cell? ⟨gx, o, none⟩ = (#[.string x1, .string x2] : Array Value)[o]?))) (by kernel_rfl) ⟨(HM.out.blk.below (below_drew (Below.refl _ _))).1, (HX.out.below (below_drew (Below.refl _ _))).1⟩ (fun hHeld => ?_)
    have hd := below_drew (Below.refl w5.heap.size w5)
    have HB := Lib.hid (HB.out.trans (hd.mono HB.out.size))
    have HM := Lib.hid (HM.out.kp hd)
    have HX := Lib.hid (HX.out.below hd)
    obtain ⟨w6, hw6⟩ : ∃ V, V = w5.drew := ⟨_, rfl⟩
    rw [← hw6] at HB HM HX hHeld ⊢
    clear hd hw6
    (refine hyes 0 ?_); (try simp only [Act.put, List.setIfInBounds_toArray, List.set])
    (refine held_call 1 rfl (by kernel_rfl) (fun K hK => ?_); go_simp)
    go_at_call 108; refine (IR.out _).mono ?_; rintro e w7 ⟨rfl, hb7⟩
    have HB := Lib.hid (HB.out.trans (hb7.mono HB.out.size))
    have HM := Lib.hid (HM.out.kp hb7)
    have HX := Lib.hid (HX.out.below hb7)
    clear hb7 IR
    (refine hK.out _ _ ⟨HM.out.blk.1, HX.out.1⟩ (fun hHeld => ?_); clear hK K; (try simp only [Act.put, List.setIfInBounds_toArray, List.set]))
    (refine hyes 2 ?_); (refine hyes 3 ?_); (try simp only [Act.put, List.setIfInBounds_toArray, List.set])
    (refine hno 4 ?_); (refine hno 5 ?_); (refine hno 6 ?_); (refine hno 7 ?_); (refine hno 8 ?_); (refine hno 9 ?_); (refine hno 10 ?_); (refine hno 11 ?_); (refine hno 12 ?_); (refine hno 13 ?_); (refine hno 14 ?_); (refine hno 15 ?_); (refine hno 16 ?_); (refine hno 17 ?_); (try simp only [Act.put, List.setIfInBounds_toArray, List.set])
    (refine hyes 18 ?_); (try simp only [Act.put, List.setIfInBounds_toArray, List.set])
    refine wpAnyH_done (by kernel_rfl) ?_ _
    clear hHeld
    obtain ⟨wA, rfl⟩ : ∃ V, V = w7 := ⟨_, rfl⟩
    have hRn := Lib.hid (show R = none from HRN.out)
    go_wp2
    refine bodyPost_ret (v := .tuple #[.int .i64 5, .bool false]) (by simp [results, Tryz.results52, go_sem]) rfl ?_
    exact ⟨by rw [hRn.out]; rfl, Kp.of_below HB.out, fun d' hd => by rw [hRn.out] at hd; cases hd⟩
end Go.Proofs.YtomhekohcadijaaGreatDoor
namespace Go.Proofs.YtomhekohcadijaaGreatDoor
open Go.RowKit Go.Shelf

theorem kp_set6 (w : World) (b : Nat) (x0 x1 x2 x3 x4 x5 : Value) : Kp (fun j => j = b) w ((((((w.setCell ⟨b, 0, none⟩ (x0)).setCell ⟨b, 1, none⟩ (x1)).setCell ⟨b, 2, none⟩ (x2)).setCell ⟨b, 3, none⟩ (x3)).setCell ⟨b, 4, none⟩ (x4)).setCell ⟨b, 5, none⟩ (x5)) :=
  (((((Kp.set (X := fun j => j = b) rfl).trans (Kp.set (X := fun j => j = b) rfl) (fun _ _ e => e)).trans (Kp.set (X := fun j => j = b) rfl) (fun _ _ e => e)).trans (Kp.set (X := fun j => j = b) rfl) (fun _ _ e => e)).trans (Kp.set (X := fun j => j = b) rfl) (fun _ _ e => e)).trans (Kp.set (X := fun j => j = b) rfl) (fun _ _ e => e)
theorem blk_set6 {w : World} {b : Nat} {y0 y1 y2 y3 y4 y5 : Value} (h : Blk w b #[y0, y1, y2, y3, y4, y5]) (x0 x1 x2 x3 x4 x5 : Value) : Blk ((((((w.setCell ⟨b, 0, none⟩ (x0)).setCell ⟨b, 1, none⟩ (x1)).setCell ⟨b, 2, none⟩ (x2)).setCell ⟨b, 3, none⟩ (x3)).setCell ⟨b, 4, none⟩ (x4)).setCell ⟨b, 5, none⟩ (x5)) b #[x0, x1, x2, x3, x4, x5] :=
  ((((((h.put (o := 0) (v := x0) (by simp)).put (o := 1) (v := x1) (by simp)).put (o := 2) (v := x2) (by simp)).put (o := 3) (v := x3) (by simp)).put (o := 4) (v := x4) (by simp)).put (o := 5) (v := x5) (by simp)).congr rfl
def lenLe (d : Dl) (n : Nat) : Prop := d.more.length ≤ n ∧ d.gone.length ≤ n ∧ d.grow.length ≤ n ∧ d.ungrow.length ≤ n ∧ d.shrink.length ≤ n ∧ d.unshrink.length ≤ n
theorem step_len {d d' : Dl} {last : Int} {s : ByteArray} {n : Nat} (h : stepD d last s = some d') (hd : lenLe d n) : lenLe d' (n + 1) ∧ last ≤ (kindB s).1 := by
  obtain ⟨h0, h1, h2, h3, h4, h5⟩ := hd
  unfold stepD at h
  by_cases hl : (kindB s).1 < last
  · rw [if_pos hl] at h; cases h
  rw [if_neg hl] at h
  refine ⟨?_, by omega⟩
  by_cases k0 : (kindB s).1 = 0
  · rw [if_pos k0] at h
    split at h
    · cases h; unfold lenLe; simp only [List.length_append, List.length_cons, List.length_nil]; omega
    · cases h
  rw [if_neg k0] at h
  by_cases k1 : (kindB s).1 = 1
  · rw [if_pos k1] at h
    split at h
    · cases h; unfold lenLe; simp only [List.length_append, List.length_cons, List.length_nil]; omega
    · cases h
  rw [if_neg k1] at h
  by_cases k2 : (kindB s).1 = 2
  · rw [if_pos k2] at h
    split at h
    · cases h; unfold lenLe; simp only [List.length_append, List.length_cons, List.length_nil]; omega
    · cases h
  rw [if_neg k2] at h
  by_cases k3 : (kindB s).1 = 3
  · rw [if_pos k3] at h
    split at h
    · cases h; unfold lenLe; simp only [List.length_append, List.length_cons, List.length_nil]; omega
    · cases h
  rw [if_neg k3] at h
  by_cases k4 : (kindB s).1 = 4
  · rw [if_pos k4] at h
    split at h
    · cases h; unfold lenLe; simp only [List.length_append, List.length_cons, List.length_nil]; omega
    · cases h
  rw [if_neg k4] at h
  split at h
  · cases h; unfold lenLe; simp only [List.length_append, List.length_cons, List.length_nil]; omega
  · cases h
set_option maxRecDepth 100000 in
set_option maxHeartbeats 4000000 in
theorem delta_put_low (s rest : ByteArray) (i last : Int) (C b : Nat) (v0 v1 v2 v3 v4 v5 : Value) (d : Dl) (w : World) (_ : MkD C b w v0 v1 v2 v3 v4 v5 d) (hs : s.size ≤ 1000000) (hk : kindB s = (i, rest)) (hl : i < last) :
    Calls Tryz.prog 52 #[.pointer (some ⟨b, 0, none⟩), .string s, .int .i64 last] w fun e w' => PutP C b w i none e w' := by
  have KD := Lib.hid (fun W => delta_kind s W (by omega))
  rw [hk] at KD
  have d1 : decide (i < last) = true := decide_eq_true hl
  clear hk hs hl
  go_enter Tryz.func52, Tryz.ntmps52
  go_wp2_with fail
  refine (KD.out _).mono ?_
  rintro e w1 ⟨rfl, hb1⟩
  have HB := Lib.hid hb1
  clear hb1 KD
  go_wp2
  refine bodyPost_ret (v := .tuple #[.int .i64 i, .bool false]) (by simp [results, Tryz.results52, go_sem]) rfl ?_
  exact ⟨rfl, Kp.of_below HB.out, fun d' hd => by cases hd⟩
theorem delta_put (s : ByteArray) (last : Int) (C b : Nat) (v0 v1 v2 v3 v4 v5 : Value) (d : Dl) (w : World) (hg : Gl w) (h : MkD C b w v0 v1 v2 v3 v4 v5 d) (hs : s.size ≤ 1000000) (hn : lenLe d 100000) (h0 : 0 ≤ last) :
    Calls Tryz.prog 52 #[.pointer (some ⟨b, 0, none⟩), .string s, .int .i64 last] w fun e w' => PutP C b w (kindB s).1 (stepD d last s) e w' := by
  obtain ⟨n0, n1, n2, n3, n4, n5⟩ := hn
  by_cases hl : (kindB s).1 < last
  · have e : stepD d last s = none := if_pos hl
    rw [e]
    exact delta_put_low s (kindB s).2 (kindB s).1 last C b v0 v1 v2 v3 v4 v5 d w h hs rfl hl
  rcases kind_split s with hk | ⟨j, hj, hk, _⟩
  · rw [hk] at hl; exact absurd (show (-1 : Int) < last by omega) hl
  unfold stepD
  rw [if_neg hl]
  obtain ⟨rest, hr⟩ : ∃ r, r = (kindB s).2 := ⟨_, rfl⟩
  have hks : kindB s = ((j : Int), rest) := by rw [hr, ← hk]
  rw [hks] at hl ⊢
  dsimp only at hl ⊢
  clear hk hr
  by_cases hj0 : j = 0
  · subst hj0
    rw [if_pos (show ((0 : Nat) : Int) = 0 by decide)]
    exact delta_put0 s rest last C b v0 v1 v2 v3 v4 v5 d w hg h hs n1 hks (by omega)
  by_cases hj1 : j = 1
  · subst hj1
    rw [if_neg (show ¬ ((1 : Nat) : Int) = 0 by decide), if_pos (show ((1 : Nat) : Int) = 1 by decide)]
    exact delta_put1 s rest last C b v0 v1 v2 v3 v4 v5 d w hg h hs n0 hks (by omega)
  by_cases hj2 : j = 2
  · subst hj2
    rw [if_neg (show ¬ ((2 : Nat) : Int) = 0 by decide), if_neg (show ¬ ((2 : Nat) : Int) = 1 by decide), if_pos (show ((2 : Nat) : Int) = 2 by decide)]
    exact delta_put2 s rest last C b v0 v1 v2 v3 v4 v5 d w hg h hs n3 hks (by omega)
  by_cases hj3 : j = 3
  · subst hj3
    rw [if_neg (show ¬ ((3 : Nat) : Int) = 0 by decide), if_neg (show ¬ ((3 : Nat) : Int) = 1 by decide), if_neg (show ¬ ((3 : Nat) : Int) = 2 by decide), if_pos (show ((3 : Nat) : Int) = 3 by decide)]
    exact delta_put3 s rest last C b v0 v1 v2 v3 v4 v5 d w hg h hs n2 hks (by omega)
  by_cases hj4 : j = 4
  · subst hj4
    rw [if_neg (show ¬ ((4 : Nat) : Int) = 0 by decide), if_neg (show ¬ ((4 : Nat) : Int) = 1 by decide), if_neg (show ¬ ((4 : Nat) : Int) = 2 by decide), if_neg (show ¬ ((4 : Nat) : Int) = 3 by decide), if_pos (show ((4 : Nat) : Int) = 4 by decide)]
    exact delta_put4 s rest last C b v0 v1 v2 v3 v4 v5 d w hg h hs n5 hks (by omega)
  by_cases hj5 : j = 5
  · subst hj5
    rw [if_neg (show ¬ ((5 : Nat) : Int) = 0 by decide), if_neg (show ¬ ((5 : Nat) : Int) = 1 by decide), if_neg (show ¬ ((5 : Nat) : Int) = 2 by decide), if_neg (show ¬ ((5 : Nat) : Int) = 3 by decide), if_neg (show ¬ ((5 : Nat) : Int) = 4 by decide)]
    exact delta_put5 s rest last C b v0 v1 v2 v3 v4 v5 d w hg h hs n4 hks (by omega)
  omega
def ReadP (l : List ByteArray) (w : World) (e : Ending) (w' : World) : Prop := ∃ v0 v1 v2 v3 v4 v5, e = .returned (.tuple #[dv v0 v1 v2 v3 v4 v5, .int .i64 (readD l).2]) ∧ DlAt w' v0 v1 v2 v3 v4 v5 (readD l).1 ∧ Below w.heap.size w w'
set_option maxRecDepth 100000 in
set_option maxHeartbeats 8000000 in
theorem delta_Read (va : Value) (l : List ByteArray) (w : World) (hg : Gl w) (ha : SlA w 1 va l.length (strs l)) (hn : l.length ≤ 10000) (hs : ∀ s ∈ l, s.size ≤ 1000000) :
    Calls Tryz.prog 12 #[va] w fun e w' => ReadP l w e w' := by
  have HA := Lib.hid ha
  have HS := Lib.hid hs
  have HG := Lib.hid hg
  obtain ⟨ao, ac, rfl⟩ := ha.form
  clear ha hs hg
  have HT := Lib.hid (TwoAt.new w #[.slice none 0 0, .slice none 0 0, .slice none 0 0, .slice none 0 0, .slice none 0 0, .slice none 0 0] #[.slice none 0 0, .slice none 0 0, .slice none 0 0, .slice none 0 0, .slice none 0 0, .slice none 0 0] 32 32)
  go_enter Tryz.func12, Tryz.ntmps12
  obtain ⟨w1, hw1⟩ : ∃ W, W = (w.alloc (.cells #[.slice none 0 0, .slice none 0 0, .slice none 0 0, .slice none 0 0, .slice none 0 0, .slice none 0 0] 32)).alloc (.cells #[.slice none 0 0, .slice none 0 0, .slice none 0 0, .slice none 0 0, .slice none 0 0, .slice none 0 0] 32) := ⟨_, rfl⟩
  rw [← hw1] at HT
  have hsz1 : w1.heap.size = w.heap.size + 1 + 1 := by rw [hw1]; simp
  go_wp2_with fail
  rw [← hw1]
  clear hw1
  have HM0 := Lib.hid (show MkD (w.heap.size + 1 + 1) (w.heap.size + 1) w1 (.slice none 0 0) (.slice none 0 0) (.slice none 0 0) (.slice none 0 0) (.slice none 0 0) (.slice none 0 0) noDl from
    ⟨HT.out.b, by omega, by omega, World.ownsRow_nil _ _ _ _, World.ownsRow_nil _ _ _ _, World.ownsRow_nil _ _ _ _, World.ownsRow_nil _ _ _ _, World.ownsRow_nil _ _ _ _, World.ownsRow_nil _ _ _ _, (fun k hk => by cases hk), (fun k hk => by cases hk), (fun k hk => by cases hk), (fun k hk => by cases hk), (fun k hk => by cases hk), (fun k hk => by cases hk), (fun k hk => by cases hk)⟩)
  go_loopw [5, 12] (fun lv i wr => ∃ (k : Nat) (d : Dl) (last : Int) (a0 a1 a2 a3 a4 a5 : Option Addr) (c0 c1 c2 c3 c4 c5 : Nat), k ≤ l.length ∧ i = .int .i64 k ∧ lv = .int .i64 last ∧ Hid (0 ≤ last) ∧ Hid (readD l = goD d last k (l.drop k)) ∧ Hid (MkD (w.heap.size + 1 + 1) (w.heap.size + 1) wr (.slice a0 d.more.length c0) (.slice a1 d.gone.length c1) (.slice a2 d.grow.length c2) (.slice a3 d.ungrow.length c3) (.slice a4 d.shrink.length c4) (.slice a5 d.unshrink.length c5) d) ∧ Hid (lenLe d k) ∧ Hid (Kp (fun j => j = w.heap.size + 1 ∨ w.heap.size + 1 + 1 ≤ j) w1 wr)) (fun _ i _ => l.length - (intOf i).toNat)
  case atStart => exact ⟨0, noDl, 0, none, none, none, none, none, none, 0, 0, 0, 0, 0, 0, by omega, rfl, rfl, Lib.hid (Int.le_refl _), Lib.hid rfl, HM0, Lib.hid (by unfold lenLe noDl; simp), Lib.hid (Kp.refl _ _)⟩
  case round =>
    obtain ⟨k, d, last, a0, a1, a2, a3, a4, a5, c0, c1, c2, c3, c4, c5, hk, rfl, rfl, HL0, HE, HM, HLN, HK⟩ := hrel
    clear HM0
    have HLOW := Lib.hid (HT.out.low.trans (HK.out.below HT.out.low.size (fun j hj e => by omega)))
    have HRB := Lib.hid (HK.out.blk HT.out.a (by omega))
    have hsz := HK.out.size
    by_cases hlt : k < l.length
    · obtain ⟨b3, o3, cc3, he3, hc3, hm3, hb3, hx3⟩ := (HA.out.below HLOW.out).pos (by omega)
      simp only [Value.slice.injEq, true_and] at he3
      obtain ⟨rfl, rfl⟩ := he3
      have p3 := hx3 k _ (strs_get hlt)
      have HSZ := Lib.hid (HS.out l[k] (List.getElem_mem hlt))
      have HDR := Lib.hid (List.drop_eq_getElem_cons hlt)
      clear hx3
      generalize l[k] = s at *
      have PP := Lib.hid (delta_put s last (w.heap.size + 1 + 1) (w.heap.size + 1) (.slice a0 d.more.length c0) (.slice a1 d.gone.length c1) (.slice a2 d.grow.length c2) (.slice a3 d.ungrow.length c3) (.slice a4 d.shrink.length c4) (.slice a5 d.unshrink.length c5) d wr (HG.out.below HLOW.out) HM.out HSZ.out (by obtain ⟨n0, n1, n2, n3, n4, n5⟩ := HLN.out; exact ⟨by omega, by omega, by omega, by omega, by omega, by omega⟩) HL0.out)
      have SG := Lib.hid (fun d' (h : stepD d last s = some d') => step_len h HLN.out)
      have GB := Lib.hid (fun (h : stepD d last s = none) => (HE.out.trans (by rw [HDR.out]) : readD l = goD d last k (s :: l.drop (k + 1))).trans (goD_bad h))
      have GG := Lib.hid (fun d' (h : stepD d last s = some d') => (HE.out.trans (by rw [HDR.out]) : readD l = goD d last k (s :: l.drop (k + 1))).trans (goD_go h))
      generalize stepD d last s = R at *
      generalize (kindB s).1 = kk at *
      go_wp2_with fail
      refine PP.out.mono ?_
      rintro e w2 ⟨rfl, hk2, hd2⟩
      have HK2 := Lib.hid (HK.out.trans hk2 (fun _ _ e => e))
      have HD2 := Lib.hid hd2
      have HRB2 := Lib.hid (hk2.blk HRB.out (by omega))
      have hsz2 := hk2.size
      clear hk2 hd2 PP p3
      cases R with
      | none =>
        have R0 := Lib.hid (GB.out rfl)
        clear GB GG SG HD2
        dsimp only [Option.isSome]
        obtain ⟨cr, fr, zr⟩ := HRB2.out
        have hwk : IntKind.i64.wrap ((k : Int) + 1) = (k : Int) + 1 := Go.IntWalk.i64_in _ (by omega)
        go_wp2
        clear cr fr zr
        generalize hW : ((((((w2.setCell ⟨w.heap.size, 0, none⟩ (.slice none 0 0)).setCell ⟨w.heap.size, 1, none⟩ (.slice none 0 0)).setCell ⟨w.heap.size, 2, none⟩ (.slice none 0 0)).setCell ⟨w.heap.size, 3, none⟩ (.slice none 0 0)).setCell ⟨w.heap.size, 4, none⟩ (.slice none 0 0)).setCell ⟨w.heap.size, 5, none⟩ (.slice none 0 0)) = W9
        have KN : Kp (fun j => j = w.heap.size) w2 W9 := by rw [← hW]; exact kp_set6 _ _ _ _ _ _ _ _
        have HW9 : Blk W9 w.heap.size #[.slice none 0 0, .slice none 0 0, .slice none 0 0, .slice none 0 0, .slice none 0 0, .slice none 0 0] := by rw [← hW]; exact blk_set6 HRB2.out _ _ _ _ _ _
        have HLW : Below w.heap.size w W9 := (HT.out.low.trans (HK2.out.below HT.out.low.size (fun j hj e => by omega))).trans (KN.below (Nat.le_trans HT.out.low.size HK2.out.size) (fun j hj e => by omega))
        clear hW KN
        obtain ⟨cw, fw, zw⟩ := HW9
        refine bodyPost_ret (v := .tuple #[dv (.slice none 0 0) (.slice none 0 0) (.slice none 0 0) (.slice none 0 0) (.slice none 0 0) (.slice none 0 0), .int .i64 ((k : Int) + 1)]) (by simp [results, Tryz.results12, go_sem, cw]) rfl ?_
        refine ⟨_, _, _, _, _, _, by rw [R0.out], ?_, HLW⟩
        rw [R0.out]
        exact ⟨(Sl.nil _ _).a, (Sl.nil _ _).a, (Sl.nil _ _).a, (Sl.nil _ _).a, (Sl.nil _ _).a, (Sl.nil _ _).a⟩
      | some d' =>
        obtain ⟨u0, u1, u2, u3, u4, u5, hm⟩ := HD2.out d' rfl
        have E := Lib.hid (GG.out d' rfl)
        have S := Lib.hid (SG.out d' rfl)
        have HM2 := Lib.hid hm
        obtain ⟨e0, f0, rfl⟩ := own_form hm.r0
        obtain ⟨e1, f1, rfl⟩ := own_form hm.r1
        obtain ⟨e2, f2, rfl⟩ := own_form hm.r2
        obtain ⟨e3, f3, rfl⟩ := own_form hm.r3
        obtain ⟨e4, f4, rfl⟩ := own_form hm.r4
        obtain ⟨e5, f5, rfl⟩ := own_form hm.r5
        clear GB GG SG HD2 hm HM HE HLN HDR HSZ
        dsimp only [Option.isSome]
        have HL2 := Lib.hid (show 0 ≤ kk by have := S.out.2; have := HL0.out; omega)
        go_wp2_with fail
        exact ⟨⟨k + 1, d', kk, e0, e1, e2, e3, e4, e5, f0, f1, f2, f3, f4, f5, by omega, by go_num, rfl, HL2, E, HM2, Lib.hid S.out.1, HK2⟩, by simp [intOf]; omega⟩
    · have R0 := Lib.hid (show readD l = (d, 0) by rw [HE.out, List.drop_of_length_le (by omega)]; rfl)
      obtain ⟨cm, fm, zm⟩ := HM.out.blk
      obtain ⟨cr, fr, zr⟩ := HRB.out
      go_wp2
      clear cm fm zm cr fr zr
      generalize hW : ((((((wr.setCell ⟨w.heap.size, 0, none⟩ (.slice a0 d.more.length c0)).setCell ⟨w.heap.size, 1, none⟩ (.slice a1 d.gone.length c1)).setCell ⟨w.heap.size, 2, none⟩ (.slice a2 d.grow.length c2)).setCell ⟨w.heap.size, 3, none⟩ (.slice a3 d.ungrow.length c3)).setCell ⟨w.heap.size, 4, none⟩ (.slice a4 d.shrink.length c4)).setCell ⟨w.heap.size, 5, none⟩ (.slice a5 d.unshrink.length c5)) = W9
      have KN : Kp (fun j => j = w.heap.size) wr W9 := by rw [← hW]; exact kp_set6 _ _ _ _ _ _ _ _
      have HW9 : Blk W9 w.heap.size #[.slice a0 d.more.length c0, .slice a1 d.gone.length c1, .slice a2 d.grow.length c2, .slice a3 d.ungrow.length c3, .slice a4 d.shrink.length c4, .slice a5 d.unshrink.length c5] := by rw [← hW]; exact blk_set6 HRB.out _ _ _ _ _ _
      have HLW : Below w.heap.size w W9 := HLOW.out.trans (KN.below HLOW.out.size (fun j hj e => by omega))
      have far : ∀ {e : TypeId} {size n : Nat} {v : Value} {xs : List Value}, wr.ownsRow (w.heap.size + 1 + 1) e size v n xs → W9.ownsRow (w.heap.size + 1 + 1) e size v n xs := fun ho => KN.own ho (fun g hg e => by have := (own_type ho hg).1; omega)
      have HD : DlAt W9 (.slice a0 d.more.length c0) (.slice a1 d.gone.length c1) (.slice a2 d.grow.length c2) (.slice a3 d.ungrow.length c3) (.slice a4 d.shrink.length c4) (.slice a5 d.unshrink.length c5) d := ⟨(Sl.of_own (far HM.out.r0)).a, (Sl.of_own (far HM.out.r1)).a, (Sl.of_own (far HM.out.r2)).a, (Sl.of_own (far HM.out.r3)).a, (Sl.of_own (far HM.out.r4)).a, (Sl.of_own (far HM.out.r5)).a⟩
      clear hW KN far
      obtain ⟨cw, fw, zw⟩ := HW9
      refine bodyPost_ret (v := .tuple #[dv (.slice a0 d.more.length c0) (.slice a1 d.gone.length c1) (.slice a2 d.grow.length c2) (.slice a3 d.ungrow.length c3) (.slice a4 d.shrink.length c4) (.slice a5 d.unshrink.length c5), .int .i64 0]) (by simp [results, Tryz.results12, go_sem, cw]) rfl ?_
      exact ⟨_, _, _, _, _, _, by rw [R0.out], by rw [R0.out]; exact HD, HLW⟩
end Go.Proofs.YtomhekohcadijaaGreatDoor
namespace Go.Proofs.YtomhekohcadijaaGreatDoor
open Go.RowKit Go.Shelf

theorem ext_app (m t : ByteArray) : (m ++ t).extract m.size (m ++ t).size = t := by
  refine bl_inj.1 ?_
  rw [bl_extract, bl_append, ByteArray.size_append, ← bl_len m, ← bl_len t, ← List.length_append, List.take_length]
  simp
theorem preB_app (m t p : ByteArray) : preB (m ++ t) p = (bl p).isPrefixOf (bl m ++ bl t) := by
  rw [← bl_append]; rfl
theorem kindL_cons (s : ByteArray) (x : Nat × ByteArray) (r : List (Nat × ByteArray)) : kindL s (x :: r) = if preB s x.2 = true then ((x.1 : Int), s.extract x.2.size s.size) else kindL s r := rfl
theorem kindB_eq (s : ByteArray) : kindB s = kindL s [(5, mk5), (4, mk4), (3, mk3), (2, mk2), (1, mk1), (0, mk0)] := rfl
def plainT (t : ByteArray) : Prop := ∀ c r, bl t = c :: r → ¬ c = 103 ∧ ¬ c = 115
theorem kind_mk0 {t : ByteArray} (h : plainT t) : kindB (mk0 ++ t) = (0, t) := by
  rw [kindB_eq]
  rw [kindL_cons, if_neg (by
    rw [preB_app, show bl mk5 = [43, 32, 115, 104, 114, 105, 110, 107, 32] from rfl, show bl mk0 = [45, 32] from rfl]
    simp [List.isPrefixOf])]
  rw [kindL_cons, if_neg (by
    rw [preB_app, show bl mk4 = [45, 32, 115, 104, 114, 105, 110, 107, 32] from rfl, show bl mk0 = [45, 32] from rfl]
    unfold plainT at h
    cases e : bl t with
    | nil => decide
    | cons c r =>
      have hc := h c r e
      simp [List.isPrefixOf, Ne.symm hc.2])]
  rw [kindL_cons, if_neg (by
    rw [preB_app, show bl mk3 = [43, 32, 103, 114, 111, 119, 32] from rfl, show bl mk0 = [45, 32] from rfl]
    simp [List.isPrefixOf])]
  rw [kindL_cons, if_neg (by
    rw [preB_app, show bl mk2 = [45, 32, 103, 114, 111, 119, 32] from rfl, show bl mk0 = [45, 32] from rfl]
    unfold plainT at h
    cases e : bl t with
    | nil => decide
    | cons c r =>
      have hc := h c r e
      simp [List.isPrefixOf, Ne.symm hc.1])]
  rw [kindL_cons, if_neg (by
    rw [preB_app, show bl mk1 = [43, 32] from rfl, show bl mk0 = [45, 32] from rfl]
    simp [List.isPrefixOf])]
  rw [kindL_cons, if_pos (by
    rw [preB_app, show bl mk0 = [45, 32] from rfl]
    simp [List.isPrefixOf])]
  exact congrArg (Prod.mk _) (ext_app mk0 t)
theorem kind_mk1 {t : ByteArray} (h : plainT t) : kindB (mk1 ++ t) = (1, t) := by
  rw [kindB_eq]
  rw [kindL_cons, if_neg (by
    rw [preB_app, show bl mk5 = [43, 32, 115, 104, 114, 105, 110, 107, 32] from rfl, show bl mk1 = [43, 32] from rfl]
    unfold plainT at h
    cases e : bl t with
    | nil => decide
    | cons c r =>
      have hc := h c r e
      simp [List.isPrefixOf, Ne.symm hc.2])]
  rw [kindL_cons, if_neg (by
    rw [preB_app, show bl mk4 = [45, 32, 115, 104, 114, 105, 110, 107, 32] from rfl, show bl mk1 = [43, 32] from rfl]
    simp [List.isPrefixOf])]
  rw [kindL_cons, if_neg (by
    rw [preB_app, show bl mk3 = [43, 32, 103, 114, 111, 119, 32] from rfl, show bl mk1 = [43, 32] from rfl]
    unfold plainT at h
    cases e : bl t with
    | nil => decide
    | cons c r =>
      have hc := h c r e
      simp [List.isPrefixOf, Ne.symm hc.1])]
  rw [kindL_cons, if_neg (by
    rw [preB_app, show bl mk2 = [45, 32, 103, 114, 111, 119, 32] from rfl, show bl mk1 = [43, 32] from rfl]
    simp [List.isPrefixOf])]
  rw [kindL_cons, if_pos (by
    rw [preB_app, show bl mk1 = [43, 32] from rfl]
    simp [List.isPrefixOf])]
  exact congrArg (Prod.mk _) (ext_app mk1 t)
theorem kind_mk2 {t : ByteArray} : kindB (mk2 ++ t) = (2, t) := by
  rw [kindB_eq]
  rw [kindL_cons, if_neg (by
    rw [preB_app, show bl mk5 = [43, 32, 115, 104, 114, 105, 110, 107, 32] from rfl, show bl mk2 = [45, 32, 103, 114, 111, 119, 32] from rfl]
    simp [List.isPrefixOf])]
  rw [kindL_cons, if_neg (by
    rw [preB_app, show bl mk4 = [45, 32, 115, 104, 114, 105, 110, 107, 32] from rfl, show bl mk2 = [45, 32, 103, 114, 111, 119, 32] from rfl]
    simp [List.isPrefixOf])]
  rw [kindL_cons, if_neg (by
    rw [preB_app, show bl mk3 = [43, 32, 103, 114, 111, 119, 32] from rfl, show bl mk2 = [45, 32, 103, 114, 111, 119, 32] from rfl]
    simp [List.isPrefixOf])]
  rw [kindL_cons, if_pos (by
    rw [preB_app, show bl mk2 = [45, 32, 103, 114, 111, 119, 32] from rfl]
    simp [List.isPrefixOf])]
  exact congrArg (Prod.mk _) (ext_app mk2 t)
theorem kind_mk3 {t : ByteArray} : kindB (mk3 ++ t) = (3, t) := by
  rw [kindB_eq]
  rw [kindL_cons, if_neg (by
    rw [preB_app, show bl mk5 = [43, 32, 115, 104, 114, 105, 110, 107, 32] from rfl, show bl mk3 = [43, 32, 103, 114, 111, 119, 32] from rfl]
    simp [List.isPrefixOf])]
  rw [kindL_cons, if_neg (by
    rw [preB_app, show bl mk4 = [45, 32, 115, 104, 114, 105, 110, 107, 32] from rfl, show bl mk3 = [43, 32, 103, 114, 111, 119, 32] from rfl]
    simp [List.isPrefixOf])]
  rw [kindL_cons, if_pos (by
    rw [preB_app, show bl mk3 = [43, 32, 103, 114, 111, 119, 32] from rfl]
    simp [List.isPrefixOf])]
  exact congrArg (Prod.mk _) (ext_app mk3 t)
theorem kind_mk4 {t : ByteArray} : kindB (mk4 ++ t) = (4, t) := by
  rw [kindB_eq]
  rw [kindL_cons, if_neg (by
    rw [preB_app, show bl mk5 = [43, 32, 115, 104, 114, 105, 110, 107, 32] from rfl, show bl mk4 = [45, 32, 115, 104, 114, 105, 110, 107, 32] from rfl]
    simp [List.isPrefixOf])]
  rw [kindL_cons, if_pos (by
    rw [preB_app, show bl mk4 = [45, 32, 115, 104, 114, 105, 110, 107, 32] from rfl]
    simp [List.isPrefixOf])]
  exact congrArg (Prod.mk _) (ext_app mk4 t)
theorem kind_mk5 {t : ByteArray} : kindB (mk5 ++ t) = (5, t) := by
  rw [kindB_eq]
  rw [kindL_cons, if_pos (by
    rw [preB_app, show bl mk5 = [43, 32, 115, 104, 114, 105, 110, 107, 32] from rfl]
    simp [List.isPrefixOf])]
  exact congrArg (Prod.mk _) (ext_app mk5 t)
theorem rightS_role {s : St} (h : rightS s = true) : isRole s.h = true := by
  obtain ⟨k, hd, who, a, b, via⟩ := s
  have hr := h
  by_cases k1 : k = 1
  · subst k1
    rw [rightS1] at h
    simp only [Bool.and_eq_true] at h
    exact h.1.1
  by_cases k2 : k = 2
  · subst k2
    rw [rightS2] at h
    simp only [Bool.and_eq_true] at h
    exact h.1.1
  by_cases k3 : k = 3
  · subst k3
    rw [rightS3] at h
    simp only [Bool.and_eq_true] at h
    exact h.1.1.1
  by_cases k4 : k = 4
  · subst k4
    rw [rightS4] at h
    simp only [Bool.and_eq_true] at h
    exact h.1.1.1.1
  rw [rightS0 _ _ _ _ _ _ k1 k2 k3 k4] at hr
  cases hr
theorem plain_print {x : St} (h : rightS x = true) : plainT (printS x) := by
  intro c r e
  have hr : isRole x.h = true := rightS_role h
  unfold isRole at hr
  rw [Bool.and_eq_true] at hr
  have hp := hr.1
  unfold printS at e
  rw [if_pos h, bl_append, bl_append] at e
  unfold roleT at e
  rw [bl_append, bl_append] at e
  cases ho : bl x.h.o with
  | nil => rw [ho] at hp; exact absurd hp (by decide)
  | cons a m =>
    rw [ho] at e hp
    have ea : a = c := by simpa using congrArg List.head? e
    subst ea
    simp only [isP, Bool.and_eq_true, decide_eq_true_iff] at hp
    have hb := hp.1.2
    constructor
    · rintro rfl; exact absurd hb (by decide)
    · rintro rfl; exact absurd hb (by decide)
structure GoodL (d : Dl) : Prop where
  r_gone : ∀ x ∈ d.gone, rightS x = true
  a_gone : Asc d.gone
  r_more : ∀ x ∈ d.more, rightS x = true
  a_more : Asc d.more
  r_ungrow : ∀ x ∈ d.ungrow, isRole x = true
  a_ungrow : AscR d.ungrow
  r_grow : ∀ x ∈ d.grow, isRole x = true
  a_grow : AscR d.grow
  r_unshrink : ∀ x ∈ d.unshrink, isRole x = true
  a_unshrink : AscR d.unshrink
  r_shrink : ∀ x ∈ d.shrink, isRole x = true
  a_shrink : AscR d.shrink
theorem step_mk0 {d : Dl} {last : Int} {x : St} (hl : last ≤ 0) (hx : rightS x = true) (hb : Asc (d.gone ++ [x])) : stepD d last (mk0 ++ printS x) = some { d with gone := d.gone ++ [x] } := by
  unfold stepD
  rw [kind_mk0 (t := printS x) (plain_print hx)]
  dsimp only
  rw [if_neg (show ¬ (0 : Int) < last by omega), if_pos rfl, if_pos (okLnS_iff.2 ⟨by rw [parse_print x hx], by rw [parse_print x hx], by rw [parse_print x hx]; exact beh_ascS hb⟩), parse_print x hx]
theorem goD_mk0 : ∀ (xs : List St) (d : Dl) (last : Int) (i : Nat) (r : List ByteArray), last ≤ 0 → (∀ x ∈ xs, rightS x = true) → Asc (d.gone ++ xs) →
    ∃ last' : Int, last' ≤ 0 ∧ ∃ i' : Nat, goD d last i (lnS mk0 xs ++ r) = goD { d with gone := d.gone ++ xs } last' i' r
  | [], d, last, i, r, hl, _, _ => ⟨last, hl, i, by rw [List.append_nil]; rfl⟩
  | x :: xs, d, last, i, r, hl, hx, ha => by
    have h1 := step_mk0 (d := d) hl (hx x (by simp)) (by
      rw [show d.gone ++ x :: xs = (d.gone ++ [x]) ++ xs by simp] at ha
      exact (List.pairwise_append.1 ha).1)
    have hkk : (kindB (mk0 ++ printS x)).1 = 0 := by rw [kind_mk0 (t := printS x) (plain_print (hx x (by simp)))]
    obtain ⟨l', h2, i', h3⟩ := goD_mk0 xs { d with gone := d.gone ++ [x] } 0 (i + 1) r (Int.le_refl _) (fun y hy => hx y (by simp [hy])) (by simpa using ha)
    refine ⟨l', h2, i', ?_⟩
    show goD d last i ((mk0 ++ printS x) :: (lnS mk0 xs ++ r)) = _
    rw [goD_go h1, hkk, h3]
    simp
theorem step_mk1 {d : Dl} {last : Int} {x : St} (hl : last ≤ 1) (hx : rightS x = true) (hb : Asc (d.more ++ [x])) : stepD d last (mk1 ++ printS x) = some { d with more := d.more ++ [x] } := by
  unfold stepD
  rw [kind_mk1 (t := printS x) (plain_print hx)]
  dsimp only
  rw [if_neg (show ¬ (1 : Int) < last by omega), if_neg (show ¬ (1 : Int) = 0 by decide), if_pos rfl, if_pos (okLnS_iff.2 ⟨by rw [parse_print x hx], by rw [parse_print x hx], by rw [parse_print x hx]; exact beh_ascS hb⟩), parse_print x hx]
theorem goD_mk1 : ∀ (xs : List St) (d : Dl) (last : Int) (i : Nat) (r : List ByteArray), last ≤ 1 → (∀ x ∈ xs, rightS x = true) → Asc (d.more ++ xs) →
    ∃ last' : Int, last' ≤ 1 ∧ ∃ i' : Nat, goD d last i (lnS mk1 xs ++ r) = goD { d with more := d.more ++ xs } last' i' r
  | [], d, last, i, r, hl, _, _ => ⟨last, hl, i, by rw [List.append_nil]; rfl⟩
  | x :: xs, d, last, i, r, hl, hx, ha => by
    have h1 := step_mk1 (d := d) hl (hx x (by simp)) (by
      rw [show d.more ++ x :: xs = (d.more ++ [x]) ++ xs by simp] at ha
      exact (List.pairwise_append.1 ha).1)
    have hkk : (kindB (mk1 ++ printS x)).1 = 1 := by rw [kind_mk1 (t := printS x) (plain_print (hx x (by simp)))]
    obtain ⟨l', h2, i', h3⟩ := goD_mk1 xs { d with more := d.more ++ [x] } 1 (i + 1) r (Int.le_refl _) (fun y hy => hx y (by simp [hy])) (by simpa using ha)
    refine ⟨l', h2, i', ?_⟩
    show goD d last i ((mk1 ++ printS x) :: (lnS mk1 xs ++ r)) = _
    rw [goD_go h1, hkk, h3]
    simp
theorem step_mk2 {d : Dl} {last : Int} {x : Rl} (hl : last ≤ 2) (hx : isRole x = true) (hb : AscR (d.ungrow ++ [x])) : stepD d last (mk2 ++ roleT x) = some { d with ungrow := d.ungrow ++ [x] } := by
  unfold stepD
  rw [kind_mk2 (t := roleT x)]
  dsimp only
  rw [if_neg (show ¬ (2 : Int) < last by omega), if_neg (show ¬ (2 : Int) = 0 by decide), if_neg (show ¬ (2 : Int) = 1 by decide), if_pos rfl, if_pos (okLnR_iff.2 ⟨by rw [cutR_role hx]; exact hx, by rw [cutR_role hx]; exact beh_ascR hb⟩), cutR_role hx]
theorem goD_mk2 : ∀ (xs : List Rl) (d : Dl) (last : Int) (i : Nat) (r : List ByteArray), last ≤ 2 → (∀ x ∈ xs, isRole x = true) → AscR (d.ungrow ++ xs) →
    ∃ last' : Int, last' ≤ 2 ∧ ∃ i' : Nat, goD d last i (lnR mk2 xs ++ r) = goD { d with ungrow := d.ungrow ++ xs } last' i' r
  | [], d, last, i, r, hl, _, _ => ⟨last, hl, i, by rw [List.append_nil]; rfl⟩
  | x :: xs, d, last, i, r, hl, hx, ha => by
    have h1 := step_mk2 (d := d) hl (hx x (by simp)) (by
      rw [show d.ungrow ++ x :: xs = (d.ungrow ++ [x]) ++ xs by simp] at ha
      exact (List.pairwise_append.1 ha).1)
    have hkk : (kindB (mk2 ++ roleT x)).1 = 2 := by rw [kind_mk2 (t := roleT x)]
    obtain ⟨l', h2, i', h3⟩ := goD_mk2 xs { d with ungrow := d.ungrow ++ [x] } 2 (i + 1) r (Int.le_refl _) (fun y hy => hx y (by simp [hy])) (by simpa using ha)
    refine ⟨l', h2, i', ?_⟩
    show goD d last i ((mk2 ++ roleT x) :: (lnR mk2 xs ++ r)) = _
    rw [goD_go h1, hkk, h3]
    simp
theorem step_mk3 {d : Dl} {last : Int} {x : Rl} (hl : last ≤ 3) (hx : isRole x = true) (hb : AscR (d.grow ++ [x])) : stepD d last (mk3 ++ roleT x) = some { d with grow := d.grow ++ [x] } := by
  unfold stepD
  rw [kind_mk3 (t := roleT x)]
  dsimp only
  rw [if_neg (show ¬ (3 : Int) < last by omega), if_neg (show ¬ (3 : Int) = 0 by decide), if_neg (show ¬ (3 : Int) = 1 by decide), if_neg (show ¬ (3 : Int) = 2 by decide), if_pos rfl, if_pos (okLnR_iff.2 ⟨by rw [cutR_role hx]; exact hx, by rw [cutR_role hx]; exact beh_ascR hb⟩), cutR_role hx]
theorem goD_mk3 : ∀ (xs : List Rl) (d : Dl) (last : Int) (i : Nat) (r : List ByteArray), last ≤ 3 → (∀ x ∈ xs, isRole x = true) → AscR (d.grow ++ xs) →
    ∃ last' : Int, last' ≤ 3 ∧ ∃ i' : Nat, goD d last i (lnR mk3 xs ++ r) = goD { d with grow := d.grow ++ xs } last' i' r
  | [], d, last, i, r, hl, _, _ => ⟨last, hl, i, by rw [List.append_nil]; rfl⟩
  | x :: xs, d, last, i, r, hl, hx, ha => by
    have h1 := step_mk3 (d := d) hl (hx x (by simp)) (by
      rw [show d.grow ++ x :: xs = (d.grow ++ [x]) ++ xs by simp] at ha
      exact (List.pairwise_append.1 ha).1)
    have hkk : (kindB (mk3 ++ roleT x)).1 = 3 := by rw [kind_mk3 (t := roleT x)]
    obtain ⟨l', h2, i', h3⟩ := goD_mk3 xs { d with grow := d.grow ++ [x] } 3 (i + 1) r (Int.le_refl _) (fun y hy => hx y (by simp [hy])) (by simpa using ha)
    refine ⟨l', h2, i', ?_⟩
    show goD d last i ((mk3 ++ roleT x) :: (lnR mk3 xs ++ r)) = _
    rw [goD_go h1, hkk, h3]
    simp
theorem step_mk4 {d : Dl} {last : Int} {x : Rl} (hl : last ≤ 4) (hx : isRole x = true) (hb : AscR (d.unshrink ++ [x])) : stepD d last (mk4 ++ roleT x) = some { d with unshrink := d.unshrink ++ [x] } := by
  unfold stepD
  rw [kind_mk4 (t := roleT x)]
  dsimp only
  rw [if_neg (show ¬ (4 : Int) < last by omega), if_neg (show ¬ (4 : Int) = 0 by decide), if_neg (show ¬ (4 : Int) = 1 by decide), if_neg (show ¬ (4 : Int) = 2 by decide), if_neg (show ¬ (4 : Int) = 3 by decide), if_pos rfl, if_pos (okLnR_iff.2 ⟨by rw [cutR_role hx]; exact hx, by rw [cutR_role hx]; exact beh_ascR hb⟩), cutR_role hx]
theorem goD_mk4 : ∀ (xs : List Rl) (d : Dl) (last : Int) (i : Nat) (r : List ByteArray), last ≤ 4 → (∀ x ∈ xs, isRole x = true) → AscR (d.unshrink ++ xs) →
    ∃ last' : Int, last' ≤ 4 ∧ ∃ i' : Nat, goD d last i (lnR mk4 xs ++ r) = goD { d with unshrink := d.unshrink ++ xs } last' i' r
  | [], d, last, i, r, hl, _, _ => ⟨last, hl, i, by rw [List.append_nil]; rfl⟩
  | x :: xs, d, last, i, r, hl, hx, ha => by
    have h1 := step_mk4 (d := d) hl (hx x (by simp)) (by
      rw [show d.unshrink ++ x :: xs = (d.unshrink ++ [x]) ++ xs by simp] at ha
      exact (List.pairwise_append.1 ha).1)
    have hkk : (kindB (mk4 ++ roleT x)).1 = 4 := by rw [kind_mk4 (t := roleT x)]
    obtain ⟨l', h2, i', h3⟩ := goD_mk4 xs { d with unshrink := d.unshrink ++ [x] } 4 (i + 1) r (Int.le_refl _) (fun y hy => hx y (by simp [hy])) (by simpa using ha)
    refine ⟨l', h2, i', ?_⟩
    show goD d last i ((mk4 ++ roleT x) :: (lnR mk4 xs ++ r)) = _
    rw [goD_go h1, hkk, h3]
    simp
theorem step_mk5 {d : Dl} {last : Int} {x : Rl} (hl : last ≤ 5) (hx : isRole x = true) (hb : AscR (d.shrink ++ [x])) : stepD d last (mk5 ++ roleT x) = some { d with shrink := d.shrink ++ [x] } := by
  unfold stepD
  rw [kind_mk5 (t := roleT x)]
  dsimp only
  rw [if_neg (show ¬ (5 : Int) < last by omega), if_neg (show ¬ (5 : Int) = 0 by decide), if_neg (show ¬ (5 : Int) = 1 by decide), if_neg (show ¬ (5 : Int) = 2 by decide), if_neg (show ¬ (5 : Int) = 3 by decide), if_neg (show ¬ (5 : Int) = 4 by decide), if_pos (okLnR_iff.2 ⟨by rw [cutR_role hx]; exact hx, by rw [cutR_role hx]; exact beh_ascR hb⟩), cutR_role hx]
theorem goD_mk5 : ∀ (xs : List Rl) (d : Dl) (last : Int) (i : Nat) (r : List ByteArray), last ≤ 5 → (∀ x ∈ xs, isRole x = true) → AscR (d.shrink ++ xs) →
    ∃ last' : Int, last' ≤ 5 ∧ ∃ i' : Nat, goD d last i (lnR mk5 xs ++ r) = goD { d with shrink := d.shrink ++ xs } last' i' r
  | [], d, last, i, r, hl, _, _ => ⟨last, hl, i, by rw [List.append_nil]; rfl⟩
  | x :: xs, d, last, i, r, hl, hx, ha => by
    have h1 := step_mk5 (d := d) hl (hx x (by simp)) (by
      rw [show d.shrink ++ x :: xs = (d.shrink ++ [x]) ++ xs by simp] at ha
      exact (List.pairwise_append.1 ha).1)
    have hkk : (kindB (mk5 ++ roleT x)).1 = 5 := by rw [kind_mk5 (t := roleT x)]
    obtain ⟨l', h2, i', h3⟩ := goD_mk5 xs { d with shrink := d.shrink ++ [x] } 5 (i + 1) r (Int.le_refl _) (fun y hy => hx y (by simp [hy])) (by simpa using ha)
    refine ⟨l', h2, i', ?_⟩
    show goD d last i ((mk5 ++ roleT x) :: (lnR mk5 xs ++ r)) = _
    rw [goD_go h1, hkk, h3]
    simp
theorem readD_back {d : Dl} (h : GoodL d) : readD d.lines = (d, 0) := by
  unfold readD
  have e : d.lines = lnS mk0 d.gone ++ (lnS mk1 d.more ++ (lnR mk2 d.ungrow ++ (lnR mk3 d.grow ++ (lnR mk4 d.unshrink ++ (lnR mk5 d.shrink ++ []))))) := by unfold Dl.lines; simp
  rw [e]
  obtain ⟨m0, b0, i0, e0⟩ := goD_mk0 d.gone noDl 0 0 (lnS mk1 d.more ++ (lnR mk2 d.ungrow ++ (lnR mk3 d.grow ++ (lnR mk4 d.unshrink ++ (lnR mk5 d.shrink ++ ([] : List ByteArray)))))) (by decide) h.r_gone (by simpa [noDl] using h.a_gone)
  rw [e0]
  obtain ⟨m1, b1, i1, e1⟩ := goD_mk1 d.more { (noDl : Dl) with gone := (noDl : Dl).gone ++ d.gone } m0 i0 (lnR mk2 d.ungrow ++ (lnR mk3 d.grow ++ (lnR mk4 d.unshrink ++ (lnR mk5 d.shrink ++ ([] : List ByteArray))))) (by omega) h.r_more (by simpa [noDl] using h.a_more)
  rw [e1]
  obtain ⟨m2, b2, i2, e2⟩ := goD_mk2 d.ungrow { ({ (noDl : Dl) with gone := (noDl : Dl).gone ++ d.gone } : Dl) with more := ({ (noDl : Dl) with gone := (noDl : Dl).gone ++ d.gone } : Dl).more ++ d.more } m1 i1 (lnR mk3 d.grow ++ (lnR mk4 d.unshrink ++ (lnR mk5 d.shrink ++ ([] : List ByteArray)))) (by omega) h.r_ungrow (by simpa [noDl] using h.a_ungrow)
  rw [e2]
  obtain ⟨m3, b3, i3, e3⟩ := goD_mk3 d.grow { ({ ({ (noDl : Dl) with gone := (noDl : Dl).gone ++ d.gone } : Dl) with more := ({ (noDl : Dl) with gone := (noDl : Dl).gone ++ d.gone } : Dl).more ++ d.more } : Dl) with ungrow := ({ ({ (noDl : Dl) with gone := (noDl : Dl).gone ++ d.gone } : Dl) with more := ({ (noDl : Dl) with gone := (noDl : Dl).gone ++ d.gone } : Dl).more ++ d.more } : Dl).ungrow ++ d.ungrow } m2 i2 (lnR mk4 d.unshrink ++ (lnR mk5 d.shrink ++ ([] : List ByteArray))) (by omega) h.r_grow (by simpa [noDl] using h.a_grow)
  rw [e3]
  obtain ⟨m4, b4, i4, e4⟩ := goD_mk4 d.unshrink { ({ ({ ({ (noDl : Dl) with gone := (noDl : Dl).gone ++ d.gone } : Dl) with more := ({ (noDl : Dl) with gone := (noDl : Dl).gone ++ d.gone } : Dl).more ++ d.more } : Dl) with ungrow := ({ ({ (noDl : Dl) with gone := (noDl : Dl).gone ++ d.gone } : Dl) with more := ({ (noDl : Dl) with gone := (noDl : Dl).gone ++ d.gone } : Dl).more ++ d.more } : Dl).ungrow ++ d.ungrow } : Dl) with grow := ({ ({ ({ (noDl : Dl) with gone := (noDl : Dl).gone ++ d.gone } : Dl) with more := ({ (noDl : Dl) with gone := (noDl : Dl).gone ++ d.gone } : Dl).more ++ d.more } : Dl) with ungrow := ({ ({ (noDl : Dl) with gone := (noDl : Dl).gone ++ d.gone } : Dl) with more := ({ (noDl : Dl) with gone := (noDl : Dl).gone ++ d.gone } : Dl).more ++ d.more } : Dl).ungrow ++ d.ungrow } : Dl).grow ++ d.grow } m3 i3 (lnR mk5 d.shrink ++ ([] : List ByteArray)) (by omega) h.r_unshrink (by simpa [noDl] using h.a_unshrink)
  rw [e4]
  obtain ⟨m5, b5, i5, e5⟩ := goD_mk5 d.shrink { ({ ({ ({ ({ (noDl : Dl) with gone := (noDl : Dl).gone ++ d.gone } : Dl) with more := ({ (noDl : Dl) with gone := (noDl : Dl).gone ++ d.gone } : Dl).more ++ d.more } : Dl) with ungrow := ({ ({ (noDl : Dl) with gone := (noDl : Dl).gone ++ d.gone } : Dl) with more := ({ (noDl : Dl) with gone := (noDl : Dl).gone ++ d.gone } : Dl).more ++ d.more } : Dl).ungrow ++ d.ungrow } : Dl) with grow := ({ ({ ({ (noDl : Dl) with gone := (noDl : Dl).gone ++ d.gone } : Dl) with more := ({ (noDl : Dl) with gone := (noDl : Dl).gone ++ d.gone } : Dl).more ++ d.more } : Dl) with ungrow := ({ ({ (noDl : Dl) with gone := (noDl : Dl).gone ++ d.gone } : Dl) with more := ({ (noDl : Dl) with gone := (noDl : Dl).gone ++ d.gone } : Dl).more ++ d.more } : Dl).ungrow ++ d.ungrow } : Dl).grow ++ d.grow } : Dl) with unshrink := ({ ({ ({ ({ (noDl : Dl) with gone := (noDl : Dl).gone ++ d.gone } : Dl) with more := ({ (noDl : Dl) with gone := (noDl : Dl).gone ++ d.gone } : Dl).more ++ d.more } : Dl) with ungrow := ({ ({ (noDl : Dl) with gone := (noDl : Dl).gone ++ d.gone } : Dl) with more := ({ (noDl : Dl) with gone := (noDl : Dl).gone ++ d.gone } : Dl).more ++ d.more } : Dl).ungrow ++ d.ungrow } : Dl) with grow := ({ ({ ({ (noDl : Dl) with gone := (noDl : Dl).gone ++ d.gone } : Dl) with more := ({ (noDl : Dl) with gone := (noDl : Dl).gone ++ d.gone } : Dl).more ++ d.more } : Dl) with ungrow := ({ ({ (noDl : Dl) with gone := (noDl : Dl).gone ++ d.gone } : Dl) with more := ({ (noDl : Dl) with gone := (noDl : Dl).gone ++ d.gone } : Dl).more ++ d.more } : Dl).ungrow ++ d.ungrow } : Dl).grow ++ d.grow } : Dl).unshrink ++ d.unshrink } m4 i4 ([] : List ByteArray) (by omega) h.r_shrink (by simpa [noDl] using h.a_shrink)
  rw [e5]
  show (_, (0 : Int)) = _
  simp [noDl]
structure RtL (d : Dl) : Prop where
  r_gone : ∀ x ∈ d.gone, rightS x = true
  r_more : ∀ x ∈ d.more, rightS x = true
  r_ungrow : ∀ x ∈ d.ungrow, isRole x = true
  r_grow : ∀ x ∈ d.grow, isRole x = true
  r_unshrink : ∀ x ∈ d.unshrink, isRole x = true
  r_shrink : ∀ x ∈ d.shrink, isRole x = true
theorem step_right {d d' : Dl} {last : Int} {s : ByteArray} (H : RtL d) (h : stepD d last s = some d') : RtL d' := by
  unfold stepD at h
  by_cases hl : (kindB s).1 < last
  · rw [if_pos hl] at h; cases h
  rw [if_neg hl] at h
  by_cases k0 : (kindB s).1 = 0
  · rw [if_pos k0] at h
    by_cases hok : okLnS d.gone (kindB s).2 = true
    · rw [if_pos hok] at h
      cases h
      exact ⟨fun y hy => (List.mem_append.1 hy).elim (H.r_gone y) (fun e => by rw [List.mem_singleton.1 e]; exact parse_right _ (okLnS_iff.1 hok).1), H.r_more, H.r_ungrow, H.r_grow, H.r_unshrink, H.r_shrink⟩
    · rw [if_neg hok] at h; cases h
  rw [if_neg k0] at h
  by_cases k1 : (kindB s).1 = 1
  · rw [if_pos k1] at h
    by_cases hok : okLnS d.more (kindB s).2 = true
    · rw [if_pos hok] at h
      cases h
      exact ⟨H.r_gone, fun y hy => (List.mem_append.1 hy).elim (H.r_more y) (fun e => by rw [List.mem_singleton.1 e]; exact parse_right _ (okLnS_iff.1 hok).1), H.r_ungrow, H.r_grow, H.r_unshrink, H.r_shrink⟩
    · rw [if_neg hok] at h; cases h
  rw [if_neg k1] at h
  by_cases k2 : (kindB s).1 = 2
  · rw [if_pos k2] at h
    by_cases hok : okLnR d.ungrow (kindB s).2 = true
    · rw [if_pos hok] at h
      cases h
      exact ⟨H.r_gone, H.r_more, fun y hy => (List.mem_append.1 hy).elim (H.r_ungrow y) (fun e => by rw [List.mem_singleton.1 e]; exact (okLnR_iff.1 hok).1), H.r_grow, H.r_unshrink, H.r_shrink⟩
    · rw [if_neg hok] at h; cases h
  rw [if_neg k2] at h
  by_cases k3 : (kindB s).1 = 3
  · rw [if_pos k3] at h
    by_cases hok : okLnR d.grow (kindB s).2 = true
    · rw [if_pos hok] at h
      cases h
      exact ⟨H.r_gone, H.r_more, H.r_ungrow, fun y hy => (List.mem_append.1 hy).elim (H.r_grow y) (fun e => by rw [List.mem_singleton.1 e]; exact (okLnR_iff.1 hok).1), H.r_unshrink, H.r_shrink⟩
    · rw [if_neg hok] at h; cases h
  rw [if_neg k3] at h
  by_cases k4 : (kindB s).1 = 4
  · rw [if_pos k4] at h
    by_cases hok : okLnR d.unshrink (kindB s).2 = true
    · rw [if_pos hok] at h
      cases h
      exact ⟨H.r_gone, H.r_more, H.r_ungrow, H.r_grow, fun y hy => (List.mem_append.1 hy).elim (H.r_unshrink y) (fun e => by rw [List.mem_singleton.1 e]; exact (okLnR_iff.1 hok).1), H.r_shrink⟩
    · rw [if_neg hok] at h; cases h
  rw [if_neg k4] at h
  by_cases hok : okLnR d.shrink (kindB s).2 = true
  · rw [if_pos hok] at h
    cases h
    exact ⟨H.r_gone, H.r_more, H.r_ungrow, H.r_grow, H.r_unshrink, fun y hy => (List.mem_append.1 hy).elim (H.r_shrink y) (fun e => by rw [List.mem_singleton.1 e]; exact (okLnR_iff.1 hok).1)⟩
  · rw [if_neg hok] at h; cases h
theorem goD_right : ∀ (l : List ByteArray) (d : Dl) (last : Int) (i : Nat), RtL d → (goD d last i l).2 = 0 → RtL (goD d last i l).1
  | [], d, last, i, H, _ => H
  | s :: r, d, last, i, H, h0 => by
    cases h : stepD d last s with
    | none =>
      rw [goD_bad h] at h0
      dsimp only at h0
      omega
    | some d' =>
      rw [goD_go h] at h0 ⊢
      exact goD_right r d' (kindB s).1 (i + 1) (step_right H h) h0
theorem rtL_no : RtL noDl := ⟨(fun _ h => by cases h), (fun _ h => by cases h), (fun _ h => by cases h), (fun _ h => by cases h), (fun _ h => by cases h), (fun _ h => by cases h)⟩
theorem readD_le {l : List ByteArray} (h : (readD l).2 = 0) (hn : l.length ≤ 40) : (readD l).1.le 300 4294967 := by
  have hr := goD_right l noDl 0 0 rtL_no h
  have hl := congrArg List.length (readD_lines h).1
  change RtL (readD l).1 at hr
  generalize (readD l).1 = d at *
  unfold Dl.lines lnS lnR at hl
  simp only [List.length_append, List.length_map] at hl
  exact ⟨by omega, by omega, by omega, by omega, by omega, by omega, fun x hx => st_le_mono (rightS_le (hr.r_more x hx)) (by decide), fun x hx => st_le_mono (rightS_le (hr.r_gone x hx)) (by decide), fun x hx => rl_le_mono (isRole_le (hr.r_grow x hx)) (by decide), fun x hx => rl_le_mono (isRole_le (hr.r_ungrow x hx)) (by decide), fun x hx => rl_le_mono (isRole_le (hr.r_shrink x hx)) (by decide), fun x hx => rl_le_mono (isRole_le (hr.r_unshrink x hx)) (by decide)⟩
end Go.Proofs.YtomhekohcadijaaGreatDoor
namespace Go.Proofs.YtomhekohcadijaaGreatDoor
open Go.RowKit Go.Shelf

end Go.Proofs.YtomhekohcadijaaGreatDoor
namespace Go.Proofs.YtomhekohcadijaaGreatDoor
open Go.RowKit Go.Shelf

set_option maxRecDepth 100000 in
set_option maxHeartbeats 1000000 in
theorem ref1_SameT (va vb : Value) (l : List ByteArray) (w : World) (ha : SlA w 1 va l.length (strs l)) (hb : SlA w 1 vb l.length (strs l)) :
    Calls Tryz.prog 13 #[va, vb] w fun e w' => e = .returned (.bool true) ∧ ∃ n, w' = w.drewN n := by
  have hmax := ha.max
  have hne : ((l.length : Int) != (l.length : Int)) = false := by simp
  by_cases h0 : 0 < l.length
  · obtain ⟨b1, o1, c1, rfl, hc1, hm1, _, hx1⟩ := ha.pos h0
    obtain ⟨b2, o2, c2, rfl, hc2, hm2, _, hx2⟩ := hb.pos h0
    have HX1 := Lib.hid hx1
    have HX2 := Lib.hid hx2
    clear ha hb hx1 hx2
    go_enter Tryz.func13, Tryz.ntmps13
    go_wp2
    go_loopw [13] (fun i wr => ∃ k n : Nat, k ≤ l.length ∧ i = .int .i64 k ∧ wr = w.drewN n) (fun i _ => l.length - (intOf i).toNat)
    case atStart => exact ⟨0, 0, by omega, rfl, rfl⟩
    case round =>
      obtain ⟨k, n, hk, rfl, rfl⟩ := hrel
      by_cases hlt : k < l.length
      · have p0 := HX1.out k _ (strs_get hlt)
        have q0 := HX2.out k _ (strs_get hlt)
        go_wp2_with fail
        go_quiet (fail)
        go_wp2
        exact ⟨⟨k + 1, n + nq, by omega, by go_num, rfl⟩, by simp [intOf]; omega⟩
      · go_wp2
        go_ret
        exact ⟨rfl, n, rfl⟩
  · obtain ⟨a1, c1, rfl⟩ := ha.form
    obtain ⟨a2, c2, rfl⟩ := hb.form
    obtain rfl : l = [] := List.eq_nil_of_length_eq_zero (by omega)
    clear ha hb h0 hmax
    go_enter Tryz.func13, Tryz.ntmps13
    go_wp2
    go_loopw [13] (fun i wr => i = .int .i64 0 ∧ wr = w) (fun _ _ => 0)
    case atStart => exact ⟨rfl, rfl⟩
    case round =>
      obtain ⟨rfl, rfl⟩ := hrel
      go_wp2
      go_ret
      exact ⟨rfl, 0, rfl⟩
theorem ref1_SameB (va vb : Value) (l : List ByteArray) (w : World) (ha : SlA w 1 va l.length (strs l)) (hb : SlA w 1 vb l.length (strs l)) :
    Calls Tryz.prog 13 #[va, vb] w fun e w' => e = .returned (.bool true) ∧ Below w.heap.size w w' :=
  (ref1_SameT va vb l w ha hb).mono fun e w' ⟨he, n, hn⟩ => ⟨he, by rw [hn]; exact below_of_drewN n⟩
end Go.Proofs.YtomhekohcadijaaGreatDoor
namespace Go.Proofs.YtomhekohcadijaaGreatDoor
open Go.RowKit Go.Shelf

def exR : Rl := ⟨⟨#[65]⟩, ⟨#[114]⟩⟩
def exS : St := ⟨1, exR, ⟨#[66]⟩, noR, noR, emp⟩
def exD : Dl := ⟨[], [exS], [exR], [], [], []⟩
theorem ex_of : Dl.of [exS] [] [] [] [exR] [] = exD := by rfl
theorem ex_lines : exD.lines = [⟨#[45, 32, 65, 46, 114, 32, 60, 45, 32, 66]⟩, ⟨#[43, 32, 103, 114, 111, 119, 32, 65, 46, 114]⟩] := by rfl
theorem exR_le (n : Nat) (h : 1 ≤ n) : exR.le n := ⟨h, h⟩
theorem noR_le (n : Nat) : noR.le n := ⟨Nat.zero_le _, Nat.zero_le _⟩
theorem exS_le (n : Nat) (h : 1 ≤ n) : exS.le n := ⟨exR_le n h, h, noR_le n, noR_le n, Nat.zero_le _⟩
theorem exD_le : exD.le 300 4294967 where
  n0 := by decide
  n1 := by decide
  n2 := by decide
  n3 := by decide
  n4 := by decide
  n5 := by decide
  t0 := fun x hx => by cases hx
  t1 := fun x hx => by rw [List.mem_singleton.1 hx]; exact exS_le _ (by decide)
  t2 := fun x hx => by rw [List.mem_singleton.1 hx]; exact exR_le _ (by decide)
  t3 := fun x hx => by cases hx
  t4 := fun x hx => by cases hx
  t5 := fun x hx => by cases hx
set_option maxRecDepth 100000 in
set_option maxHeartbeats 4000000 in
theorem law32_lives (w : World) : Calls Tryz.prog 11 #[] w fun e w' => e = .returned (.bool true) ∧ Below w.heap.size w w' := by
  have OF := Lib.hid (fun v0 u1 W (h0 : Sl W 9 v0 1 [.int .i64 1, .string ⟨#[65]⟩, .string ⟨#[114]⟩, .string ⟨#[66]⟩, .string emp, .string emp, .string emp, .string emp, .string emp]) (h1 : Sl W 2 u1 1 [.string ⟨#[65]⟩, .string ⟨#[114]⟩]) =>
    ex_of ▸ delta_Of v0 (.slice none 0 0) (.slice none 0 0) (.slice none 0 0) (.slice none 0 0) u1 (.slice none 0 0) (.slice none 0 0) [exS] [] [] [] [exR] [] [] [] W
      ⟨h0.a, (Sl.nil _ _).a, (Sl.nil _ _).a, (Sl.nil _ _).a, fun x hx => (by rw [List.mem_singleton.1 hx]; exact exS_le _ (by decide)), fun x hx => (by cases hx), fun x hx => (by cases hx), fun x hx => (by cases hx)⟩
      ⟨(Sl.nil _ _).a, h1.a, (Sl.nil _ _).a, (Sl.nil _ _).a, fun x hx => (by cases hx), fun x hx => (by rw [List.mem_singleton.1 hx]; exact exR_le _ (by decide)), fun x hx => (by cases hx), fun x hx => (by cases hx)⟩
      (by decide) (by decide) (by decide) (by decide) (by decide) (by decide))
  have LN := Lib.hid (fun x0 x1 x2 x3 x4 x5 W h => delta_Lines x0 x1 x2 x3 x4 x5 exD W h exD_le)
  rw [ex_lines] at LN
  have SM := Lib.hid (fun va vb W ha hb => ref1_SameB va vb [⟨#[45, 32, 65, 46, 114, 32, 60, 45, 32, 66]⟩, ⟨#[43, 32, 103, 114, 111, 119, 32, 65, 46, 114]⟩] W ha hb)
  have H0 := Lib.hid (show Sl ((((w.alloc (.cells #[.string ⟨#[65]⟩, .string ⟨#[114]⟩] 78)).alloc (.cells #[.int .i64 1, .string ⟨#[65]⟩, .string ⟨#[114]⟩, .string ⟨#[66]⟩, .string emp, .string emp, .string emp, .string emp, .string emp] 80)).alloc (.cells #[.slice (some ⟨w.heap.size + 1, 0, none⟩) 1 1, .slice none 0 0, .slice none 0 0, .slice none 0 0] 26)).alloc (.cells #[.string ⟨#[65]⟩, .string ⟨#[114]⟩] 78)) 9 (.slice (some ⟨w.heap.size + 1, 0, none⟩) 1 1) 1 [.int .i64 1, .string ⟨#[65]⟩, .string ⟨#[114]⟩, .string ⟨#[66]⟩, .string emp, .string emp, .string emp, .string emp, .string emp] from
    (Sl.new (w.alloc (.cells #[.string ⟨#[65]⟩, .string ⟨#[114]⟩] 78)) [.int .i64 1, .string ⟨#[65]⟩, .string ⟨#[114]⟩, .string ⟨#[66]⟩, .string emp, .string emp, .string emp, .string emp, .string emp] 80 9 1 (w.heap.size + 1) (by simp) rfl (by simp [maxLen])).below (((Below.refl _ _).alloc (Nat.le_refl _) _).alloc (by simp) _))
  have H1 := Lib.hid (Sl.new (((w.alloc (.cells #[.string ⟨#[65]⟩, .string ⟨#[114]⟩] 78)).alloc (.cells #[.int .i64 1, .string ⟨#[65]⟩, .string ⟨#[114]⟩, .string ⟨#[66]⟩, .string emp, .string emp, .string emp, .string emp, .string emp] 80)).alloc (.cells #[.slice (some ⟨w.heap.size + 1, 0, none⟩) 1 1, .slice none 0 0, .slice none 0 0, .slice none 0 0] 26)) [.string ⟨#[65]⟩, .string ⟨#[114]⟩] 78 2 1 (w.heap.size + 1 + 1 + 1) (by simp) rfl (by simp [maxLen]))
  have HB := Lib.hid (show Below w.heap.size w ((((w.alloc (.cells #[.string ⟨#[65]⟩, .string ⟨#[114]⟩] 78)).alloc (.cells #[.int .i64 1, .string ⟨#[65]⟩, .string ⟨#[114]⟩, .string ⟨#[66]⟩, .string emp, .string emp, .string emp, .string emp, .string emp] 80)).alloc (.cells #[.slice (some ⟨w.heap.size + 1, 0, none⟩) 1 1, .slice none 0 0, .slice none 0 0, .slice none 0 0] 26)).alloc (.cells #[.string ⟨#[65]⟩, .string ⟨#[114]⟩] 78)) from ((((Below.refl _ _).alloc (Nat.le_refl _) _).alloc (by simp) _).alloc (by simp; omega) _).alloc (by simp; omega) _)
  go_enter Tryz.func11, Tryz.ntmps11
  go_wp2_with fail
  refine (OF.out _ _ _ H0.out H1.out).mono ?_
  rintro e w1 ⟨v, rfl, ⟨x0, x1, x2, x3, x4, x5, rfl, hd⟩, hb⟩
  have HB := Lib.hid (HB.out.trans (hb.mono HB.out.size))
  have HD := Lib.hid hd
  obtain ⟨a0, c0, rfl⟩ := hd.a0.form
  obtain ⟨a1, c1, rfl⟩ := hd.a1.form
  obtain ⟨a2, c2, rfl⟩ := hd.a2.form
  obtain ⟨a3, c3, rfl⟩ := hd.a3.form
  obtain ⟨a4, c4, rfl⟩ := hd.a4.form
  obtain ⟨a5, c5, rfl⟩ := hd.a5.form
  clear hd hb OF H0 H1
  go_wp2_with fail
  refine (LN.out _ _ _ _ _ _ _ HD.out).mono ?_
  rintro e w2 ⟨v, rfl, hs, hb⟩
  have HB := Lib.hid (HB.out.trans (hb.mono HB.out.size))
  have HS := Lib.hid hs
  obtain ⟨sa, sc, rfl⟩ := hs.form
  have H2 := Lib.hid (Sl.new w2 (strs [⟨#[45, 32, 65, 46, 114, 32, 60, 45, 32, 66]⟩, ⟨#[43, 32, 103, 114, 111, 119, 32, 65, 46, 114]⟩]) 9 1 2 w2.heap.size rfl rfl (by simp [maxLen]))
  clear hs hb LN HD
  go_wp2_with fail
  refine (SM.out _ _ _ (HS.out.below ((Below.refl _ _).alloc (Nat.le_refl _) _)).a H2.out.a).mono ?_
  rintro e w3 ⟨rfl, hb⟩
  have HB := Lib.hid ((HB.out.alloc HB.out.size _).trans (hb.mono (by have := HB.out.size; simp; omega)))
  clear hb
  go_wp2
  go_ret
  exact ⟨rfl, HB.out⟩
end Go.Proofs.YtomhekohcadijaaGreatDoor
namespace Go.Proofs.YtomhekohcadijaaGreatDoor
open Go.RowKit Go.Shelf

def LightT (l : List ByteArray) (e : Ending) : Prop := ∃ b, e = .returned (.bool b) ∧ (b = true → l.length ≤ 40 ∧ ∀ x ∈ l, x.size ≤ 40)
set_option maxHeartbeats 1000000 in
theorem law1_LightT (va : Value) (l : List ByteArray) (w : World) (ha : SlA w 1 va l.length (strs l)) (hl : ∀ s ∈ l, s.size ≤ 9223372036854775807) :
    Calls Tryz.prog 10 #[va] w fun e w' => LightT l e ∧ w' = w := by
  have HA := Lib.hid ha
  have HL := Lib.hid hl
  have hmax := ha.max
  obtain ⟨ao, cap, hva⟩ := ha.form
  subst hva
  clear ha hl
  go_enter Tryz.func10, Tryz.ntmps10
  by_cases h40 : 40 < l.length
  · have d : decide ((40 : Int) < (l.length : Int)) = true := by (rw [decide_eq_true_iff]; omega)
    go_wp2
    go_ret
    exact ⟨⟨false, rfl, fun h => by cases h⟩, rfl⟩
  have d : decide ((40 : Int) < (l.length : Int)) = false := by (rw [decide_eq_false_iff_not]; omega)
  go_wp2
  go_loop [10] (fun i => ∃ k : Nat, k ≤ l.length ∧ i = .int .i64 k ∧ Hid (∀ j (hj : j < l.length), j < k → l[j].size ≤ 40)) (fun i => l.length - (intOf i).toNat)
  case atStart => exact ⟨0, by omega, rfl, Lib.hid (fun j hj h => absurd h (by omega))⟩
  case round =>
    obtain ⟨k, hk, rfl, HS⟩ := hrel
    by_cases hlt : k < l.length
    · obtain ⟨b1, o1, c1, he1, hc1, hm1, hb1, hx1⟩ := HA.out.pos (by omega)
      simp only [Value.slice.injEq, true_and] at he1
      obtain ⟨rfl, rfl⟩ := he1
      have p0 := hx1 k _ (strs_get hlt)
      have hsz := HL.out l[k] (List.getElem_mem hlt)
      clear hx1
      by_cases h : 40 < l[k].size
      · have d1 : decide ((40 : Int) < (l[k].size : Int)) = true := by (rw [decide_eq_true_iff]; omega)
        clear h
        go_wp2
        go_ret
        exact ⟨⟨false, rfl, fun h => by cases h⟩, rfl⟩
      · have d1 : decide ((40 : Int) < (l[k].size : Int)) = false := by (rw [decide_eq_false_iff_not]; omega)
        have HS2 := Lib.hid (show ∀ j (hj : j < l.length), j < k + 1 → l[j].size ≤ 40 from fun j hj hjk => by
          by_cases e : j = k
          · subst e; omega
          · exact HS.out j hj (by omega))
        clear h HS
        go_wp2
        exact ⟨⟨k + 1, by omega, by go_num, HS2⟩, by simp [intOf]; omega⟩
    · go_wp2
      go_ret
      exact ⟨⟨true, rfl, fun _ => ⟨by omega, fun x hx => by obtain ⟨j, hj, rfl⟩ := List.getElem_of_mem hx; exact HS.out j hj (by omega)⟩⟩, rfl⟩
end Go.Proofs.YtomhekohcadijaaGreatDoor
namespace Go.Proofs.YtomhekohcadijaaGreatDoor
open Go.RowKit Go.Shelf

def Qv.okS (q : Qv) (w : World) : Prop := q.okN 40 w ∧ q.a.le 40 ∧ q.b.le 40
theorem okS_back {q : Qv} {w W : World} (h : q.ok w) (hb : Below w.heap.size w W) (h' : q.okS W) : q.okS w := ⟨okN_back h hb h'.1, h'.2⟩
end Go.Proofs.YtomhekohcadijaaGreatDoor
