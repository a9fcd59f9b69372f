/- (*policy.maker).line: a policy with a line more that asks (printed by gen_polline.py). (*policy.maker).line: a policy with a line more that asks whether it can be (printed by gen_polline.py). (*policy.maker).line: a policy with a line more that restricts (printed by gen_polline.py). (*policy.maker).line: a policy with a line more that restricts (printed by gen_polline.py). (*policy.maker).line: a policy with a line more that is a statement (printed by gen_polline.py). (*policy.maker).line: a policy with a line more (printed by gen_polline.py). A range over a function whose iterator keeps its state in one cell of its own: what the iterator promises, and the statement's law (a body that never leaves the loop). -/
import Derived.Test.YtnhkgfgbhedphaaGreatDoorPart14
import Derived.Test.YtnhkgfgbhedphaaGreatDoorPart11
import Derived.RangeFuncNested
import Derived.RangeFuncBound
import Derived.RangeFuncCalls
import Derived.RangeFuncLeaves
import Derived.Shelf.Abstract
import Derived.Shelf.RegionOpen
import Derived.WalkKit
import Derived.OwnWalkIn
import Derived.TacticsInMore
import Derived.LoopNIn
import Derived.LoopIn
namespace Go.Proofs.YtnhkgfgbhedphaaGreatDoor
open Go.RowKit Go.Shelf

theorem qy_infoP : (Tryz.prog.info? 66).map (fun i => (i.zero, i.size, i.bytes)) = some (some (.agg #[.int .i64 0, .string emp, .string emp, .string emp, .string emp, .slice none 0 0]), 6, 96) := by kernel_rfl
theorem qv_one (q : Qv) (h : ∃ a n c, q.w = .slice a n c) : ∀ u ∈ q.cells, u.oneCell' = true := fun u hu => by
  obtain ⟨a, n, c, h⟩ := h
  simp only [Qv.cells, List.mem_cons, List.not_mem_nil, or_false] at hu
  rcases hu with rfl | rfl | rfl | rfl | rfl | rfl <;> first | rfl | (rw [h]; rfl)
theorem tx_eq {a b : ByteArray} (h : a = b) : (a.toList == bl b) = true := by rw [toList_bl, h]; exact beq_iff_eq.2 rfl
theorem tx_ne {a b : ByteArray} (h : ¬ a = b) : (a.toList == bl b) = false := by rw [toList_bl, beq_eq_false_iff_ne]; exact fun e => h (bl_inj.1 e)
set_option maxRecDepth 100000 in
set_option maxHeartbeats 4000000 in
theorem maker_line_ask (s : ByteArray) (C b : Nat) (v0 v1 v2 v3 : Value) (p : Pd) (zs : List (Qd × Value)) (w : World) (hM : MkP C b w v0 v1 v2 v3 p zs) (hg : Gl w) (hs : s.size ≤ 1000000) (hok : OkP p) (hf : fitsD p = true) (x : Tok) (r : List Tok) (ti : Int) (ht : tokens (bl s) = (x :: r, ti, 0)) (t1 : x.tx = wAlways) :
    Calls Tryz.prog 58 #[.pointer (some ⟨b, 0, none⟩), .string s] w fun e w' => LineP C b w (lineP p s) e w' := by
  have HG := Lib.hid hg
  obtain ⟨a0, c0, rfl⟩ := own_form hM.r0
  obtain ⟨a1, c1, rfl⟩ := own_form hM.r1
  obtain ⟨a2, c2, rfl⟩ := own_form hM.r2
  obtain ⟨a3, c3, rfl⟩ := own_form hM.r3
  have HM := Lib.hid hM
  obtain ⟨n0, n1, n2, n3⟩ := fits_few hf
  have HZL := Lib.hid (show zs.length = p.q.length by rw [← hM.z, List.length_map])
  have HF := Lib.hid hf
  have TK := Lib.hid (scan_Tokens_any s w hg (by omega))
  have E := Lib.hid (show lineP p s = lineT p s (tokens (bl s)) from rfl)
  generalize lineP p s = res at E ⊢
  clear hg hf hM
  have hto := tokens_ok (bl s)
  rw [ht] at E TK hto
  clear ht
  dsimp only at hto
  go_enter Tryz.func58, Tryz.ntmps58
  go_wp2_with fail
  refine TK.out.mono ?_
  rintro e w1 ⟨va, rfl, hown1, hb1⟩
  dsimp only at hown1
  obtain ⟨sa, sc, rfl⟩ := own_form hown1
  have HS1 := Lib.hid (Sl.of_own hown1)
  have HB1 := Lib.hid hb1
  clear hown1 hb1 TK
  have dl : ((((r.length : Int) + 1) == 0)) = false := by rw [beq_eq_false_iff_ne]; omega
  obtain ⟨tb, off, cap, he1, hc1, hm1, hb1, hx1⟩ := HS1.out.pos (by simp)
  simp only [Value.slice.injEq] at he1
  obtain ⟨rfl, _, rfl⟩ := he1
  obtain ⟨p0, p1, p2⟩ := tk_head hx1
  have TX := Lib.hid (show (⟨x.text.toArray⟩ : ByteArray) = x.tx from rfl)
  rw [TX.out] at p1
  clear hx1 TX
  have e1 : (x.tx.toList == [97, 108, 119, 97, 121, 115]) = true := tx_eq t1
  have A1 := Lib.hid (show x.tx = wAlways ∨ x.tx = wCan from .inl t1)
  clear t1
  go_wp2_with fail
  obtain ⟨WB, hWB⟩ : ∃ W, W = w1.alloc (.cells #[.int .i64 0, .string emp, .string emp, .string emp, .string emp, .slice none 0 0] 66) := ⟨_, rfl⟩
  have hbB : Below w1.heap.size w1 WB := by rw [hWB]; exact (Below.refl _ _).alloc (Nat.le_refl _) _
  have HBQ := Lib.hid (show Blk WB w1.heap.size #[.int .i64 0, .string emp, .string emp, .string emp, .string emp, .slice none 0 0] by rw [hWB]; exact Blk.new w1 _ _)
  have HSZ := Lib.hid (show WB.heap.size = w1.heap.size + 1 by rw [hWB]; simp)
  have HBB := Lib.hid (HB1.out.trans (hbB.mono HB1.out.size))
  have hgq0 : w.heap.size ≤ w1.heap.size := HB1.out.size
  have hGB := Lib.hid (HG.out.below HBB.out)
  have E := Lib.hid (E.out.trans (lineT_ask (p := p) (s := s) (r := r) (i := ti) A1.out))
  have QP := Lib.hid (query_ParseO s WB (by omega) hGB.out)
  have HOK := Lib.hid (fun (h : (parseQ s).2.2 = 0) => show OkP { p with q := p.q ++ [(parseQ s).1] } from ⟨hok.l, hok.g, hok.h, fun y hy => (List.mem_append.1 hy).elim (hok.q y) (fun h' => by rw [List.mem_singleton.1 h']; exact (parse_goodQ s h).1)⟩)
  generalize parseQ s = pq at E QP HOK
  obtain ⟨⟨k, ⟨x1, x2⟩, ⟨x3, x4⟩, us⟩, at0, y0⟩ := pq
  dsimp only at E QP HOK
  rw [← hWB]
  clear hWB hbB hGB
  refine QP.out.mono ?_
  rintro e w2 ⟨v, rfl, hos, hb2⟩
  dsimp only at hos ⊢
  obtain ⟨vo, vc, rfl⟩ := own_form hos
  have HOS := Lib.hid hos
  clear hos
  have HB2 := Lib.hid (HBB.out.trans (hb2.mono HBB.out.size))
  have HBQ2 := Lib.hid (HBQ.out.below hb2)
  clear hb2 QP HBQ HBB
  obtain ⟨cq, fq, zq⟩ := HBQ2.out
  go_wp2_with fail
  clear cq fq zq
  have HBQ3 := Lib.hid (show Blk ((((((w2.setCell ⟨w1.heap.size, 0, none⟩ (.int .i64 k)).setCell ⟨w1.heap.size, 1, none⟩ (.string x1)).setCell ⟨w1.heap.size, 2, none⟩ (.string x2)).setCell ⟨w1.heap.size, 3, none⟩ (.string x3)).setCell ⟨w1.heap.size, 4, none⟩ (.string x4)).setCell ⟨w1.heap.size, 5, none⟩ (.slice vo us.length vc)) w1.heap.size #[.int .i64 k, .string x1, .string x2, .string x3, .string x4, .slice vo us.length vc] from ((((((HBQ2.out.put (o := 0) (v := .int .i64 k) (by simp)).put (o := 1) (v := .string x1) (by simp)).put (o := 2) (v := .string x2) (by simp)).put (o := 3) (v := .string x3) (by simp)).put (o := 4) (v := .string x4) (by simp)).put (o := 5) (v := .slice vo us.length vc) (by simp)).congr rfl)
  have HB3 := Lib.hid ((((((HB2.out.setCell (p := ⟨w1.heap.size, 0, none⟩) hgq0 (.int .i64 k)).setCell (p := ⟨w1.heap.size, 1, none⟩) hgq0 (.string x1)).setCell (p := ⟨w1.heap.size, 2, none⟩) hgq0 (.string x2)).setCell (p := ⟨w1.heap.size, 3, none⟩) hgq0 (.string x3)).setCell (p := ⟨w1.heap.size, 4, none⟩) hgq0 (.string x4)).setCell (p := ⟨w1.heap.size, 5, none⟩) hgq0 (.slice vo us.length vc))
  have HO0 := HOS.out
  have HO1 := (Kp.set (X := fun k => k = w1.heap.size) (o := 0) (v := .int .i64 k) rfl).own HO0 (fun g hg e => by have := (own_type HO0 hg).1; have := HSZ.out; omega)
  have HO2 := (Kp.set (X := fun k => k = w1.heap.size) (o := 1) (v := .string x1) rfl).own HO1 (fun g hg e => by have := (own_type HO1 hg).1; have := HSZ.out; omega)
  have HO3 := (Kp.set (X := fun k => k = w1.heap.size) (o := 2) (v := .string x2) rfl).own HO2 (fun g hg e => by have := (own_type HO2 hg).1; have := HSZ.out; omega)
  have HO4 := (Kp.set (X := fun k => k = w1.heap.size) (o := 3) (v := .string x3) rfl).own HO3 (fun g hg e => by have := (own_type HO3 hg).1; have := HSZ.out; omega)
  have HO5 := (Kp.set (X := fun k => k = w1.heap.size) (o := 4) (v := .string x4) rfl).own HO4 (fun g hg e => by have := (own_type HO4 hg).1; have := HSZ.out; omega)
  have HO6 := (Kp.set (X := fun k => k = w1.heap.size) (o := 5) (v := .slice vo us.length vc) rfl).own HO5 (fun g hg e => by have := (own_type HO5 hg).1; have := HSZ.out; omega)
  have HOW := Lib.hid (own_mono HO6 (show C ≤ WB.heap.size by have := HSZ.out; have := HM.out.hC; omega))
  clear HOS HO0 HO1 HO2 HO3 HO4 HO5 HO6
  obtain ⟨W3, hW3⟩ : ∃ V, V = ((((((w2.setCell ⟨w1.heap.size, 0, none⟩ (.int .i64 k)).setCell ⟨w1.heap.size, 1, none⟩ (.string x1)).setCell ⟨w1.heap.size, 2, none⟩ (.string x2)).setCell ⟨w1.heap.size, 3, none⟩ (.string x3)).setCell ⟨w1.heap.size, 4, none⟩ (.string x4)).setCell ⟨w1.heap.size, 5, none⟩ (.slice vo us.length vc)) := ⟨_, rfl⟩
  rw [← hW3] at HBQ3 HB3 HOW ⊢
  clear hW3 HB2 HBQ2
  have HM3 := Lib.hid (HM.out.below HB3.out)
  have hCs : C ≤ w.heap.size := HM.out.hC
  refine wp_region_last (S := fun W => (∀ o, W.cell? ⟨b, o, none⟩ = (#[.slice a0 p.l.length c0, .slice a1 p.g.length c1, .slice a2 p.h.length c2, .slice a3 zs.length c3] : Array Value)[o]?) ∧ (∀ o, W.cell? ⟨w1.heap.size, o, none⟩ = (#[.int .i64 k, .string x1, .string x2, .string x3, .string x4, .slice vo us.length vc] : Array Value)[o]?)) 12 (by kernel_rfl) ⟨(HM3.out.blk.below (below_drew (Below.refl _ _))).1, (HBQ3.out.below (below_drew (Below.refl _ _))).1⟩ (fun hHeld => ?_)
  have hd := below_drew (Below.refl W3.heap.size W3)
  have HM3 := Lib.hid (HM3.out.below hd)
  have HB3 := Lib.hid (HB3.out.trans (hd.mono HB3.out.size))
  have HBQ3 := Lib.hid (HBQ3.out.below hd)
  have HOW := Lib.hid (own_below HOW.out hd)
  obtain ⟨W4, hW4⟩ : ∃ V, V = W3.drew := ⟨_, rfl⟩
  rw [← hW4] at HM3 HB3 HBQ3 hHeld HOW ⊢
  clear hd hW4
  (refine lyes 0 ?_); (refine lyes 1 ?_); (refine lyes 2 ?_); (refine lyes 3 ?_); (refine lyes 4 ?_); (refine lyes 5 ?_); (refine lyes 6 ?_); (try simp only [Act.put, List.setIfInBounds_toArray, List.set])
  (refine last_call 7 rfl (by kernel_rfl) (fun K hK => ?_); go_simp)
  obtain ⟨W5, hW5⟩ : ∃ V, V = W4.alloc (.cells #[.int .i64 k, .string x1, .string x2, .string x3, .string x4, .slice vo us.length vc] 66) := ⟨_, rfl⟩
  obtain ⟨bn, hbn⟩ : ∃ b, b = W4.heap.size := ⟨_, rfl⟩
  rw [← hW5, ← hbn]
  have hbq : Below W4.heap.size W4 W5 := by rw [hW5]; exact (Below.refl _ _).alloc (Nat.le_refl _) _
  have HN1 := Lib.hid (show Sl W5 6 (.slice (some ⟨bn, 0, none⟩) 1 1) 1 ((qz (⟨k, ⟨x1, x2⟩, ⟨x3, x4⟩, us⟩, .slice vo us.length vc)).cells) by rw [hW5]; exact Sl.new W4 ((qz (⟨k, ⟨x1, x2⟩, ⟨x3, x4⟩, us⟩, .slice vo us.length vc)).cells) 66 6 1 bn hbn rfl (by simp [maxLen]))
  have HM5 := Lib.hid (HM3.out.below hbq)
  have HB5 := Lib.hid (HB3.out.trans (hbq.mono HB3.out.size))
  have HBQ5 := Lib.hid (HBQ3.out.below hbq)
  have HOW := Lib.hid (own_below HOW.out hbq)
  clear hbq hW5 hbn HM3 HB3 HBQ3
  (refine hK.out _ _ ⟨HM5.out.blk.1, HBQ5.out.1⟩ (fun hHeld => ?_); clear hK K; (try simp only [Act.put, List.setIfInBounds_toArray, List.set]))
  obtain ⟨inf, hin, hs0, hs1, hs2⟩ := info_parts qy_infoP
  have HIN := Lib.hid hin
  clear hin

  refine last_call 8 rfl (by kernel_rfl) (fun K hK => ?_)
  refine step_row rfl _ _ 24 rfl C 66 inf _ 6 96 Tryz.underlying24 HIN.out hs0 hs1 hs2 (by decide) rfl (by decide) _ zs.length _ rfl HM5.out.r3 _ 1 _ rfl HN1.out.a (qv_one (qz (⟨k, ⟨x1, x2⟩, ⟨x3, x4⟩, us⟩, .slice vo us.length vc)) ⟨vo, us.length, vc, rfl⟩) (by have := HZL.out; omega) HM5.out.hC ?_
  intro a5 c5 wc hown5 hg5
  have hneb : some b ≠ (Value.slice a3 zs.length c3).ownBlock := fun e => by have := (own_type HM5.out.r3 e.symm).1; have := HM5.out.hb; omega
  have hneq : some w1.heap.size ≠ (Value.slice a3 zs.length c3).ownBlock := fun e => by
    have h1 := own_type HM.out.r3 e.symm
    obtain ⟨_, cs, h2⟩ := h1
    have := (Array.getElem?_eq_some_iff.1 h2).1
    omega
  have HKG := Lib.hid (Kp.of_grown (X := fun k => some k = (Value.slice a3 zs.length c3).ownBlock) hg5 (fun _ h => h))
  have HBG := Lib.hid (HKG.out.blk HM5.out.blk hneb)
  have HQG := Lib.hid (HKG.out.blk HBQ5.out hneq)
  have HO5 := Lib.hid hown5
  clear hg5 hown5 HN1 HIN hs0 hs1 hs2 hneb hneq
  (refine hK.out _ _ ⟨HBG.out.1, HQG.out.1⟩ (fun hHeld => ?_); clear hK K; (try simp only [Act.put, List.setIfInBounds_toArray, List.set]))
  (refine lyes 9 ?_); (refine lyes 10 ?_); (refine lyes 11 ?_); (try simp only [Act.put, List.setIfInBounds_toArray, List.set])
  obtain ⟨cg, fg, zg⟩ := HBG.out
  (refine last_end 12 rfl (by kernel_rfl) (by kernel_rfl) (fun K hK => ?_); go_simp)
  clear cg fg zg
  have HMP := Lib.hid (HM5.out.put3 (q := ⟨k, ⟨x1, x2⟩, ⟨x3, x4⟩, us⟩) (v := .slice vo us.length vc) HOW.out HKG.out HO5.out)
  have HKP := Lib.hid (((Kp.of_below (X := mkrX C b w) HB5.out).trans HKG.out (fun g hg e => .inr (by
    obtain ⟨h1, cs, h2⟩ := own_type HM.out.r3 e.symm
    exact ⟨h1, cs, _, h2, .inr (.inr rfl)⟩))).trans (Kp.set (X := fun k => k = b) (o := 3) (v := .slice a5 (zs.length + 1) c5) rfl) (fun g _ e => .inl e))
  obtain ⟨wd, hwd⟩ : ∃ V, V = wc.setCell ⟨b, 3, none⟩ (.slice a5 (zs.length + 1) c5) := ⟨_, rfl⟩
  rw [← hwd] at HMP HKP ⊢
  clear hwd HBG HQG HKG HO5 HM5 HB5 HBQ5 HOW
  refine hK.out _ _ ?_
  clear hK K
  by_cases hy : y0 = 0
  · have FT := Lib.hid (fun W (hb : Below wd.heap.size wd W) => policy_FitsD (.slice a0 p.l.length c0) (.slice a1 p.g.length c1) (.slice a2 p.h.length c2) (.slice a5 (zs.length + 1) c5) { p with q := p.q ++ [⟨k, ⟨x1, x2⟩, ⟨x3, x4⟩, us⟩] } (zs ++ [(⟨k, ⟨x1, x2⟩, ⟨x3, x4⟩, us⟩, .slice vo us.length vc)]) W (HMP.out.pol.below hb) ((okP_le (HOK.out hy)).mono (by decide) (by decide)) (by simp; omega))
    have dy : (y0 == 0) = true := by simp [hy]
    obtain ⟨cb4, fb4, zb4⟩ := HMP.out.blk
    have RF := Lib.hid (fun (h : fitsD { p with q := p.q ++ [⟨k, ⟨x1, x2⟩, ⟨x3, x4⟩, us⟩] } = true) => (congrArg resL E.out).trans (resL_fits hy h))
    have RM := Lib.hid (fun (h : fitsD { p with q := p.q ++ [⟨k, ⟨x1, x2⟩, ⟨x3, x4⟩, us⟩] } = false) => (congrArg resL E.out).trans (resL_many hy h))
    have EP := Lib.hid (congrArg Prod.fst E.out)
    have hy0 := Lib.hid hy
    clear E hy
    generalize hfd : fitsD { p with q := p.q ++ [⟨k, ⟨x1, x2⟩, ⟨x3, x4⟩, us⟩] } = fd at FT RF RM
    clear hfd
    go_wp2_with fail
    refine (FT.out _ (Below.refl _ _)).mono ?_
    rintro e wf ⟨rfl, hbf⟩
    have HMF := Lib.hid (HMP.out.below hbf)
    have HKF := Lib.hid (HKP.out.trans (Kp.of_below (X := fun _ => False) hbf) (fun _ _ h => h.elim))
    clear hbf cb4 fb4 zb4
    cases fd with
    | true =>
      have R := Lib.hid (RF.out rfl)
      go_wp2
      refine bodyPost_ret (v := .tuple #[.int .i64 at0, .int .i64 y0]) (by simp [results, Tryz.results58, go_sem]) rfl ?_
      refine ⟨by rw [R.out, ← hy0.out], HKF.out, fun _ => ?_⟩
      rw [EP.out]
      exact ⟨_, _, _, _, _, HMF.out⟩
    | false =>
      have R := Lib.hid (RM.out rfl)
      go_wp2
      refine bodyPost_ret (v := .tuple #[.int .i64 1, .int .i64 5]) (by simp [results, Tryz.results58, go_sem]) rfl ?_
      exact ⟨by rw [R.out], HKF.out, fun h => by rw [R.out] at h; cases h⟩
  · have dy : (y0 == 0) = false := by simp [hy]
    have R := Lib.hid ((congrArg resL E.out).trans (resL_bad hy))
    have hyn := Lib.hid hy
    clear hy
    go_wp2
    refine bodyPost_ret (v := .tuple #[.int .i64 at0, .int .i64 y0]) (by simp [results, Tryz.results58, go_sem]) rfl ?_
    exact ⟨by rw [R.out], HKP.out, fun h => by rw [R.out] at h; exact absurd h hyn.out⟩
end Go.Proofs.YtnhkgfgbhedphaaGreatDoor
namespace Go.Proofs.YtnhkgfgbhedphaaGreatDoor
open Go.RowKit Go.Shelf

set_option maxRecDepth 100000 in
set_option maxHeartbeats 4000000 in
theorem maker_line_can (s : ByteArray) (C b : Nat) (v0 v1 v2 v3 : Value) (p : Pd) (zs : List (Qd × Value)) (w : World) (hM : MkP C b w v0 v1 v2 v3 p zs) (hg : Gl w) (hs : s.size ≤ 1000000) (hok : OkP p) (hf : fitsD p = true) (x : Tok) (r : List Tok) (ti : Int) (ht : tokens (bl s) = (x :: r, ti, 0)) (t1 : ¬ x.tx = wAlways) (t2 : x.tx = wCan) :
    Calls Tryz.prog 58 #[.pointer (some ⟨b, 0, none⟩), .string s] w fun e w' => LineP C b w (lineP p s) e w' := by
  have HG := Lib.hid hg
  obtain ⟨a0, c0, rfl⟩ := own_form hM.r0
  obtain ⟨a1, c1, rfl⟩ := own_form hM.r1
  obtain ⟨a2, c2, rfl⟩ := own_form hM.r2
  obtain ⟨a3, c3, rfl⟩ := own_form hM.r3
  have HM := Lib.hid hM
  obtain ⟨n0, n1, n2, n3⟩ := fits_few hf
  have HZL := Lib.hid (show zs.length = p.q.length by rw [← hM.z, List.length_map])
  have HF := Lib.hid hf
  have TK := Lib.hid (scan_Tokens_any s w hg (by omega))
  have E := Lib.hid (show lineP p s = lineT p s (tokens (bl s)) from rfl)
  generalize lineP p s = res at E ⊢
  clear hg hf hM
  have hto := tokens_ok (bl s)
  rw [ht] at E TK hto
  clear ht
  dsimp only at hto
  go_enter Tryz.func58, Tryz.ntmps58
  go_wp2_with fail
  refine TK.out.mono ?_
  rintro e w1 ⟨va, rfl, hown1, hb1⟩
  dsimp only at hown1
  obtain ⟨sa, sc, rfl⟩ := own_form hown1
  have HS1 := Lib.hid (Sl.of_own hown1)
  have HB1 := Lib.hid hb1
  clear hown1 hb1 TK
  have dl : ((((r.length : Int) + 1) == 0)) = false := by rw [beq_eq_false_iff_ne]; omega
  obtain ⟨tb, off, cap, he1, hc1, hm1, hb1, hx1⟩ := HS1.out.pos (by simp)
  simp only [Value.slice.injEq] at he1
  obtain ⟨rfl, _, rfl⟩ := he1
  obtain ⟨p0, p1, p2⟩ := tk_head hx1
  have TX := Lib.hid (show (⟨x.text.toArray⟩ : ByteArray) = x.tx from rfl)
  rw [TX.out] at p1
  clear hx1 TX
  have e1 : (x.tx.toList == [97, 108, 119, 97, 121, 115]) = false := tx_ne t1
  have e2 : (x.tx.toList == [99, 97, 110]) = true := tx_eq t2
  have A1 := Lib.hid (show x.tx = wAlways ∨ x.tx = wCan from .inr t2)
  clear t1 t2
  go_wp2_with fail
  obtain ⟨WB, hWB⟩ : ∃ W, W = w1.alloc (.cells #[.int .i64 0, .string emp, .string emp, .string emp, .string emp, .slice none 0 0] 66) := ⟨_, rfl⟩
  have hbB : Below w1.heap.size w1 WB := by rw [hWB]; exact (Below.refl _ _).alloc (Nat.le_refl _) _
  have HBQ := Lib.hid (show Blk WB w1.heap.size #[.int .i64 0, .string emp, .string emp, .string emp, .string emp, .slice none 0 0] by rw [hWB]; exact Blk.new w1 _ _)
  have HSZ := Lib.hid (show WB.heap.size = w1.heap.size + 1 by rw [hWB]; simp)
  have HBB := Lib.hid (HB1.out.trans (hbB.mono HB1.out.size))
  have hgq0 : w.heap.size ≤ w1.heap.size := HB1.out.size
  have hGB := Lib.hid (HG.out.below HBB.out)
  have E := Lib.hid (E.out.trans (lineT_ask (p := p) (s := s) (r := r) (i := ti) A1.out))
  have QP := Lib.hid (query_ParseO s WB (by omega) hGB.out)
  have HOK := Lib.hid (fun (h : (parseQ s).2.2 = 0) => show OkP { p with q := p.q ++ [(parseQ s).1] } from ⟨hok.l, hok.g, hok.h, fun y hy => (List.mem_append.1 hy).elim (hok.q y) (fun h' => by rw [List.mem_singleton.1 h']; exact (parse_goodQ s h).1)⟩)
  generalize parseQ s = pq at E QP HOK
  obtain ⟨⟨k, ⟨x1, x2⟩, ⟨x3, x4⟩, us⟩, at0, y0⟩ := pq
  dsimp only at E QP HOK
  rw [← hWB]
  clear hWB hbB hGB
  refine QP.out.mono ?_
  rintro e w2 ⟨v, rfl, hos, hb2⟩
  dsimp only at hos ⊢
  obtain ⟨vo, vc, rfl⟩ := own_form hos
  have HOS := Lib.hid hos
  clear hos
  have HB2 := Lib.hid (HBB.out.trans (hb2.mono HBB.out.size))
  have HBQ2 := Lib.hid (HBQ.out.below hb2)
  clear hb2 QP HBQ HBB
  obtain ⟨cq, fq, zq⟩ := HBQ2.out
  go_wp2_with fail
  clear cq fq zq
  have HBQ3 := Lib.hid (show Blk ((((((w2.setCell ⟨w1.heap.size, 0, none⟩ (.int .i64 k)).setCell ⟨w1.heap.size, 1, none⟩ (.string x1)).setCell ⟨w1.heap.size, 2, none⟩ (.string x2)).setCell ⟨w1.heap.size, 3, none⟩ (.string x3)).setCell ⟨w1.heap.size, 4, none⟩ (.string x4)).setCell ⟨w1.heap.size, 5, none⟩ (.slice vo us.length vc)) w1.heap.size #[.int .i64 k, .string x1, .string x2, .string x3, .string x4, .slice vo us.length vc] from ((((((HBQ2.out.put (o := 0) (v := .int .i64 k) (by simp)).put (o := 1) (v := .string x1) (by simp)).put (o := 2) (v := .string x2) (by simp)).put (o := 3) (v := .string x3) (by simp)).put (o := 4) (v := .string x4) (by simp)).put (o := 5) (v := .slice vo us.length vc) (by simp)).congr rfl)
  have HB3 := Lib.hid ((((((HB2.out.setCell (p := ⟨w1.heap.size, 0, none⟩) hgq0 (.int .i64 k)).setCell (p := ⟨w1.heap.size, 1, none⟩) hgq0 (.string x1)).setCell (p := ⟨w1.heap.size, 2, none⟩) hgq0 (.string x2)).setCell (p := ⟨w1.heap.size, 3, none⟩) hgq0 (.string x3)).setCell (p := ⟨w1.heap.size, 4, none⟩) hgq0 (.string x4)).setCell (p := ⟨w1.heap.size, 5, none⟩) hgq0 (.slice vo us.length vc))
  have HO0 := HOS.out
  have HO1 := (Kp.set (X := fun k => k = w1.heap.size) (o := 0) (v := .int .i64 k) rfl).own HO0 (fun g hg e => by have := (own_type HO0 hg).1; have := HSZ.out; omega)
  have HO2 := (Kp.set (X := fun k => k = w1.heap.size) (o := 1) (v := .string x1) rfl).own HO1 (fun g hg e => by have := (own_type HO1 hg).1; have := HSZ.out; omega)
  have HO3 := (Kp.set (X := fun k => k = w1.heap.size) (o := 2) (v := .string x2) rfl).own HO2 (fun g hg e => by have := (own_type HO2 hg).1; have := HSZ.out; omega)
  have HO4 := (Kp.set (X := fun k => k = w1.heap.size) (o := 3) (v := .string x3) rfl).own HO3 (fun g hg e => by have := (own_type HO3 hg).1; have := HSZ.out; omega)
  have HO5 := (Kp.set (X := fun k => k = w1.heap.size) (o := 4) (v := .string x4) rfl).own HO4 (fun g hg e => by have := (own_type HO4 hg).1; have := HSZ.out; omega)
  have HO6 := (Kp.set (X := fun k => k = w1.heap.size) (o := 5) (v := .slice vo us.length vc) rfl).own HO5 (fun g hg e => by have := (own_type HO5 hg).1; have := HSZ.out; omega)
  have HOW := Lib.hid (own_mono HO6 (show C ≤ WB.heap.size by have := HSZ.out; have := HM.out.hC; omega))
  clear HOS HO0 HO1 HO2 HO3 HO4 HO5 HO6
  obtain ⟨W3, hW3⟩ : ∃ V, V = ((((((w2.setCell ⟨w1.heap.size, 0, none⟩ (.int .i64 k)).setCell ⟨w1.heap.size, 1, none⟩ (.string x1)).setCell ⟨w1.heap.size, 2, none⟩ (.string x2)).setCell ⟨w1.heap.size, 3, none⟩ (.string x3)).setCell ⟨w1.heap.size, 4, none⟩ (.string x4)).setCell ⟨w1.heap.size, 5, none⟩ (.slice vo us.length vc)) := ⟨_, rfl⟩
  rw [← hW3] at HBQ3 HB3 HOW ⊢
  clear hW3 HB2 HBQ2
  have HM3 := Lib.hid (HM.out.below HB3.out)
  have hCs : C ≤ w.heap.size := HM.out.hC
  refine wp_region_last (S := fun W => (∀ o, W.cell? ⟨b, o, none⟩ = (#[.slice a0 p.l.length c0, .slice a1 p.g.length c1, .slice a2 p.h.length c2, .slice a3 zs.length c3] : Array Value)[o]?) ∧ (∀ o, W.cell? ⟨w1.heap.size, o, none⟩ = (#[.int .i64 k, .string x1, .string x2, .string x3, .string x4, .slice vo us.length vc] : Array Value)[o]?)) 12 (by kernel_rfl) ⟨(HM3.out.blk.below (below_drew (Below.refl _ _))).1, (HBQ3.out.below (below_drew (Below.refl _ _))).1⟩ (fun hHeld => ?_)
  have hd := below_drew (Below.refl W3.heap.size W3)
  have HM3 := Lib.hid (HM3.out.below hd)
  have HB3 := Lib.hid (HB3.out.trans (hd.mono HB3.out.size))
  have HBQ3 := Lib.hid (HBQ3.out.below hd)
  have HOW := Lib.hid (own_below HOW.out hd)
  obtain ⟨W4, hW4⟩ : ∃ V, V = W3.drew := ⟨_, rfl⟩
  rw [← hW4] at HM3 HB3 HBQ3 hHeld HOW ⊢
  clear hd hW4
  (refine lyes 0 ?_); (refine lyes 1 ?_); (refine lyes 2 ?_); (refine lyes 3 ?_); (refine lyes 4 ?_); (refine lyes 5 ?_); (refine lyes 6 ?_); (try simp only [Act.put, List.setIfInBounds_toArray, List.set])
  (refine last_call 7 rfl (by kernel_rfl) (fun K hK => ?_); go_simp)
  obtain ⟨W5, hW5⟩ : ∃ V, V = W4.alloc (.cells #[.int .i64 k, .string x1, .string x2, .string x3, .string x4, .slice vo us.length vc] 66) := ⟨_, rfl⟩
  obtain ⟨bn, hbn⟩ : ∃ b, b = W4.heap.size := ⟨_, rfl⟩
  rw [← hW5, ← hbn]
  have hbq : Below W4.heap.size W4 W5 := by rw [hW5]; exact (Below.refl _ _).alloc (Nat.le_refl _) _
  have HN1 := Lib.hid (show Sl W5 6 (.slice (some ⟨bn, 0, none⟩) 1 1) 1 ((qz (⟨k, ⟨x1, x2⟩, ⟨x3, x4⟩, us⟩, .slice vo us.length vc)).cells) by rw [hW5]; exact Sl.new W4 ((qz (⟨k, ⟨x1, x2⟩, ⟨x3, x4⟩, us⟩, .slice vo us.length vc)).cells) 66 6 1 bn hbn rfl (by simp [maxLen]))
  have HM5 := Lib.hid (HM3.out.below hbq)
  have HB5 := Lib.hid (HB3.out.trans (hbq.mono HB3.out.size))
  have HBQ5 := Lib.hid (HBQ3.out.below hbq)
  have HOW := Lib.hid (own_below HOW.out hbq)
  clear hbq hW5 hbn HM3 HB3 HBQ3
  (refine hK.out _ _ ⟨HM5.out.blk.1, HBQ5.out.1⟩ (fun hHeld => ?_); clear hK K; (try simp only [Act.put, List.setIfInBounds_toArray, List.set]))
  obtain ⟨inf, hin, hs0, hs1, hs2⟩ := info_parts qy_infoP
  have HIN := Lib.hid hin
  clear hin

  refine last_call 8 rfl (by kernel_rfl) (fun K hK => ?_)
  refine step_row rfl _ _ 24 rfl C 66 inf _ 6 96 Tryz.underlying24 HIN.out hs0 hs1 hs2 (by decide) rfl (by decide) _ zs.length _ rfl HM5.out.r3 _ 1 _ rfl HN1.out.a (qv_one (qz (⟨k, ⟨x1, x2⟩, ⟨x3, x4⟩, us⟩, .slice vo us.length vc)) ⟨vo, us.length, vc, rfl⟩) (by have := HZL.out; omega) HM5.out.hC ?_
  intro a5 c5 wc hown5 hg5
  have hneb : some b ≠ (Value.slice a3 zs.length c3).ownBlock := fun e => by have := (own_type HM5.out.r3 e.symm).1; have := HM5.out.hb; omega
  have hneq : some w1.heap.size ≠ (Value.slice a3 zs.length c3).ownBlock := fun e => by
    have h1 := own_type HM.out.r3 e.symm
    obtain ⟨_, cs, h2⟩ := h1
    have := (Array.getElem?_eq_some_iff.1 h2).1
    omega
  have HKG := Lib.hid (Kp.of_grown (X := fun k => some k = (Value.slice a3 zs.length c3).ownBlock) hg5 (fun _ h => h))
  have HBG := Lib.hid (HKG.out.blk HM5.out.blk hneb)
  have HQG := Lib.hid (HKG.out.blk HBQ5.out hneq)
  have HO5 := Lib.hid hown5
  clear hg5 hown5 HN1 HIN hs0 hs1 hs2 hneb hneq
  (refine hK.out _ _ ⟨HBG.out.1, HQG.out.1⟩ (fun hHeld => ?_); clear hK K; (try simp only [Act.put, List.setIfInBounds_toArray, List.set]))
  (refine lyes 9 ?_); (refine lyes 10 ?_); (refine lyes 11 ?_); (try simp only [Act.put, List.setIfInBounds_toArray, List.set])
  obtain ⟨cg, fg, zg⟩ := HBG.out
  (refine last_end 12 rfl (by kernel_rfl) (by kernel_rfl) (fun K hK => ?_); go_simp)
  clear cg fg zg
  have HMP := Lib.hid (HM5.out.put3 (q := ⟨k, ⟨x1, x2⟩, ⟨x3, x4⟩, us⟩) (v := .slice vo us.length vc) HOW.out HKG.out HO5.out)
  have HKP := Lib.hid (((Kp.of_below (X := mkrX C b w) HB5.out).trans HKG.out (fun g hg e => .inr (by
    obtain ⟨h1, cs, h2⟩ := own_type HM.out.r3 e.symm
    exact ⟨h1, cs, _, h2, .inr (.inr rfl)⟩))).trans (Kp.set (X := fun k => k = b) (o := 3) (v := .slice a5 (zs.length + 1) c5) rfl) (fun g _ e => .inl e))
  obtain ⟨wd, hwd⟩ : ∃ V, V = wc.setCell ⟨b, 3, none⟩ (.slice a5 (zs.length + 1) c5) := ⟨_, rfl⟩
  rw [← hwd] at HMP HKP ⊢
  clear hwd HBG HQG HKG HO5 HM5 HB5 HBQ5 HOW
  refine hK.out _ _ ?_
  clear hK K
  by_cases hy : y0 = 0
  · have FT := Lib.hid (fun W (hb : Below wd.heap.size wd W) => policy_FitsD (.slice a0 p.l.length c0) (.slice a1 p.g.length c1) (.slice a2 p.h.length c2) (.slice a5 (zs.length + 1) c5) { p with q := p.q ++ [⟨k, ⟨x1, x2⟩, ⟨x3, x4⟩, us⟩] } (zs ++ [(⟨k, ⟨x1, x2⟩, ⟨x3, x4⟩, us⟩, .slice vo us.length vc)]) W (HMP.out.pol.below hb) ((okP_le (HOK.out hy)).mono (by decide) (by decide)) (by simp; omega))
    have dy : (y0 == 0) = true := by simp [hy]
    obtain ⟨cb4, fb4, zb4⟩ := HMP.out.blk
    have RF := Lib.hid (fun (h : fitsD { p with q := p.q ++ [⟨k, ⟨x1, x2⟩, ⟨x3, x4⟩, us⟩] } = true) => (congrArg resL E.out).trans (resL_fits hy h))
    have RM := Lib.hid (fun (h : fitsD { p with q := p.q ++ [⟨k, ⟨x1, x2⟩, ⟨x3, x4⟩, us⟩] } = false) => (congrArg resL E.out).trans (resL_many hy h))
    have EP := Lib.hid (congrArg Prod.fst E.out)
    have hy0 := Lib.hid hy
    clear E hy
    generalize hfd : fitsD { p with q := p.q ++ [⟨k, ⟨x1, x2⟩, ⟨x3, x4⟩, us⟩] } = fd at FT RF RM
    clear hfd
    go_wp2_with fail
    refine (FT.out _ (Below.refl _ _)).mono ?_
    rintro e wf ⟨rfl, hbf⟩
    have HMF := Lib.hid (HMP.out.below hbf)
    have HKF := Lib.hid (HKP.out.trans (Kp.of_below (X := fun _ => False) hbf) (fun _ _ h => h.elim))
    clear hbf cb4 fb4 zb4
    cases fd with
    | true =>
      have R := Lib.hid (RF.out rfl)
      go_wp2
      refine bodyPost_ret (v := .tuple #[.int .i64 at0, .int .i64 y0]) (by simp [results, Tryz.results58, go_sem]) rfl ?_
      refine ⟨by rw [R.out, ← hy0.out], HKF.out, fun _ => ?_⟩
      rw [EP.out]
      exact ⟨_, _, _, _, _, HMF.out⟩
    | false =>
      have R := Lib.hid (RM.out rfl)
      go_wp2
      refine bodyPost_ret (v := .tuple #[.int .i64 1, .int .i64 5]) (by simp [results, Tryz.results58, go_sem]) rfl ?_
      exact ⟨by rw [R.out], HKF.out, fun h => by rw [R.out] at h; cases h⟩
  · have dy : (y0 == 0) = false := by simp [hy]
    have R := Lib.hid ((congrArg resL E.out).trans (resL_bad hy))
    have hyn := Lib.hid hy
    clear hy
    go_wp2
    refine bodyPost_ret (v := .tuple #[.int .i64 at0, .int .i64 y0]) (by simp [results, Tryz.results58, go_sem]) rfl ?_
    exact ⟨by rw [R.out], HKP.out, fun h => by rw [R.out] at h; exact absurd h hyn.out⟩
end Go.Proofs.YtnhkgfgbhedphaaGreatDoor
namespace Go.Proofs.YtnhkgfgbhedphaaGreatDoor
open Go.RowKit Go.Shelf

set_option maxRecDepth 100000 in
set_option maxHeartbeats 4000000 in
theorem maker_line_grow (s : ByteArray) (C b : Nat) (v0 v1 v2 v3 : Value) (p : Pd) (zs : List (Qd × Value)) (w : World) (hM : MkP C b w v0 v1 v2 v3 p zs) (hg : Gl w) (hs : s.size ≤ 1000000) (hok : OkP p) (hf : fitsD p = true) (x : Tok) (r : List Tok) (ti : Int) (ht : tokens (bl s) = (x :: r, ti, 0)) (t1 : ¬ (x.tx = wAlways ∨ x.tx = wCan)) (t3 : x.tx = wGrow) :
    Calls Tryz.prog 58 #[.pointer (some ⟨b, 0, none⟩), .string s] w fun e w' => LineP C b w (lineP p s) e w' := by
  have HG := Lib.hid hg
  obtain ⟨a0, c0, rfl⟩ := own_form hM.r0
  obtain ⟨a1, c1, rfl⟩ := own_form hM.r1
  obtain ⟨a2, c2, rfl⟩ := own_form hM.r2
  obtain ⟨a3, c3, rfl⟩ := own_form hM.r3
  have HM := Lib.hid hM
  obtain ⟨n0, n1, n2, n3⟩ := fits_few hf
  have HZL := Lib.hid (show zs.length = p.q.length by rw [← hM.z, List.length_map])
  have HF := Lib.hid hf
  have TK := Lib.hid (scan_Tokens_any s w hg (by omega))
  have E := Lib.hid (show lineP p s = lineT p s (tokens (bl s)) from rfl)
  generalize lineP p s = res at E ⊢
  clear hg hf hM
  have hto := tokens_ok (bl s)
  rw [ht] at E TK hto
  clear ht
  dsimp only at hto
  go_enter Tryz.func58, Tryz.ntmps58
  go_wp2_with fail
  refine TK.out.mono ?_
  rintro e w1 ⟨va, rfl, hown1, hb1⟩
  dsimp only at hown1
  obtain ⟨sa, sc, rfl⟩ := own_form hown1
  have HS1 := Lib.hid (Sl.of_own hown1)
  have HB1 := Lib.hid hb1
  clear hown1 hb1 TK
  have dl : ((((r.length : Int) + 1) == 0)) = false := by rw [beq_eq_false_iff_ne]; omega
  obtain ⟨tb, off, cap, he1, hc1, hm1, hb1, hx1⟩ := HS1.out.pos (by simp)
  simp only [Value.slice.injEq] at he1
  obtain ⟨rfl, _, rfl⟩ := he1
  obtain ⟨p0, p1, p2⟩ := tk_head hx1
  have TX := Lib.hid (show (⟨x.text.toArray⟩ : ByteArray) = x.tx from rfl)
  rw [TX.out] at p1
  clear hx1 TX
  have e1 : (x.tx.toList == [97, 108, 119, 97, 121, 115]) = false := tx_ne (fun h => t1 (.inl h))
  have e2 : (x.tx.toList == [99, 97, 110]) = false := tx_ne (fun h => t1 (.inr h))
  have e3 : (x.tx.toList == [103, 114, 111, 119]) = true := tx_eq t3
  have A1 := Lib.hid t1
  have A3 := Lib.hid t3
  clear t1 t3
  go_wp2_with fail
  obtain ⟨WB, hWB⟩ : ∃ W, W = w1.alloc (.cells #[.string emp, .string emp] 54) := ⟨_, rfl⟩
  have hbB : Below w1.heap.size w1 WB := by rw [hWB]; exact (Below.refl _ _).alloc (Nat.le_refl _) _
  have HBQ := Lib.hid (show Blk WB w1.heap.size #[.string emp, .string emp] by rw [hWB]; exact Blk.new w1 _ _)
  have HSZ := Lib.hid (show WB.heap.size = w1.heap.size + 1 by rw [hWB]; simp)
  have HBB := Lib.hid (HB1.out.trans (hbB.mono HB1.out.size))
  have hgq0 : w.heap.size ≤ w1.heap.size := HB1.out.size
  have hGB := Lib.hid (HG.out.below HBB.out)
  have E := Lib.hid (E.out.trans (lineT_grow (p := p) (s := s) (r := r) (i := ti) A1.out A3.out))
  have QP := Lib.hid (policy_bound s (.slice (some ⟨tb, off, none⟩) (r.length + 1) sc) (x :: r) WB (by omega) hGB.out (HS1.out.below hbB))
  have HOK := Lib.hid (fun (h : (boundT (x :: r) (endOf s)).2.2 = 0) => show OkP { p with g := insAllR [] (p.g ++ [(boundT (x :: r) (endOf s)).1]) } from ⟨hok.l, fun y hy => ((insAll_memR _ _ _).1 hy).elim (fun h' => absurd h' (by simp)) (fun h' => (List.mem_append.1 h').elim (hok.g y) (fun h' => by rw [List.mem_singleton.1 h']; exact bound_role hto h)), hok.h, hok.q⟩)
  generalize boundT (x :: r) (endOf s) = pq at E QP HOK
  obtain ⟨⟨x1, x2⟩, at0, y0⟩ := pq
  dsimp only at E QP HOK
  rw [← hWB]
  clear hWB hbB hGB
  refine QP.out.mono ?_
  rintro e w2 ⟨rfl, hb2⟩
  dsimp only
  have HB2 := Lib.hid (HBB.out.trans (hb2.mono HBB.out.size))
  have HBQ2 := Lib.hid (HBQ.out.below hb2)
  clear hb2 QP HBQ HBB
  obtain ⟨cq, fq, zq⟩ := HBQ2.out
  go_wp2_with fail
  clear cq fq zq
  have HBQ3 := Lib.hid (show Blk ((w2.setCell ⟨w1.heap.size, 0, none⟩ (.string x1)).setCell ⟨w1.heap.size, 1, none⟩ (.string x2)) w1.heap.size #[.string x1, .string x2] from ((HBQ2.out.put (o := 0) (v := .string x1) (by simp)).put (o := 1) (v := .string x2) (by simp)).congr rfl)
  have HB3 := Lib.hid ((HB2.out.setCell (p := ⟨w1.heap.size, 0, none⟩) hgq0 (.string x1)).setCell (p := ⟨w1.heap.size, 1, none⟩) hgq0 (.string x2))
  obtain ⟨W3, hW3⟩ : ∃ V, V = ((w2.setCell ⟨w1.heap.size, 0, none⟩ (.string x1)).setCell ⟨w1.heap.size, 1, none⟩ (.string x2)) := ⟨_, rfl⟩
  rw [← hW3] at HBQ3 HB3 ⊢
  clear hW3 HB2 HBQ2
  have HM3 := Lib.hid (HM.out.below HB3.out)
  have hCs : C ≤ w.heap.size := HM.out.hC
  refine wp_region_last (S := fun W => (∀ o, W.cell? ⟨b, o, none⟩ = (#[.slice a0 p.l.length c0, .slice a1 p.g.length c1, .slice a2 p.h.length c2, .slice a3 zs.length c3] : Array Value)[o]?) ∧ (∀ o, W.cell? ⟨w1.heap.size, o, none⟩ = (#[.string x1, .string x2] : Array Value)[o]?)) 13 (by kernel_rfl) ⟨(HM3.out.blk.below (below_drew (Below.refl _ _))).1, (HBQ3.out.below (below_drew (Below.refl _ _))).1⟩ (fun hHeld => ?_)
  have hd := below_drew (Below.refl W3.heap.size W3)
  have HM3 := Lib.hid (HM3.out.below hd)
  have HB3 := Lib.hid (HB3.out.trans (hd.mono HB3.out.size))
  have HBQ3 := Lib.hid (HBQ3.out.below hd)

  obtain ⟨W4, hW4⟩ : ∃ V, V = W3.drew := ⟨_, rfl⟩
  rw [← hW4] at HM3 HB3 HBQ3 hHeld ⊢
  clear hd hW4
  (refine lyes 0 ?_); (refine lyes 1 ?_); (refine lyes 2 ?_); (refine lyes 3 ?_); (refine lyes 4 ?_); (refine lyes 5 ?_); (refine lyes 6 ?_); (try simp only [Act.put, List.setIfInBounds_toArray, List.set])
  (refine last_call 7 rfl (by kernel_rfl) (fun K hK => ?_); go_simp)
  obtain ⟨W5, hW5⟩ : ∃ V, V = W4.alloc (.cells #[.string x1, .string x2] 54) := ⟨_, rfl⟩
  obtain ⟨bn, hbn⟩ : ∃ b, b = W4.heap.size := ⟨_, rfl⟩
  rw [← hW5, ← hbn]
  have hbq : Below W4.heap.size W4 W5 := by rw [hW5]; exact (Below.refl _ _).alloc (Nat.le_refl _) _
  have HN1 := Lib.hid (show Sl W5 2 (.slice (some ⟨bn, 0, none⟩) 1 1) 1 (Rl.cells ⟨x1, x2⟩) by rw [hW5]; exact Sl.new W4 (Rl.cells ⟨x1, x2⟩) 54 2 1 bn hbn rfl (by simp [maxLen]))
  have HM5 := Lib.hid (HM3.out.below hbq)
  have HB5 := Lib.hid (HB3.out.trans (hbq.mono HB3.out.size))
  have HBQ5 := Lib.hid (HBQ3.out.below hbq)

  clear hbq hW5 hbn HM3 HB3 HBQ3
  (refine hK.out _ _ ⟨HM5.out.blk.1, HBQ5.out.1⟩ (fun hHeld => ?_); clear hK K; (try simp only [Act.put, List.setIfInBounds_toArray, List.set]))
  obtain ⟨inf, hin, hs0, hs1, hs2⟩ := info_parts rl_info'
  have HIN := Lib.hid hin
  clear hin

  refine last_call 8 rfl (by kernel_rfl) (fun K hK => ?_)
  refine step_row rfl _ _ 23 rfl C 54 inf _ 2 32 Tryz.underlying23 HIN.out hs0 hs1 hs2 (by decide) rfl (by decide) _ p.g.length _ rfl HM5.out.r1 _ 1 _ rfl HN1.out.a (rlc_one _) (by have := HZL.out; omega) HM5.out.hC ?_
  intro a5 c5 wc hown5 hg5
  have hneb : some b ≠ (Value.slice a1 p.g.length c1).ownBlock := fun e => by have := (own_type HM5.out.r1 e.symm).1; have := HM5.out.hb; omega
  have hneq : some w1.heap.size ≠ (Value.slice a1 p.g.length c1).ownBlock := fun e => by
    have h1 := own_type HM.out.r1 e.symm
    obtain ⟨_, cs, h2⟩ := h1
    have := (Array.getElem?_eq_some_iff.1 h2).1
    omega
  have HKG := Lib.hid (Kp.of_grown (X := fun k => some k = (Value.slice a1 p.g.length c1).ownBlock) hg5 (fun _ h => h))
  have HBG := Lib.hid (HKG.out.blk HM5.out.blk hneb)
  have HQG := Lib.hid (HKG.out.blk HBQ5.out hneq)
  have HO5 := Lib.hid hown5
  clear hg5 hown5 HN1 HIN hs0 hs1 hs2 hneb hneq
  (refine hK.out _ _ ⟨HBG.out.1, HQG.out.1⟩ (fun hHeld => ?_); clear hK K; (try simp only [Act.put, List.setIfInBounds_toArray, List.set]))
  (refine last_call 9 rfl (by kernel_rfl) (fun K hK => ?_); go_simp)
  go_at_call 27; refine (pol_SortRolesO _ (p.g ++ [⟨x1, x2⟩]) _ (by rw [List.length_append, List.flatMap_append]; simpa using (Sl.of_own HO5.out).a) (by simp; omega)).mono ?_; rintro e wd ⟨vd, rfl, hod, hbd⟩
  obtain ⟨ad, cd, rfl⟩ := own_form hod
  have HOD := Lib.hid hod
  have HBD := Lib.hid hbd
  have HBG := Lib.hid (HBG.out.below hbd)
  have HQG := Lib.hid (HQG.out.below hbd)
  clear hod hbd
  (refine hK.out _ _ ⟨HBG.out.1, HQG.out.1⟩ (fun hHeld => ?_); clear hK K; (try simp only [Act.put, List.setIfInBounds_toArray, List.set]))
  (refine lyes 10 ?_); (refine lyes 11 ?_); (refine lyes 12 ?_); (try simp only [Act.put, List.setIfInBounds_toArray, List.set])
  obtain ⟨cg, fg, zg⟩ := HBG.out
  (refine last_end 13 rfl (by kernel_rfl) (by kernel_rfl) (fun K hK => ?_); go_simp)
  clear cg fg zg
  have HKD := Lib.hid (HKG.out.trans (Kp.of_below (X := fun _ => False) HBD.out) (fun _ _ h => h.elim))
  have HMP := Lib.hid (HM5.out.put1 HKD.out (own_mono HOD.out (Nat.le_trans HM5.out.hC HKG.out.size)) (fun k h1 h2 => by have h3 := (own_type HOD.out h1.symm).1; have h4 := own_type HM5.out.r2 h2.symm; obtain ⟨_, cs, h5⟩ := h4; have := (Array.getElem?_eq_some_iff.1 h5).1; have := HKG.out.size; omega))
  have HKP := Lib.hid (((Kp.of_below (X := mkrX C b w) HB5.out).trans HKD.out (fun g hg e => .inr (by
    obtain ⟨h1, cs, h2⟩ := own_type HM.out.r1 e.symm
    exact ⟨h1, cs, _, h2, .inr (.inl rfl)⟩))).trans (Kp.set (X := fun k => k = b) (o := 1) (v := .slice ad (insAllR [] (p.g ++ [⟨x1, x2⟩])).length cd) rfl) (fun g _ e => .inl e))
  obtain ⟨we, hwe⟩ : ∃ V, V = wd.setCell ⟨b, 1, none⟩ (.slice ad (insAllR [] (p.g ++ [⟨x1, x2⟩])).length cd) := ⟨_, rfl⟩
  rw [← hwe] at HMP HKP ⊢
  clear hwe HBG HQG HKG HO5 HM5 HB5 HBQ5 HKD HBD
  refine hK.out _ _ ?_
  clear hK K HOD
  have hil : (insAllR [] (p.g ++ [⟨x1, x2⟩])).length ≤ p.g.length + 1 := by have := insAll_lenR (p.g ++ [⟨x1, x2⟩]) []; simpa using this
  by_cases hy : y0 = 0
  · have FT := Lib.hid (fun W (hb : Below we.heap.size we W) => policy_FitsD (.slice a0 p.l.length c0) (.slice ad (insAllR [] (p.g ++ [⟨x1, x2⟩])).length cd) (.slice a2 p.h.length c2) (.slice a3 zs.length c3) { p with g := insAllR [] (p.g ++ [⟨x1, x2⟩]) } zs W (HMP.out.pol.below hb) ((okP_le (HOK.out hy)).mono (by decide) (by decide)) (by simp; omega))
    have dy : (y0 == 0) = true := by simp [hy]
    obtain ⟨cb4, fb4, zb4⟩ := HMP.out.blk
    have RF := Lib.hid (fun (h : fitsD { p with g := insAllR [] (p.g ++ [⟨x1, x2⟩]) } = true) => (congrArg resL E.out).trans (resL_fits hy h))
    have RM := Lib.hid (fun (h : fitsD { p with g := insAllR [] (p.g ++ [⟨x1, x2⟩]) } = false) => (congrArg resL E.out).trans (resL_many hy h))
    have EP := Lib.hid (congrArg Prod.fst E.out)
    have hy0 := Lib.hid hy
    clear E hy
    generalize hfd : fitsD { p with g := insAllR [] (p.g ++ [⟨x1, x2⟩]) } = fd at FT RF RM
    clear hfd
    go_wp2_with fail
    refine (FT.out _ (Below.refl _ _)).mono ?_
    rintro e wf ⟨rfl, hbf⟩
    have HMF := Lib.hid (HMP.out.below hbf)
    have HKF := Lib.hid (HKP.out.trans (Kp.of_below (X := fun _ => False) hbf) (fun _ _ h => h.elim))
    clear hbf cb4 fb4 zb4
    cases fd with
    | true =>
      have R := Lib.hid (RF.out rfl)
      go_wp2
      refine bodyPost_ret (v := .tuple #[.int .i64 at0, .int .i64 y0]) (by simp [results, Tryz.results58, go_sem]) rfl ?_
      refine ⟨by rw [R.out, ← hy0.out], HKF.out, fun _ => ?_⟩
      rw [EP.out]
      exact ⟨_, _, _, _, _, HMF.out⟩
    | false =>
      have R := Lib.hid (RM.out rfl)
      go_wp2
      refine bodyPost_ret (v := .tuple #[.int .i64 1, .int .i64 5]) (by simp [results, Tryz.results58, go_sem]) rfl ?_
      exact ⟨by rw [R.out], HKF.out, fun h => by rw [R.out] at h; cases h⟩
  · have dy : (y0 == 0) = false := by simp [hy]
    have R := Lib.hid ((congrArg resL E.out).trans (resL_bad hy))
    have hyn := Lib.hid hy
    clear hy
    go_wp2
    refine bodyPost_ret (v := .tuple #[.int .i64 at0, .int .i64 y0]) (by simp [results, Tryz.results58, go_sem]) rfl ?_
    exact ⟨by rw [R.out], HKP.out, fun h => by rw [R.out] at h; exact absurd h hyn.out⟩
end Go.Proofs.YtnhkgfgbhedphaaGreatDoor
namespace Go.Proofs.YtnhkgfgbhedphaaGreatDoor
open Go.RowKit Go.Shelf

set_option maxRecDepth 100000 in
set_option maxHeartbeats 4000000 in
theorem maker_line_shrink (s : ByteArray) (C b : Nat) (v0 v1 v2 v3 : Value) (p : Pd) (zs : List (Qd × Value)) (w : World) (hM : MkP C b w v0 v1 v2 v3 p zs) (hg : Gl w) (hs : s.size ≤ 1000000) (hok : OkP p) (hf : fitsD p = true) (x : Tok) (r : List Tok) (ti : Int) (ht : tokens (bl s) = (x :: r, ti, 0)) (t1 : ¬ (x.tx = wAlways ∨ x.tx = wCan)) (t3 : ¬ x.tx = wGrow) (t4 : x.tx = wShrink) :
    Calls Tryz.prog 58 #[.pointer (some ⟨b, 0, none⟩), .string s] w fun e w' => LineP C b w (lineP p s) e w' := by
  have HG := Lib.hid hg
  obtain ⟨a0, c0, rfl⟩ := own_form hM.r0
  obtain ⟨a1, c1, rfl⟩ := own_form hM.r1
  obtain ⟨a2, c2, rfl⟩ := own_form hM.r2
  obtain ⟨a3, c3, rfl⟩ := own_form hM.r3
  have HM := Lib.hid hM
  obtain ⟨n0, n1, n2, n3⟩ := fits_few hf
  have HZL := Lib.hid (show zs.length = p.q.length by rw [← hM.z, List.length_map])
  have HF := Lib.hid hf
  have TK := Lib.hid (scan_Tokens_any s w hg (by omega))
  have E := Lib.hid (show lineP p s = lineT p s (tokens (bl s)) from rfl)
  generalize lineP p s = res at E ⊢
  clear hg hf hM
  have hto := tokens_ok (bl s)
  rw [ht] at E TK hto
  clear ht
  dsimp only at hto
  go_enter Tryz.func58, Tryz.ntmps58
  go_wp2_with fail
  refine TK.out.mono ?_
  rintro e w1 ⟨va, rfl, hown1, hb1⟩
  dsimp only at hown1
  obtain ⟨sa, sc, rfl⟩ := own_form hown1
  have HS1 := Lib.hid (Sl.of_own hown1)
  have HB1 := Lib.hid hb1
  clear hown1 hb1 TK
  have dl : ((((r.length : Int) + 1) == 0)) = false := by rw [beq_eq_false_iff_ne]; omega
  obtain ⟨tb, off, cap, he1, hc1, hm1, hb1, hx1⟩ := HS1.out.pos (by simp)
  simp only [Value.slice.injEq] at he1
  obtain ⟨rfl, _, rfl⟩ := he1
  obtain ⟨p0, p1, p2⟩ := tk_head hx1
  have TX := Lib.hid (show (⟨x.text.toArray⟩ : ByteArray) = x.tx from rfl)
  rw [TX.out] at p1
  clear hx1 TX
  have e1 : (x.tx.toList == [97, 108, 119, 97, 121, 115]) = false := tx_ne (fun h => t1 (.inl h))
  have e2 : (x.tx.toList == [99, 97, 110]) = false := tx_ne (fun h => t1 (.inr h))
  have e3 : (x.tx.toList == [103, 114, 111, 119]) = false := tx_ne t3
  have e4 : (x.tx.toList == [115, 104, 114, 105, 110, 107]) = true := tx_eq t4
  have A1 := Lib.hid t1
  have A3 := Lib.hid t3
  have A4 := Lib.hid t4
  clear t1 t3 t4
  go_wp2_with fail
  obtain ⟨WB, hWB⟩ : ∃ W, W = w1.alloc (.cells #[.string emp, .string emp] 54) := ⟨_, rfl⟩
  have hbB : Below w1.heap.size w1 WB := by rw [hWB]; exact (Below.refl _ _).alloc (Nat.le_refl _) _
  have HBQ := Lib.hid (show Blk WB w1.heap.size #[.string emp, .string emp] by rw [hWB]; exact Blk.new w1 _ _)
  have HSZ := Lib.hid (show WB.heap.size = w1.heap.size + 1 by rw [hWB]; simp)
  have HBB := Lib.hid (HB1.out.trans (hbB.mono HB1.out.size))
  have hgq0 : w.heap.size ≤ w1.heap.size := HB1.out.size
  have hGB := Lib.hid (HG.out.below HBB.out)
  have E := Lib.hid (E.out.trans (lineT_shrink (p := p) (s := s) (r := r) (i := ti) A1.out A3.out A4.out))
  have QP := Lib.hid (policy_bound s (.slice (some ⟨tb, off, none⟩) (r.length + 1) sc) (x :: r) WB (by omega) hGB.out (HS1.out.below hbB))
  have HOK := Lib.hid (fun (h : (boundT (x :: r) (endOf s)).2.2 = 0) => show OkP { p with h := insAllR [] (p.h ++ [(boundT (x :: r) (endOf s)).1]) } from ⟨hok.l, hok.g, fun y hy => ((insAll_memR _ _ _).1 hy).elim (fun h' => absurd h' (by simp)) (fun h' => (List.mem_append.1 h').elim (hok.h y) (fun h' => by rw [List.mem_singleton.1 h']; exact bound_role hto h)), hok.q⟩)
  generalize boundT (x :: r) (endOf s) = pq at E QP HOK
  obtain ⟨⟨x1, x2⟩, at0, y0⟩ := pq
  dsimp only at E QP HOK
  rw [← hWB]
  clear hWB hbB hGB
  refine QP.out.mono ?_
  rintro e w2 ⟨rfl, hb2⟩
  dsimp only
  have HB2 := Lib.hid (HBB.out.trans (hb2.mono HBB.out.size))
  have HBQ2 := Lib.hid (HBQ.out.below hb2)
  clear hb2 QP HBQ HBB
  obtain ⟨cq, fq, zq⟩ := HBQ2.out
  go_wp2_with fail
  clear cq fq zq
  have HBQ3 := Lib.hid (show Blk ((w2.setCell ⟨w1.heap.size, 0, none⟩ (.string x1)).setCell ⟨w1.heap.size, 1, none⟩ (.string x2)) w1.heap.size #[.string x1, .string x2] from ((HBQ2.out.put (o := 0) (v := .string x1) (by simp)).put (o := 1) (v := .string x2) (by simp)).congr rfl)
  have HB3 := Lib.hid ((HB2.out.setCell (p := ⟨w1.heap.size, 0, none⟩) hgq0 (.string x1)).setCell (p := ⟨w1.heap.size, 1, none⟩) hgq0 (.string x2))
  obtain ⟨W3, hW3⟩ : ∃ V, V = ((w2.setCell ⟨w1.heap.size, 0, none⟩ (.string x1)).setCell ⟨w1.heap.size, 1, none⟩ (.string x2)) := ⟨_, rfl⟩
  rw [← hW3] at HBQ3 HB3 ⊢
  clear hW3 HB2 HBQ2
  have HM3 := Lib.hid (HM.out.below HB3.out)
  have hCs : C ≤ w.heap.size := HM.out.hC
  refine wp_region_last (S := fun W => (∀ o, W.cell? ⟨b, o, none⟩ = (#[.slice a0 p.l.length c0, .slice a1 p.g.length c1, .slice a2 p.h.length c2, .slice a3 zs.length c3] : Array Value)[o]?) ∧ (∀ o, W.cell? ⟨w1.heap.size, o, none⟩ = (#[.string x1, .string x2] : Array Value)[o]?)) 13 (by kernel_rfl) ⟨(HM3.out.blk.below (below_drew (Below.refl _ _))).1, (HBQ3.out.below (below_drew (Below.refl _ _))).1⟩ (fun hHeld => ?_)
  have hd := below_drew (Below.refl W3.heap.size W3)
  have HM3 := Lib.hid (HM3.out.below hd)
  have HB3 := Lib.hid (HB3.out.trans (hd.mono HB3.out.size))
  have HBQ3 := Lib.hid (HBQ3.out.below hd)

  obtain ⟨W4, hW4⟩ : ∃ V, V = W3.drew := ⟨_, rfl⟩
  rw [← hW4] at HM3 HB3 HBQ3 hHeld ⊢
  clear hd hW4
  (refine lyes 0 ?_); (refine lyes 1 ?_); (refine lyes 2 ?_); (refine lyes 3 ?_); (refine lyes 4 ?_); (refine lyes 5 ?_); (refine lyes 6 ?_); (try simp only [Act.put, List.setIfInBounds_toArray, List.set])
  (refine last_call 7 rfl (by kernel_rfl) (fun K hK => ?_); go_simp)
  obtain ⟨W5, hW5⟩ : ∃ V, V = W4.alloc (.cells #[.string x1, .string x2] 54) := ⟨_, rfl⟩
  obtain ⟨bn, hbn⟩ : ∃ b, b = W4.heap.size := ⟨_, rfl⟩
  rw [← hW5, ← hbn]
  have hbq : Below W4.heap.size W4 W5 := by rw [hW5]; exact (Below.refl _ _).alloc (Nat.le_refl _) _
  have HN1 := Lib.hid (show Sl W5 2 (.slice (some ⟨bn, 0, none⟩) 1 1) 1 (Rl.cells ⟨x1, x2⟩) by rw [hW5]; exact Sl.new W4 (Rl.cells ⟨x1, x2⟩) 54 2 1 bn hbn rfl (by simp [maxLen]))
  have HM5 := Lib.hid (HM3.out.below hbq)
  have HB5 := Lib.hid (HB3.out.trans (hbq.mono HB3.out.size))
  have HBQ5 := Lib.hid (HBQ3.out.below hbq)

  clear hbq hW5 hbn HM3 HB3 HBQ3
  (refine hK.out _ _ ⟨HM5.out.blk.1, HBQ5.out.1⟩ (fun hHeld => ?_); clear hK K; (try simp only [Act.put, List.setIfInBounds_toArray, List.set]))
  obtain ⟨inf, hin, hs0, hs1, hs2⟩ := info_parts rl_info'
  have HIN := Lib.hid hin
  clear hin

  refine last_call 8 rfl (by kernel_rfl) (fun K hK => ?_)
  refine step_row rfl _ _ 23 rfl C 54 inf _ 2 32 Tryz.underlying23 HIN.out hs0 hs1 hs2 (by decide) rfl (by decide) _ p.h.length _ rfl HM5.out.r2 _ 1 _ rfl HN1.out.a (rlc_one _) (by have := HZL.out; omega) HM5.out.hC ?_
  intro a5 c5 wc hown5 hg5
  have hneb : some b ≠ (Value.slice a2 p.h.length c2).ownBlock := fun e => by have := (own_type HM5.out.r2 e.symm).1; have := HM5.out.hb; omega
  have hneq : some w1.heap.size ≠ (Value.slice a2 p.h.length c2).ownBlock := fun e => by
    have h1 := own_type HM.out.r2 e.symm
    obtain ⟨_, cs, h2⟩ := h1
    have := (Array.getElem?_eq_some_iff.1 h2).1
    omega
  have HKG := Lib.hid (Kp.of_grown (X := fun k => some k = (Value.slice a2 p.h.length c2).ownBlock) hg5 (fun _ h => h))
  have HBG := Lib.hid (HKG.out.blk HM5.out.blk hneb)
  have HQG := Lib.hid (HKG.out.blk HBQ5.out hneq)
  have HO5 := Lib.hid hown5
  clear hg5 hown5 HN1 HIN hs0 hs1 hs2 hneb hneq
  (refine hK.out _ _ ⟨HBG.out.1, HQG.out.1⟩ (fun hHeld => ?_); clear hK K; (try simp only [Act.put, List.setIfInBounds_toArray, List.set]))
  (refine last_call 9 rfl (by kernel_rfl) (fun K hK => ?_); go_simp)
  go_at_call 27; refine (pol_SortRolesO _ (p.h ++ [⟨x1, x2⟩]) _ (by rw [List.length_append, List.flatMap_append]; simpa using (Sl.of_own HO5.out).a) (by simp; omega)).mono ?_; rintro e wd ⟨vd, rfl, hod, hbd⟩
  obtain ⟨ad, cd, rfl⟩ := own_form hod
  have HOD := Lib.hid hod
  have HBD := Lib.hid hbd
  have HBG := Lib.hid (HBG.out.below hbd)
  have HQG := Lib.hid (HQG.out.below hbd)
  clear hod hbd
  (refine hK.out _ _ ⟨HBG.out.1, HQG.out.1⟩ (fun hHeld => ?_); clear hK K; (try simp only [Act.put, List.setIfInBounds_toArray, List.set]))
  (refine lyes 10 ?_); (refine lyes 11 ?_); (refine lyes 12 ?_); (try simp only [Act.put, List.setIfInBounds_toArray, List.set])
  obtain ⟨cg, fg, zg⟩ := HBG.out
  (refine last_end 13 rfl (by kernel_rfl) (by kernel_rfl) (fun K hK => ?_); go_simp)
  clear cg fg zg
  have HKD := Lib.hid (HKG.out.trans (Kp.of_below (X := fun _ => False) HBD.out) (fun _ _ h => h.elim))
  have HMP := Lib.hid (HM5.out.put2 HKD.out (own_mono HOD.out (Nat.le_trans HM5.out.hC HKG.out.size)) (fun k h1 h2 => by have h3 := (own_type HOD.out h2.symm).1; have h4 := own_type HM5.out.r1 h1.symm; obtain ⟨_, cs, h5⟩ := h4; have := (Array.getElem?_eq_some_iff.1 h5).1; have := HKG.out.size; omega))
  have HKP := Lib.hid (((Kp.of_below (X := mkrX C b w) HB5.out).trans HKD.out (fun g hg e => .inr (by
    obtain ⟨h1, cs, h2⟩ := own_type HM.out.r2 e.symm
    exact ⟨h1, cs, _, h2, .inr (.inl rfl)⟩))).trans (Kp.set (X := fun k => k = b) (o := 2) (v := .slice ad (insAllR [] (p.h ++ [⟨x1, x2⟩])).length cd) rfl) (fun g _ e => .inl e))
  obtain ⟨we, hwe⟩ : ∃ V, V = wd.setCell ⟨b, 2, none⟩ (.slice ad (insAllR [] (p.h ++ [⟨x1, x2⟩])).length cd) := ⟨_, rfl⟩
  rw [← hwe] at HMP HKP ⊢
  clear hwe HBG HQG HKG HO5 HM5 HB5 HBQ5 HKD HBD
  refine hK.out _ _ ?_
  clear hK K HOD
  have hil : (insAllR [] (p.h ++ [⟨x1, x2⟩])).length ≤ p.h.length + 1 := by have := insAll_lenR (p.h ++ [⟨x1, x2⟩]) []; simpa using this
  by_cases hy : y0 = 0
  · have FT := Lib.hid (fun W (hb : Below we.heap.size we W) => policy_FitsD (.slice a0 p.l.length c0) (.slice a1 p.g.length c1) (.slice ad (insAllR [] (p.h ++ [⟨x1, x2⟩])).length cd) (.slice a3 zs.length c3) { p with h := insAllR [] (p.h ++ [⟨x1, x2⟩]) } zs W (HMP.out.pol.below hb) ((okP_le (HOK.out hy)).mono (by decide) (by decide)) (by simp; omega))
    have dy : (y0 == 0) = true := by simp [hy]
    obtain ⟨cb4, fb4, zb4⟩ := HMP.out.blk
    have RF := Lib.hid (fun (h : fitsD { p with h := insAllR [] (p.h ++ [⟨x1, x2⟩]) } = true) => (congrArg resL E.out).trans (resL_fits hy h))
    have RM := Lib.hid (fun (h : fitsD { p with h := insAllR [] (p.h ++ [⟨x1, x2⟩]) } = false) => (congrArg resL E.out).trans (resL_many hy h))
    have EP := Lib.hid (congrArg Prod.fst E.out)
    have hy0 := Lib.hid hy
    clear E hy
    generalize hfd : fitsD { p with h := insAllR [] (p.h ++ [⟨x1, x2⟩]) } = fd at FT RF RM
    clear hfd
    go_wp2_with fail
    refine (FT.out _ (Below.refl _ _)).mono ?_
    rintro e wf ⟨rfl, hbf⟩
    have HMF := Lib.hid (HMP.out.below hbf)
    have HKF := Lib.hid (HKP.out.trans (Kp.of_below (X := fun _ => False) hbf) (fun _ _ h => h.elim))
    clear hbf cb4 fb4 zb4
    cases fd with
    | true =>
      have R := Lib.hid (RF.out rfl)
      go_wp2
      refine bodyPost_ret (v := .tuple #[.int .i64 at0, .int .i64 y0]) (by simp [results, Tryz.results58, go_sem]) rfl ?_
      refine ⟨by rw [R.out, ← hy0.out], HKF.out, fun _ => ?_⟩
      rw [EP.out]
      exact ⟨_, _, _, _, _, HMF.out⟩
    | false =>
      have R := Lib.hid (RM.out rfl)
      go_wp2
      refine bodyPost_ret (v := .tuple #[.int .i64 1, .int .i64 5]) (by simp [results, Tryz.results58, go_sem]) rfl ?_
      exact ⟨by rw [R.out], HKF.out, fun h => by rw [R.out] at h; cases h⟩
  · have dy : (y0 == 0) = false := by simp [hy]
    have R := Lib.hid ((congrArg resL E.out).trans (resL_bad hy))
    have hyn := Lib.hid hy
    clear hy
    go_wp2
    refine bodyPost_ret (v := .tuple #[.int .i64 at0, .int .i64 y0]) (by simp [results, Tryz.results58, go_sem]) rfl ?_
    exact ⟨by rw [R.out], HKP.out, fun h => by rw [R.out] at h; exact absurd h hyn.out⟩
end Go.Proofs.YtnhkgfgbhedphaaGreatDoor
namespace Go.Proofs.YtnhkgfgbhedphaaGreatDoor
open Go.RowKit Go.Shelf

set_option maxRecDepth 100000 in
set_option maxHeartbeats 4000000 in
theorem maker_line_stmt (s : ByteArray) (C b : Nat) (v0 v1 v2 v3 : Value) (p : Pd) (zs : List (Qd × Value)) (w : World) (hM : MkP C b w v0 v1 v2 v3 p zs) (hg : Gl w) (hs : s.size ≤ 1000000) (hok : OkP p) (hf : fitsD p = true) (x : Tok) (r : List Tok) (ti : Int) (ht : tokens (bl s) = (x :: r, ti, 0)) (t1 : ¬ (x.tx = wAlways ∨ x.tx = wCan)) (t3 : ¬ x.tx = wGrow) (t4 : ¬ x.tx = wShrink) :
    Calls Tryz.prog 58 #[.pointer (some ⟨b, 0, none⟩), .string s] w fun e w' => LineP C b w (lineP p s) e w' := by
  have HG := Lib.hid hg
  obtain ⟨a0, c0, rfl⟩ := own_form hM.r0
  obtain ⟨a1, c1, rfl⟩ := own_form hM.r1
  obtain ⟨a2, c2, rfl⟩ := own_form hM.r2
  obtain ⟨a3, c3, rfl⟩ := own_form hM.r3
  have HM := Lib.hid hM
  obtain ⟨n0, n1, n2, n3⟩ := fits_few hf
  have HZL := Lib.hid (show zs.length = p.q.length by rw [← hM.z, List.length_map])
  have HF := Lib.hid hf
  have TK := Lib.hid (scan_Tokens_any s w hg (by omega))
  have E := Lib.hid (show lineP p s = lineT p s (tokens (bl s)) from rfl)
  generalize lineP p s = res at E ⊢
  clear hg hf hM
  have hto := tokens_ok (bl s)
  rw [ht] at E TK hto
  clear ht
  dsimp only at hto
  go_enter Tryz.func58, Tryz.ntmps58
  go_wp2_with fail
  refine TK.out.mono ?_
  rintro e w1 ⟨va, rfl, hown1, hb1⟩
  dsimp only at hown1
  obtain ⟨sa, sc, rfl⟩ := own_form hown1
  have HS1 := Lib.hid (Sl.of_own hown1)
  have HB1 := Lib.hid hb1
  clear hown1 hb1 TK
  have dl : ((((r.length : Int) + 1) == 0)) = false := by rw [beq_eq_false_iff_ne]; omega
  obtain ⟨tb, off, cap, he1, hc1, hm1, hb1, hx1⟩ := HS1.out.pos (by simp)
  simp only [Value.slice.injEq] at he1
  obtain ⟨rfl, _, rfl⟩ := he1
  obtain ⟨p0, p1, p2⟩ := tk_head hx1
  have TX := Lib.hid (show (⟨x.text.toArray⟩ : ByteArray) = x.tx from rfl)
  rw [TX.out] at p1
  clear hx1 TX
  have e1 : (x.tx.toList == [97, 108, 119, 97, 121, 115]) = false := tx_ne (fun h => t1 (.inl h))
  have e2 : (x.tx.toList == [99, 97, 110]) = false := tx_ne (fun h => t1 (.inr h))
  have e3 : (x.tx.toList == [103, 114, 111, 119]) = false := tx_ne t3
  have e4 : (x.tx.toList == [115, 104, 114, 105, 110, 107]) = false := tx_ne t4
  have A1 := Lib.hid t1
  have A3 := Lib.hid t3
  have A4 := Lib.hid t4
  clear t1 t3 t4
  go_wp2_with fail
  obtain ⟨WB, hWB⟩ : ∃ W, W = w1.alloc (.cells #[.int .i64 0, .string emp, .string emp, .string emp, .string emp, .string emp, .string emp, .string emp, .string emp] 63) := ⟨_, rfl⟩
  have hbB : Below w1.heap.size w1 WB := by rw [hWB]; exact (Below.refl _ _).alloc (Nat.le_refl _) _
  have HBQ := Lib.hid (show Blk WB w1.heap.size #[.int .i64 0, .string emp, .string emp, .string emp, .string emp, .string emp, .string emp, .string emp, .string emp] by rw [hWB]; exact Blk.new w1 _ _)
  have HSZ := Lib.hid (show WB.heap.size = w1.heap.size + 1 by rw [hWB]; simp)
  have HBB := Lib.hid (HB1.out.trans (hbB.mono HB1.out.size))
  have hgq0 : w.heap.size ≤ w1.heap.size := HB1.out.size
  have hGB := Lib.hid (HG.out.below HBB.out)
  have E := Lib.hid (E.out.trans (lineT_stmt (p := p) (s := s) (r := r) (i := ti) A1.out A3.out A4.out))
  have QP := Lib.hid (syn_Parse s WB (by omega) hGB.out)
  have HOK := Lib.hid (fun (h : (parseS s).2.2 = 0) => show OkP { p with l := insAll [] (p.l ++ [(parseS s).1]) } from ⟨fun y hy => ((insAll_mem _ _ _).1 hy).elim (fun h' => absurd h' (by simp)) (fun h' => (List.mem_append.1 h').elim (hok.l y) (fun h' => by rw [List.mem_singleton.1 h']; exact parse_right s h)), hok.g, hok.h, hok.q⟩)
  generalize parseS s = pq at E QP HOK
  obtain ⟨⟨k, ⟨x1, x2⟩, x3, ⟨x4, x5⟩, ⟨x6, x7⟩, x8⟩, at0, y0⟩ := pq
  dsimp only at E QP HOK
  rw [← hWB]
  clear hWB hbB hGB
  refine QP.out.mono ?_
  rintro e w2 ⟨rfl, hb2⟩
  dsimp only
  have HB2 := Lib.hid (HBB.out.trans (hb2.mono HBB.out.size))
  have HBQ2 := Lib.hid (HBQ.out.below hb2)
  clear hb2 QP HBQ HBB
  obtain ⟨cq, fq, zq⟩ := HBQ2.out
  go_wp2_with fail
  clear cq fq zq
  have HBQ3 := Lib.hid (show Blk (((((((((w2.setCell ⟨w1.heap.size, 0, none⟩ (.int .i64 k)).setCell ⟨w1.heap.size, 1, none⟩ (.string x1)).setCell ⟨w1.heap.size, 2, none⟩ (.string x2)).setCell ⟨w1.heap.size, 3, none⟩ (.string x3)).setCell ⟨w1.heap.size, 4, none⟩ (.string x4)).setCell ⟨w1.heap.size, 5, none⟩ (.string x5)).setCell ⟨w1.heap.size, 6, none⟩ (.string x6)).setCell ⟨w1.heap.size, 7, none⟩ (.string x7)).setCell ⟨w1.heap.size, 8, none⟩ (.string x8)) w1.heap.size #[.int .i64 k, .string x1, .string x2, .string x3, .string x4, .string x5, .string x6, .string x7, .string x8] from (((((((((HBQ2.out.put (o := 0) (v := .int .i64 k) (by simp)).put (o := 1) (v := .string x1) (by simp)).put (o := 2) (v := .string x2) (by simp)).put (o := 3) (v := .string x3) (by simp)).put (o := 4) (v := .string x4) (by simp)).put (o := 5) (v := .string x5) (by simp)).put (o := 6) (v := .string x6) (by simp)).put (o := 7) (v := .string x7) (by simp)).put (o := 8) (v := .string x8) (by simp)).congr rfl)
  have HB3 := Lib.hid (((((((((HB2.out.setCell (p := ⟨w1.heap.size, 0, none⟩) hgq0 (.int .i64 k)).setCell (p := ⟨w1.heap.size, 1, none⟩) hgq0 (.string x1)).setCell (p := ⟨w1.heap.size, 2, none⟩) hgq0 (.string x2)).setCell (p := ⟨w1.heap.size, 3, none⟩) hgq0 (.string x3)).setCell (p := ⟨w1.heap.size, 4, none⟩) hgq0 (.string x4)).setCell (p := ⟨w1.heap.size, 5, none⟩) hgq0 (.string x5)).setCell (p := ⟨w1.heap.size, 6, none⟩) hgq0 (.string x6)).setCell (p := ⟨w1.heap.size, 7, none⟩) hgq0 (.string x7)).setCell (p := ⟨w1.heap.size, 8, none⟩) hgq0 (.string x8))
  obtain ⟨W3, hW3⟩ : ∃ V, V = (((((((((w2.setCell ⟨w1.heap.size, 0, none⟩ (.int .i64 k)).setCell ⟨w1.heap.size, 1, none⟩ (.string x1)).setCell ⟨w1.heap.size, 2, none⟩ (.string x2)).setCell ⟨w1.heap.size, 3, none⟩ (.string x3)).setCell ⟨w1.heap.size, 4, none⟩ (.string x4)).setCell ⟨w1.heap.size, 5, none⟩ (.string x5)).setCell ⟨w1.heap.size, 6, none⟩ (.string x6)).setCell ⟨w1.heap.size, 7, none⟩ (.string x7)).setCell ⟨w1.heap.size, 8, none⟩ (.string x8)) := ⟨_, rfl⟩
  rw [← hW3] at HBQ3 HB3 ⊢
  clear hW3 HB2 HBQ2
  have HM3 := Lib.hid (HM.out.below HB3.out)
  have hCs : C ≤ w.heap.size := HM.out.hC
  refine wp_region_last (S := fun W => (∀ o, W.cell? ⟨b, o, none⟩ = (#[.slice a0 p.l.length c0, .slice a1 p.g.length c1, .slice a2 p.h.length c2, .slice a3 zs.length c3] : Array Value)[o]?) ∧ (∀ o, W.cell? ⟨w1.heap.size, o, none⟩ = (#[.int .i64 k, .string x1, .string x2, .string x3, .string x4, .string x5, .string x6, .string x7, .string x8] : Array Value)[o]?)) 13 (by kernel_rfl) ⟨(HM3.out.blk.below (below_drew (Below.refl _ _))).1, (HBQ3.out.below (below_drew (Below.refl _ _))).1⟩ (fun hHeld => ?_)
  have hd := below_drew (Below.refl W3.heap.size W3)
  have HM3 := Lib.hid (HM3.out.below hd)
  have HB3 := Lib.hid (HB3.out.trans (hd.mono HB3.out.size))
  have HBQ3 := Lib.hid (HBQ3.out.below hd)

  obtain ⟨W4, hW4⟩ : ∃ V, V = W3.drew := ⟨_, rfl⟩
  rw [← hW4] at HM3 HB3 HBQ3 hHeld ⊢
  clear hd hW4
  (refine lyes 0 ?_); (refine lyes 1 ?_); (refine lyes 2 ?_); (refine lyes 3 ?_); (refine lyes 4 ?_); (refine lyes 5 ?_); (refine lyes 6 ?_); (try simp only [Act.put, List.setIfInBounds_toArray, List.set])
  (refine last_call 7 rfl (by kernel_rfl) (fun K hK => ?_); go_simp)
  obtain ⟨W5, hW5⟩ : ∃ V, V = W4.alloc (.cells #[.int .i64 k, .string x1, .string x2, .string x3, .string x4, .string x5, .string x6, .string x7, .string x8] 63) := ⟨_, rfl⟩
  obtain ⟨bn, hbn⟩ : ∃ b, b = W4.heap.size := ⟨_, rfl⟩
  rw [← hW5, ← hbn]
  have hbq : Below W4.heap.size W4 W5 := by rw [hW5]; exact (Below.refl _ _).alloc (Nat.le_refl _) _
  have HN1 := Lib.hid (show Sl W5 9 (.slice (some ⟨bn, 0, none⟩) 1 1) 1 (St.cells ⟨k, ⟨x1, x2⟩, x3, ⟨x4, x5⟩, ⟨x6, x7⟩, x8⟩) by rw [hW5]; exact Sl.new W4 (St.cells ⟨k, ⟨x1, x2⟩, x3, ⟨x4, x5⟩, ⟨x6, x7⟩, x8⟩) 63 9 1 bn hbn rfl (by simp [maxLen]))
  have HM5 := Lib.hid (HM3.out.below hbq)
  have HB5 := Lib.hid (HB3.out.trans (hbq.mono HB3.out.size))
  have HBQ5 := Lib.hid (HBQ3.out.below hbq)

  clear hbq hW5 hbn HM3 HB3 HBQ3
  (refine hK.out _ _ ⟨HM5.out.blk.1, HBQ5.out.1⟩ (fun hHeld => ?_); clear hK K; (try simp only [Act.put, List.setIfInBounds_toArray, List.set]))
  obtain ⟨inf, hin, hs0, hs1, hs2⟩ := info_parts st_info
  have HIN := Lib.hid hin
  clear hin

  refine last_call 8 rfl (by kernel_rfl) (fun K hK => ?_)
  refine step_row rfl _ _ 22 rfl C 63 inf _ 9 136 Tryz.underlying22 HIN.out hs0 hs1 hs2 (by decide) rfl (by decide) _ p.l.length _ rfl HM5.out.r0 _ 1 _ rfl HN1.out.a (st_one _) (by have := HZL.out; omega) HM5.out.hC ?_
  intro a5 c5 wc hown5 hg5
  have hneb : some b ≠ (Value.slice a0 p.l.length c0).ownBlock := fun e => by have := (own_type HM5.out.r0 e.symm).1; have := HM5.out.hb; omega
  have hneq : some w1.heap.size ≠ (Value.slice a0 p.l.length c0).ownBlock := fun e => by
    have h1 := own_type HM.out.r0 e.symm
    obtain ⟨_, cs, h2⟩ := h1
    have := (Array.getElem?_eq_some_iff.1 h2).1
    omega
  have HKG := Lib.hid (Kp.of_grown (X := fun k => some k = (Value.slice a0 p.l.length c0).ownBlock) hg5 (fun _ h => h))
  have HBG := Lib.hid (HKG.out.blk HM5.out.blk hneb)
  have HQG := Lib.hid (HKG.out.blk HBQ5.out hneq)
  have HO5 := Lib.hid hown5
  clear hg5 hown5 HN1 HIN hs0 hs1 hs2 hneb hneq
  (refine hK.out _ _ ⟨HBG.out.1, HQG.out.1⟩ (fun hHeld => ?_); clear hK K; (try simp only [Act.put, List.setIfInBounds_toArray, List.set]))
  (refine last_call 9 rfl (by kernel_rfl) (fun K hK => ?_); go_simp)
  go_at_call 87; refine (syn_SortO _ (p.l ++ [⟨k, ⟨x1, x2⟩, x3, ⟨x4, x5⟩, ⟨x6, x7⟩, x8⟩]) _ (by rw [List.length_append, List.flatMap_append]; simpa using (Sl.of_own HO5.out).a) (by simp; omega)).mono ?_; rintro e wd ⟨vd, rfl, hod, hbd⟩
  obtain ⟨ad, cd, rfl⟩ := own_form hod
  have HOD := Lib.hid hod
  have HBD := Lib.hid hbd
  have HBG := Lib.hid (HBG.out.below hbd)
  have HQG := Lib.hid (HQG.out.below hbd)
  clear hod hbd
  (refine hK.out _ _ ⟨HBG.out.1, HQG.out.1⟩ (fun hHeld => ?_); clear hK K; (try simp only [Act.put, List.setIfInBounds_toArray, List.set]))
  (refine lyes 10 ?_); (refine lyes 11 ?_); (refine lyes 12 ?_); (try simp only [Act.put, List.setIfInBounds_toArray, List.set])
  obtain ⟨cg, fg, zg⟩ := HBG.out
  (refine last_end 13 rfl (by kernel_rfl) (by kernel_rfl) (fun K hK => ?_); go_simp)
  clear cg fg zg
  have HKD := Lib.hid (HKG.out.trans (Kp.of_below (X := fun _ => False) HBD.out) (fun _ _ h => h.elim))
  have HMP := Lib.hid (HM5.out.put0 HKD.out (own_mono HOD.out (Nat.le_trans HM5.out.hC HKG.out.size)))
  have HKP := Lib.hid (((Kp.of_below (X := mkrX C b w) HB5.out).trans HKD.out (fun g hg e => .inr (by
    obtain ⟨h1, cs, h2⟩ := own_type HM.out.r0 e.symm
    exact ⟨h1, cs, _, h2, .inl rfl⟩))).trans (Kp.set (X := fun k => k = b) (o := 0) (v := .slice ad (insAll [] (p.l ++ [⟨k, ⟨x1, x2⟩, x3, ⟨x4, x5⟩, ⟨x6, x7⟩, x8⟩])).length cd) rfl) (fun g _ e => .inl e))
  obtain ⟨we, hwe⟩ : ∃ V, V = wd.setCell ⟨b, 0, none⟩ (.slice ad (insAll [] (p.l ++ [⟨k, ⟨x1, x2⟩, x3, ⟨x4, x5⟩, ⟨x6, x7⟩, x8⟩])).length cd) := ⟨_, rfl⟩
  rw [← hwe] at HMP HKP ⊢
  clear hwe HBG HQG HKG HO5 HM5 HB5 HBQ5 HKD HBD
  refine hK.out _ _ ?_
  clear hK K HOD
  have hil : (insAll [] (p.l ++ [⟨k, ⟨x1, x2⟩, x3, ⟨x4, x5⟩, ⟨x6, x7⟩, x8⟩])).length ≤ p.l.length + 1 := by have := insAll_len (p.l ++ [⟨k, ⟨x1, x2⟩, x3, ⟨x4, x5⟩, ⟨x6, x7⟩, x8⟩]) []; simpa using this
  by_cases hy : y0 = 0
  · have FT := Lib.hid (fun W (hb : Below we.heap.size we W) => policy_FitsD (.slice ad (insAll [] (p.l ++ [⟨k, ⟨x1, x2⟩, x3, ⟨x4, x5⟩, ⟨x6, x7⟩, x8⟩])).length cd) (.slice a1 p.g.length c1) (.slice a2 p.h.length c2) (.slice a3 zs.length c3) { p with l := insAll [] (p.l ++ [⟨k, ⟨x1, x2⟩, x3, ⟨x4, x5⟩, ⟨x6, x7⟩, x8⟩]) } zs W (HMP.out.pol.below hb) ((okP_le (HOK.out hy)).mono (by decide) (by decide)) (by simp; omega))
    have dy : (y0 == 0) = true := by simp [hy]
    obtain ⟨cb4, fb4, zb4⟩ := HMP.out.blk
    have RF := Lib.hid (fun (h : fitsD { p with l := insAll [] (p.l ++ [⟨k, ⟨x1, x2⟩, x3, ⟨x4, x5⟩, ⟨x6, x7⟩, x8⟩]) } = true) => (congrArg resL E.out).trans (resL_fits hy h))
    have RM := Lib.hid (fun (h : fitsD { p with l := insAll [] (p.l ++ [⟨k, ⟨x1, x2⟩, x3, ⟨x4, x5⟩, ⟨x6, x7⟩, x8⟩]) } = false) => (congrArg resL E.out).trans (resL_many hy h))
    have EP := Lib.hid (congrArg Prod.fst E.out)
    have hy0 := Lib.hid hy
    clear E hy
    generalize hfd : fitsD { p with l := insAll [] (p.l ++ [⟨k, ⟨x1, x2⟩, x3, ⟨x4, x5⟩, ⟨x6, x7⟩, x8⟩]) } = fd at FT RF RM
    clear hfd
    go_wp2_with fail
    refine (FT.out _ (Below.refl _ _)).mono ?_
    rintro e wf ⟨rfl, hbf⟩
    have HMF := Lib.hid (HMP.out.below hbf)
    have HKF := Lib.hid (HKP.out.trans (Kp.of_below (X := fun _ => False) hbf) (fun _ _ h => h.elim))
    clear hbf cb4 fb4 zb4
    cases fd with
    | true =>
      have R := Lib.hid (RF.out rfl)
      go_wp2
      refine bodyPost_ret (v := .tuple #[.int .i64 at0, .int .i64 y0]) (by simp [results, Tryz.results58, go_sem]) rfl ?_
      refine ⟨by rw [R.out, ← hy0.out], HKF.out, fun _ => ?_⟩
      rw [EP.out]
      exact ⟨_, _, _, _, _, HMF.out⟩
    | false =>
      have R := Lib.hid (RM.out rfl)
      go_wp2
      refine bodyPost_ret (v := .tuple #[.int .i64 1, .int .i64 5]) (by simp [results, Tryz.results58, go_sem]) rfl ?_
      exact ⟨by rw [R.out], HKF.out, fun h => by rw [R.out] at h; cases h⟩
  · have dy : (y0 == 0) = false := by simp [hy]
    have R := Lib.hid ((congrArg resL E.out).trans (resL_bad hy))
    have hyn := Lib.hid hy
    clear hy
    go_wp2
    refine bodyPost_ret (v := .tuple #[.int .i64 at0, .int .i64 y0]) (by simp [results, Tryz.results58, go_sem]) rfl ?_
    exact ⟨by rw [R.out], HKP.out, fun h => by rw [R.out] at h; exact absurd h hyn.out⟩
end Go.Proofs.YtnhkgfgbhedphaaGreatDoor
namespace Go.Proofs.YtnhkgfgbhedphaaGreatDoor
open Go.RowKit Go.Shelf

set_option maxRecDepth 100000 in
set_option maxHeartbeats 4000000 in
theorem maker_line_none (s : ByteArray) (C b : Nat) (v0 v1 v2 v3 : Value) (p : Pd) (zs : List (Qd × Value)) (w : World) (hM : MkP C b w v0 v1 v2 v3 p zs) (hg : Gl w) (hs : s.size ≤ 1000000) (hok : OkP p) (hf : fitsD p = true) (ti : Int) (ht : tokens (bl s) = ([], ti, 0)) :
    Calls Tryz.prog 58 #[.pointer (some ⟨b, 0, none⟩), .string s] w fun e w' => LineP C b w (lineP p s) e w' := by
  have HG := Lib.hid hg
  obtain ⟨a0, c0, rfl⟩ := own_form hM.r0
  obtain ⟨a1, c1, rfl⟩ := own_form hM.r1
  obtain ⟨a2, c2, rfl⟩ := own_form hM.r2
  obtain ⟨a3, c3, rfl⟩ := own_form hM.r3
  have HM := Lib.hid hM
  obtain ⟨n0, n1, n2, n3⟩ := fits_few hf
  have HZL := Lib.hid (show zs.length = p.q.length by rw [← hM.z, List.length_map])
  have HF := Lib.hid hf
  have TK := Lib.hid (scan_Tokens_any s w hg (by omega))
  have E := Lib.hid (show lineP p s = lineT p s (tokens (bl s)) from rfl)
  generalize lineP p s = res at E ⊢
  clear hg hf hM
  rw [ht] at E TK
  clear ht
  go_enter Tryz.func58, Tryz.ntmps58
  go_wp2_with fail
  refine TK.out.mono ?_
  rintro e w1 ⟨va, rfl, hown1, hb1⟩
  dsimp only at hown1
  obtain ⟨sa, sc, rfl⟩ := own_form hown1
  have HB1 := Lib.hid hb1
  clear hown1 hb1 TK
  have E := Lib.hid (E.out.trans lineT_nil)
  have R := Lib.hid ((congrArg resL E.out).trans (resL_fits rfl HF.out))
  have EP := Lib.hid (congrArg Prod.fst E.out)
  clear E
  go_wp2
  refine bodyPost_ret (v := .tuple #[.int .i64 ti, .int .i64 0]) (by simp [results, Tryz.results58, go_sem]) rfl ?_
  refine ⟨by rw [R.out], Kp.of_below HB1.out, fun _ => ?_⟩
  rw [EP.out]
  exact ⟨_, _, _, _, _, HM.out.below HB1.out⟩
set_option maxRecDepth 100000 in
set_option maxHeartbeats 4000000 in
theorem maker_line_bad (s : ByteArray) (C b : Nat) (v0 v1 v2 v3 : Value) (p : Pd) (zs : List (Qd × Value)) (w : World) (hM : MkP C b w v0 v1 v2 v3 p zs) (hg : Gl w) (hs : s.size ≤ 1000000) (hok : OkP p) (hf : fitsD p = true) (hty : ¬ (tokens (bl s)).2.2 = 0) :
    Calls Tryz.prog 58 #[.pointer (some ⟨b, 0, none⟩), .string s] w fun e w' => LineP C b w (lineP p s) e w' := by
  have HG := Lib.hid hg
  obtain ⟨a0, c0, rfl⟩ := own_form hM.r0
  obtain ⟨a1, c1, rfl⟩ := own_form hM.r1
  obtain ⟨a2, c2, rfl⟩ := own_form hM.r2
  obtain ⟨a3, c3, rfl⟩ := own_form hM.r3
  have HM := Lib.hid hM
  obtain ⟨n0, n1, n2, n3⟩ := fits_few hf
  have HZL := Lib.hid (show zs.length = p.q.length by rw [← hM.z, List.length_map])
  have HF := Lib.hid hf
  have TK := Lib.hid (scan_Tokens_any s w hg (by omega))
  have E := Lib.hid (show lineP p s = lineT p s (tokens (bl s)) from rfl)
  generalize lineP p s = res at E ⊢
  clear hg hf hM
  go_enter Tryz.func58, Tryz.ntmps58
  go_wp2_with fail
  refine TK.out.mono ?_
  rintro e w1 ⟨va, rfl, hown1, hb1⟩
  obtain ⟨sa, sc, rfl⟩ := own_form hown1
  have HB1 := Lib.hid hb1
  clear hown1 hb1 TK
  generalize tokens (bl s) = t at *
  obtain ⟨l, ti, ty⟩ := t
  dsimp only at hty ⊢
  have E := Lib.hid (E.out.trans (lineT_bad hty))
  have R := Lib.hid ((congrArg resL E.out).trans (resL_bad hty))
  have hyn := Lib.hid hty
  have d : (ty != 0) = true := by simp [hty]
  clear hty E
  go_wp2
  refine bodyPost_ret (v := .tuple #[.int .i64 ti, .int .i64 ty]) (by simp [results, Tryz.results58, go_sem]) rfl ?_
  exact ⟨by rw [R.out], Kp.of_below HB1.out, fun h => by rw [R.out] at h; exact absurd h hyn.out⟩
theorem maker_line (s : ByteArray) (C b : Nat) (v0 v1 v2 v3 : Value) (p : Pd) (zs : List (Qd × Value)) (w : World) (hM : MkP C b w v0 v1 v2 v3 p zs) (hg : Gl w) (hs : s.size ≤ 1000000) (hok : OkP p) (hf : fitsD p = true) :
    Calls Tryz.prog 58 #[.pointer (some ⟨b, 0, none⟩), .string s] w fun e w' => LineP C b w (lineP p s) e w' := by
  by_cases hty : (tokens (bl s)).2.2 = 0
  · cases ht : tokens (bl s) with | mk l y =>
    obtain ⟨ti, ty⟩ := y
    rw [ht] at hty
    dsimp only at hty
    subst hty
    cases l with
    | nil => exact maker_line_none s C b v0 v1 v2 v3 p zs w hM hg hs hok hf ti ht
    | cons x r =>
      by_cases a1 : x.tx = wAlways
      · exact maker_line_ask s C b v0 v1 v2 v3 p zs w hM hg hs hok hf x r ti ht a1
      by_cases a2 : x.tx = wCan
      · exact maker_line_can s C b v0 v1 v2 v3 p zs w hM hg hs hok hf x r ti ht a1 a2
      have a : ¬ (x.tx = wAlways ∨ x.tx = wCan) := fun h => h.elim a1 a2
      by_cases a3 : x.tx = wGrow
      · exact maker_line_grow s C b v0 v1 v2 v3 p zs w hM hg hs hok hf x r ti ht a a3
      by_cases a4 : x.tx = wShrink
      · exact maker_line_shrink s C b v0 v1 v2 v3 p zs w hM hg hs hok hf x r ti ht a a3 a4
      exact maker_line_stmt s C b v0 v1 v2 v3 p zs w hM hg hs hok hf x r ti ht a a3 a4
  · exact maker_line_bad s C b v0 v1 v2 v3 p zs w hM hg hs hok hf hty
end Go.Proofs.YtnhkgfgbhedphaaGreatDoor
namespace Go.Proofs.YtnhkgfgbhedphaaGreatDoor
open Go.RowKit Go.Shelf

def SeqC (P : Program) (g : Nat) (lb : Array Value) (encs : Nat → Array Value) (b N : Nat) (w : World) : Prop :=
  ∀ (l : Nat) (J : Nat → World → Prop) (W : World), W.heap[b]? = w.heap[b]? → w.heap.size ≤ W.heap.size →
    (∀ k A v, J k A → J k (A.setCell ⟨b, 0, none⟩ v)) → (∀ k A, J k A → J k A.drew) →
    (∀ k A, J k A → k < N → YieldAt Fence.wide 2 P l (encs k) A fun e A' => e = .returned (.bool true) ∧ J (k + 1) A' ∧ A'.heap[b]? = A.heap[b]?) →
    J 0 W → CallsIn Fence.wide 3 P g (#[.func (.yield l) #[] #[]] ++ lb) W fun e W' => (∃ v, e = .returned v) ∧ J N W'
def goesOn (R : World → Prop) : Exit → Act → World → Prop
  | .normal, _, W => R W
  | _, _, _ => False
theorem rangeFunc_cell {P : Program} {g : Operand} {ps : Array Tmp} {assign body : Code} {Q : Exit → Act → World → Prop} {a : Act} {w : World} {gf : Nat} {lb : Array Value}
    (hg : a.eval g = .func (.func gf) #[] lb) (eg : ∀ args w, (callFunc gf args).run P w = .ok (.enter gf args) w) (b N : Nat) (encs : Nat → Array Value) (hb : b < w.heap.size)
    (hseq : SeqC P gf lb encs b N w) (hps : ∀ k, (encs k).size = ps.size) (I : Nat → World → Prop)
    (hIp : ∀ k A r o o', I k A → w.heap.size ≤ r → A.heap[r]? = some o → o.isCells = false → I k (A.putObj r o')) (hIa : ∀ k A o, I k A → I k (A.alloc o))
    (hIs : ∀ k A v, I k A → I k (A.setCell ⟨b, 0, none⟩ v)) (hId : ∀ k A, I k A → I k A.drew) (h0 : I 0 w) (a₁ : Nat → Act)
    (hassign : ∀ (l k : Nat) (W : World) (K : Act → World → Prop), K (a₁ k) W →
      assign.wpIn (Fence.wide.inRound l) 2 P (Exit.then K (fun _ _ _ => False)) { tmps := (ps.zip (encs k)).foldl (fun t (p, v) => t.setIfInBounds p v) a.tmps, defers := [] } W)
    (hbody : ∀ (l k : Nat) (W : World), I k W → k < N → body.wpIn (Fence.wide.inRound l) 2 P (goesOn fun W' => KeepsOthers W W' ∧ W'.heap[b]? = W.heap[b]? ∧ I (k + 1) W') (a₁ k) W)
    (hdone : ∀ (D : Nat) (W : World), w.heap.size ≤ D → I N W → W.heap[D]? = some (.deferred (some [])) → Q .normal { a with defers := { target := .collected D, args := #[] } :: a.defers } W) :
    (Code.rangeFunc g ps assign body).wpIn Fence.wide 4 P Q a w := by
  refine wpIn_rangeFunc fun fn hfn => ?_
  obtain ⟨rc, hrc⟩ : ∃ rc : LoopState → Loop, rc = fun st => { state := st, pending := none, fn, tmps := a.tmps, params := ps, assign, body, defers := w.heap.size } := ⟨_, rfl⟩
  obtain ⟨W1, hW1⟩ : ∃ W1, W1 = (w.alloc (.deferred (some []))).alloc (.loop (rc .ready)) := ⟨_, rfl⟩
  obtain ⟨d, hd⟩ : ∃ d, d = w.heap.size := ⟨_, rfl⟩
  have hL1 : W1.heap[d + 1]? = some (.loop (rc .ready)) := by
    have := World.alloc_heap_new (w.alloc (.deferred (some []))) (.loop (rc .ready))
    rw [hW1, hd]
    rwa [World.size_alloc] at this
  have hK1 : W1.heap[d]? = some (.deferred (some [])) := by
    rw [hW1, hd]; exact (Below.heap_alloc _ _ _ (by simp)).trans (World.alloc_heap_new w _)
  have hB1 : W1.heap[b]? = w.heap[b]? := by
    rw [hW1]; exact (Below.heap_alloc _ _ _ (by simp; omega)).trans (Below.heap_alloc _ _ _ hb)
  have hz : w.heap.size ≤ W1.heap.size := by rw [hW1]; simp; omega
  have hI1 : I 0 W1 := by rw [hW1]; exact hIa _ _ _ (hIa _ _ _ h0)
  refine ⟨d + 1, [{ target := .collected d, args := #[] }], W1, { target := .fn (.func gf) lb, args := #[.func (.yield (d + 1)) #[] #[]] }, W1, gf,
    #[.func (.yield (d + 1)) #[] #[]] ++ lb, W1, ?_, ?_, fun _ _ => trivial, ?_, fun _ => by decide, ?_⟩
  · rw [hW1, hrc, hd]; exact run_enterLoop_outer _ _ _ _ _
  · simp only [resolve, hg]
    simp [go_sem]
  · simp [invoke, go_sem, eg]
  have far : ∀ (A : World) (v : Value) (r : Nat), d ≤ r → (A.setCell ⟨b, 0, none⟩ v).heap[r]? = A.heap[r]? := fun A v r hr => Below.heap_setCell _ _ _ _ (by show r ≠ b; omega)
  refine (hseq (d + 1) (fun k A => I k A ∧ A.heap[d + 1]? = some (.loop (rc .ready)) ∧ A.heap[d]? = some (.deferred (some []))) W1 hB1 hz
    (fun k A v h => ⟨hIs _ _ _ h.1, (far _ _ _ (by omega)).trans h.2.1, (far _ _ _ (by omega)).trans h.2.2⟩) (fun k A h => ⟨hId _ _ h.1, h.2.1, h.2.2⟩) ?_ ⟨hI1, hL1, hK1⟩).mono ?_
  · rintro k A ⟨hi, hl, hk⟩ hkN
    have hlt : d + 1 < A.heap.size := (Array.getElem?_eq_some_iff.1 hl).1
    have hy := run_yield (P := P) (args := encs k) hl (by rw [hrc]; exact hps k)
    rw [hrc] at hy
    obtain ⟨A2, hA2⟩ : ∃ A2, A2 = A.putObj (d + 1) (.loop { rc .ready with state := .busy }) := ⟨_, rfl⟩
    have hl2 : A2.heap[d + 1]? = some (.loop { rc .ready with state := .busy }) := by rw [hA2]; exact World.putObj_heap_same hlt
    have hk2 : A2.heap[d]? = some (.deferred (some [])) := by rw [hA2]; exact (World.putObj_heap_other (by omega)).trans hk
    have hb2 : A2.heap[b]? = A.heap[b]? := by rw [hA2]; exact World.putObj_heap_other (by omega)
    have hi2 : I k A2 := by rw [hA2]; exact hIp _ _ _ _ _ hi (by omega) hl rfl
    refine ⟨fn, _, assign, body, hy, roundIn_of_wpIn hfn (hassign _ k A _ ⟨A2, by rw [hA2]; exact run_beginRound hl (by rw [hrc]), ?_⟩)⟩
    refine wpIn_mono (hbody _ k A2 hi2 hkN) ?_
    rintro e a3 A3 hp
    cases e with
    | normal =>
      obtain ⟨ho, hb3, hi3⟩ := hp
      have hl3 := ho.same _ _ hl2 rfl
      have hr := run_endRound (P := P) none hl3
      rw [hrc] at hr
      refine ⟨_, _, hr, rfl, ⟨hIp _ _ _ _ _ hi3 (by omega) hl3 rfl, ?_, (World.putObj_heap_other (by omega)).trans (ho.same _ _ hk2 rfl)⟩, (World.putObj_heap_other (by omega)).trans (hb3.trans hb2)⟩
      rw [hrc]
      exact World.putObj_heap_same (Array.getElem?_eq_some_iff.1 hl3).1
    | _ => exact hp.elim
  · rintro e W2 ⟨⟨v, rfl⟩, hi, hl, hk⟩
    have hr := run_endLoop (P := P) hl (by rw [hrc]; simp)
    rw [hrc] at hr
    subst hd
    exact ⟨none, _, hr, hdone _ _ (Nat.le_refl _) (hIp _ _ _ _ _ hi (by omega) hl rfl) ((World.putObj_heap_other (by omega)).trans hk)⟩
end Go.Proofs.YtnhkgfgbhedphaaGreatDoor
