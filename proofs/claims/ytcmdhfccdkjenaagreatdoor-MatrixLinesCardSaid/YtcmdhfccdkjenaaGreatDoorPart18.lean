/- The statement MatrixLines: the walk of the law (printed by gen_law41n.py). What the proofs of tied cards over math/bits.deBruijn64tab share: the world of the witness, the table's cells, roles and queries opened. -/
import Derived.Test.YtcmdhfccdkjenaaGreatDoorPart17
import Derived.Test.YtcmdhfccdkjenaaGreatDoorPart16
import Derived.Test.YtcmdhfccdkjenaaGreatDoorCards
import Derived.Test.YtcmdhfccdkjenaaGreatDoorTie
import Derived.Test.YtcmdhfccdkjenaaGreatDoorPart10
import Derived.ProofKit
import Derived.OpenShut
import Derived.Lay
import Derived.Deep.DeepHandedRow
import Derived.Lib.LaidTab
import Derived.Shelf.Strings.Shaped
import Derived.HandedShaped
namespace Go.Proofs.YtcmdhfccdkjenaaGreatDoor
open Go.RowKit Go.Shelf

set_option maxRecDepth 100000 in
set_option maxHeartbeats 64000000 in
theorem law41_MatrixLines (v : Value) (R : List MV) (most : Int) (w : World) (hm : -9223372036854775808 ≤ most ∧ most ≤ 9223372036854775807) (hR : SlA w 6 v R.length (R.flatMap MV.cells)) (hok : ∀ x ∈ R, x.wide w ∧ x.s.r.le 140737488351232) (hT : TB w) :
    Calls Tryz.prog 12 #[v, .int .i64 most] w fun e w' => e = .returned (.bool true) ∧ Below w.heap.size w w' := by
  have HL := Lib.hid (fun W hb => law41_lives W (hT.below (w' := W) hb))
  have HR := Lib.hid hR
  have HK := Lib.hid hok
  obtain ⟨va, vc, rfl⟩ := hR.form
  obtain ⟨qinf, hqi, qs0, qs1, qs2⟩ := info_parts qy_info
  have HQI := Lib.hid hqi
  have hmx := hR.max
  clear hR hok hT hqi
  by_cases h20 : 20 < R.length
  · go_enter Tryz.func12, Tryz.ntmps12
    go_wp2_with fail
    refine (HL.out _ (Below.refl _ _)).mono ?_
    rintro e wl ⟨rfl, hbl⟩
    have TL := Lib.hid hbl
    clear hbl
    go_wp2
    go_ret
    exact ⟨rfl, TL.out⟩
  have HT := Lib.hid (show OneAt w #[.int .i64 0, .int .i64 0, .int .i64 0, .int .i64 0, .int .i64 0] (w.alloc (.cells #[.int .i64 0, .int .i64 0, .int .i64 0, .int .i64 0, .int .i64 0] 75)) from ⟨Blk.new w _ _, (Below.refl _ _).alloc (Nat.le_refl _) _⟩)
  go_enter Tryz.func12, Tryz.ntmps12
  go_wp2_with fail
  go_loopw [5, 6, 17] (fun vr vw i wr => ∃ (j c0 c1 c2 c3 c4 : Nat) (U : List FV), j ≤ R.length ∧ i = .int .i64 j ∧ Hid (cntM ((R.map MV.s).take j) 0 = c0 ∧ cntM ((R.map MV.s).take j) 1 = c1 ∧ cntM ((R.map MV.s).take j) 2 = c2 ∧ cntM ((R.map MV.s).take j) 3 = c3 ∧ cntM ((R.map MV.s).take j) 4 = c4) ∧ Hid (OneAt w #[.int .i64 (c0 : Nat), .int .i64 (c1 : Nat), .int .i64 (c2 : Nat), .int .i64 (c3 : Nat), .int .i64 (c4 : Nat)] wr) ∧ Hid (wr.ownsRow (w.heap.size + 1) 77 6 vr j ((R.take j).flatMap MV.cells)) ∧ Hid (wr.ownsRow (w.heap.size + 1) 45 6 vw U.length (U.flatMap FV.cells)) ∧ Hid (U.map FV.s = factsM ((R.map MV.s).take j)) ∧ Hid (∀ x ∈ U, SlA w 1 x.wv x.s.us.length (strs x.s.us)) ∧ Hid (∀ x ∈ R.take j, x.s.lo.length ≤ 10000 ∧ x.s.hi.length ≤ 10000)) (fun _ _ i _ => R.length - (intOf i).toNat)
  case atStart => exact ⟨0, 0, 0, 0, 0, 0, [], by omega, rfl, Lib.hid ⟨rfl, rfl, rfl, rfl, rfl⟩, HT, Lib.hid (World.ownsRow_nil _ _ _ _), Lib.hid (World.ownsRow_nil _ _ _ _), Lib.hid rfl, Lib.hid (fun _ hx => by cases hx), Lib.hid (fun _ hx => by cases hx)⟩
  case round =>
    obtain ⟨j, c0, c1, c2, c3, c4, U, hj, rfl, HN, HT, HO, HW, HTE, HSU, HLN⟩ := hrel
    obtain ⟨ro, rc, rfl⟩ := own_form HO.out
    obtain ⟨uo, uc, rfl⟩ := own_form HW.out
    have hU0 : U.length ≤ 2000 := by
      have h1 := congrArg List.length HTE.out
      have h2 := factsM_len ((R.map MV.s).take j)
      have h3 : ((R.map MV.s).take j).length ≤ (R.map MV.s).length := by rw [List.length_take]; omega
      rw [List.length_map] at h1 h3
      omega
    have hcs : c0 ≤ 1000 ∧ c1 ≤ 1000 ∧ c2 ≤ 1000 ∧ c3 ≤ 1000 ∧ c4 ≤ 1000 := by
      have hc := cnt_le ((R.map MV.s).take j)
      have h2 := List.length_take_le j (R.map MV.s)
      have a0 := hc 0
      have a1 := hc 1
      have a2 := hc 2
      have a3 := hc 3
      have a4 := hc 4
      rw [HN.out.1] at a0
      rw [HN.out.2.1] at a1
      rw [HN.out.2.2.1] at a2
      rw [HN.out.2.2.2.1] at a3
      rw [HN.out.2.2.2.2] at a4
      omega
    by_cases hlt : j < R.length
    · obtain ⟨b1, o1, c1', he1, hc1, hm1, hb1', hx1⟩ := (HR.out.below HT.out.low).pos (by omega)
      simp only [Value.slice.injEq, true_and] at he1
      obtain ⟨rfl, rfl⟩ := he1
      obtain ⟨p0, p1, p2, p3, p4, p5⟩ := mv_cell hx1 j hlt
      have hxk := HK.out R[j] (List.getElem_mem hlt)
      have FS := Lib.hid (show factsM ((R.map MV.s).take (j + 1)) = factsM ((R.map MV.s).take j) ++ factsOf R[j].s by have := facts_snoc (R := R.map MV.s) (j := j) (by rw [List.length_map]; exact hlt); rw [List.getElem_map] at this; exact this)
      have HS := Lib.hid (fun i => by have := cnt_snoc (R := R.map MV.s) (i := i) (j := j) (by rw [List.length_map]; exact hlt); rw [List.getElem_map] at this; exact this)
      have HTK := Lib.hid (show (R.take (j + 1)).flatMap MV.cells = (R.take j).flatMap MV.cells ++ R[j].cells by rw [List.take_succ_eq_append_getElem hlt, List.flatMap_append]; simp)
      have HLK := Lib.hid (show ∀ y, y = R[j] → (y.s.lo.length ≤ 10000 ∧ y.s.hi.length ≤ 10000) → ∀ x ∈ R.take (j + 1), x.s.lo.length ≤ 10000 ∧ x.s.hi.length ≤ 10000 from fun y hy hl x hx => by
        rw [List.take_succ_eq_append_getElem hlt] at hx
        rcases List.mem_append.1 hx with hx | hx
        · exact HLN.out x hx
        · rw [List.mem_singleton.1 hx, ← hy]; exact hl)
      clear hx1 HLN
      generalize R[j] = x at *
      obtain ⟨⟨⟨y1, y2⟩, lo, hi, op, k⟩, lv, hv⟩ := x
      obtain ⟨g1, g3, e1⟩ := hxk.1.1.1.form
      obtain ⟨g4, g6, e2⟩ := hxk.1.1.2.form
      dsimp only at e1 e2 p0 p1 p2 p3 p4 p5 FS HS
      subst e1 e2
      have HLO := Lib.hid (show SlA w 1 (.slice g1 lo.length g3) lo.length (strs lo) from hxk.1.1.1)
      have HHI := Lib.hid (show SlA w 1 (.slice g4 hi.length g6) hi.length (strs hi) from hxk.1.1.2)
      have LL := Lib.hid (fun W (hb : Below w.heap.size w W) => law1_LightT (.slice g1 lo.length g3) lo W (HLO.out.below hb) hxk.1.2.1)
      have LH := Lib.hid (fun W (hb : Below w.heap.size w W) => law1_LightT (.slice g4 hi.length g6) hi W (HHI.out.below hb) hxk.1.2.2)
      have HRL := Lib.hid (show (⟨y1, y2⟩ : Rl).le 140737488351232 from hxk.2)
      clear hxk
      obtain ⟨wa, hwa⟩ : ∃ V, V = wr.alloc (.cells #[.string y1, .string y2, .slice g1 lo.length g3, .slice g4 hi.length g6, .bool op, .int .i64 k] 81) := ⟨_, rfl⟩
      obtain ⟨G, hG⟩ : ∃ G, G = wr.heap.size := ⟨_, rfl⟩
      have hba : Below wr.heap.size wr wa := by rw [hwa]; exact (Below.refl _ _).alloc (Nat.le_refl _) _
      have HG := Lib.hid (show CAt wa G #[.string y1, .string y2, .slice g1 lo.length g3, .slice g4 hi.length g6, .bool op, .int .i64 k] 81 by rw [hwa, hG]; exact heap_new1 _ _)
      have HT := Lib.hid (HT.out.later hba)
      have HO := Lib.hid (own_below HO.out hba)
      have HW := Lib.hid (own_below HW.out hba)
      go_upto_region 9 with fail
      rw [← hwa, ← hG]
      clear hwa hG hba p0 p1 p2 p3 p4 p5 hb1'
      obtain ⟨cg, fg, zg⟩ := HG.out.blk
      by_cases hl20 : 20 < lo.length
      · go_wp2_with fail
        refine (HL.out _ HT.out.low).mono ?_
        rintro e wl ⟨rfl, hbl⟩
        have TL := Lib.hid (HT.out.later hbl)
        clear hbl
        go_wp2
        go_ret
        exact ⟨rfl, TL.out.low⟩
      by_cases hh20 : 20 < hi.length
      · go_wp2_with fail
        refine (HL.out _ HT.out.low).mono ?_
        rintro e wl ⟨rfl, hbl⟩
        have TL := Lib.hid (HT.out.later hbl)
        clear hbl
        go_wp2
        go_ret
        exact ⟨rfl, TL.out.low⟩
      go_wp2_with fail
      refine (LL.out _ HT.out.low).mono ?_
      rintro e w11 ⟨⟨bl, rfl, hbl⟩, rfl⟩
      cases bl with
      | false =>
        clear hbl
        go_wp2_with fail
        refine (HL.out _ HT.out.low).mono ?_
        rintro e wl ⟨rfl, hbl⟩
        have TL := Lib.hid (HT.out.later hbl)
        clear hbl
        go_wp2
        go_ret
        exact ⟨rfl, TL.out.low⟩
      | true =>
      obtain ⟨_, hls⟩ := hbl rfl
      go_wp2_with fail
      refine (LH.out _ HT.out.low).mono ?_
      rintro e w12 ⟨⟨bh, rfl, hbh⟩, rfl⟩
      cases bh with
      | false =>
        clear hbh
        go_wp2_with fail
        refine (HL.out _ HT.out.low).mono ?_
        rintro e wl ⟨rfl, hbl⟩
        have TL := Lib.hid (HT.out.later hbl)
        clear hbl
        go_wp2
        go_ret
        exact ⟨rfl, TL.out.low⟩
      | true =>
      obtain ⟨_, hhs⟩ := hbh rfl
      have HLN := Lib.hid (HLK.out _ rfl ⟨by show lo.length ≤ 10000; omega, by show hi.length ≤ 10000; omega⟩)
      have FIT := Lib.hid (show (⟨⟨⟨y1, y2⟩, lo, hi, op, k⟩, .slice g1 lo.length g3, .slice g4 hi.length g6⟩ : MV).fits from ⟨HRL.out, fun s hs => Nat.le_trans (hls s hs) (by decide), fun s hs => Nat.le_trans (hhs s hs) (by decide), by show lo.length ≤ 60; omega, by show hi.length ≤ 60; omega⟩)
      have ML := Lib.hid (fun W (hb : Below w.heap.size w W) => mat_Line (⟨⟨⟨y1, y2⟩, lo, hi, op, k⟩, .slice g1 lo.length g3, .slice g4 hi.length g6⟩ : MV) W ⟨HLO.out.below hb, HHI.out.below hb⟩ FIT.out)
      have MR' := Lib.hid (fun W (hb : Below w.heap.size w W) => ref41_Line (⟨⟨⟨y1, y2⟩, lo, hi, op, k⟩, .slice g1 lo.length g3, .slice g4 hi.length g6⟩ : MV) W ⟨HLO.out.below hb, HHI.out.below hb⟩ FIT.out)
      clear LL LH HLK hls hhs FIT HRL
      have hbase : w.heap.size + 1 ≤ w12.heap.size := HT.out.a.2.2
      go_wp2_with (at_builtin; refine halt_ ?_)
      unfold Halt_
      refine app_own Tryz.underlying70 mr_info rfl (by decide) (by decide) rfl _ _ rfl (w.heap.size + 1) rfl (HO.out.alloc _) [.string y1, .string y2, .slice g1 lo.length g3, .slice g4 hi.length g6, .bool op, .int .i64 k] rfl (heap_new1 _ _) rfl (mv_one (x := (⟨⟨⟨y1, y2⟩, lo, hi, op, k⟩, .slice g1 lo.length g3, .slice g4 hi.length g6⟩ : MV)) rfl rfl) ?_ ?_ ?_
      · omega
      · simp; omega
      intro a' cap' w13 hown' hgrow
      have HT := Lib.hid (show OneAt w #[.int .i64 (c0 : Nat), .int .i64 (c1 : Nat), .int .i64 (c2 : Nat), .int .i64 (c3 : Nat), .int .i64 (c4 : Nat)] w13 from ⟨(HT.out.a.alloc _).grown hgrow (fun e => by have := (HO.out.lt _ e.symm).1; omega), below_own (HT.out.low.alloc HT.out.low.size _) (HO.out.alloc _) hgrow (by have := HT.out.low.size; simp; omega) (by omega)⟩)
      have HG := Lib.hid ((HG.out.alloc _).grown (HO.out.alloc _) hgrow (by decide))
      have HW := Lib.hid (own_far (HW.out.alloc _) (HO.out.alloc _) hgrow (by decide))
      have HO := Lib.hid (show w13.ownsRow (w.heap.size + 1) 77 6 (.slice a' (j + 1) cap') (j + 1) ((R.take (j + 1)).flatMap MV.cells) by rw [HTK.out]; exact hown')
      clear hown' hgrow hbase cg fg zg HTK
      obtain ⟨ln, hln⟩ : ∃ s, s = lineM (⟨⟨⟨y1, y2⟩, lo, hi, op, k⟩, .slice g1 lo.length g3, .slice g4 hi.length g6⟩ : MV).s := ⟨_, rfl⟩
      rw [← hln] at ML MR'
      clear hln
      go_wp2_with fail
      have hd := below_drew (Below.refl w13.heap.size w13)
      refine wp_region_held_drew (S := (fun W => ∀ o, W.cell? ⟨G, o, none⟩ = (#[.string y1, .string y2, .slice g1 lo.length g3, .slice g4 hi.length g6, .bool op, .int .i64 k] : Array Value)[o]?)) (by kernel_rfl) (HG.out.below hd).blk.1 (fun hHeld => ?_)
      have HT := Lib.hid (HT.out.later hd)
      have HG := Lib.hid (HG.out.below hd)
      have HO := Lib.hid (own_below HO.out hd)
      have HW := Lib.hid (own_below HW.out hd)
      obtain ⟨wk, hwk⟩ : ∃ W, W = w13.drew := ⟨_, rfl⟩
      rw [← hwk] at HT HG HO HW hHeld ⊢
      clear hwk hd
      (refine hyes 0 ?_); (refine hyes 2 ?_); (try simp only [Act.put, List.setIfInBounds_toArray, List.set])
      (refine held_call 1 rfl (by kernel_rfl) (fun K hK => ?_); go_simp)
      go_at_call 54; refine (ML.out _ HT.out.low).mono ?_; rintro e wz1 ⟨rfl, hbq⟩
      have HT := Lib.hid (HT.out.later hbq)
      have HG := Lib.hid (HG.out.below hbq)
      have HO := Lib.hid (own_below HO.out hbq)
      have HW := Lib.hid (own_below HW.out hbq)
      clear hbq
      (refine hK.out _ _ (HG.out.blk.1) (fun hHeld => ?_); clear hK K; (try simp only [Act.put, List.setIfInBounds_toArray, List.set]))
      (refine held_call 3 rfl (by kernel_rfl) (fun K hK => ?_); go_simp)
      go_at_call 55; refine (MR'.out _ HT.out.low).mono ?_; rintro e w13 ⟨rfl, hbq⟩
      have HT := Lib.hid (HT.out.later hbq)
      have HG := Lib.hid (HG.out.below hbq)
      have HO := Lib.hid (own_below HO.out hbq)
      have HW := Lib.hid (own_below HW.out hbq)
      clear hbq
      (refine hK.out _ _ (HG.out.blk.1) (fun hHeld => ?_); clear hK K; (try simp only [Act.put, List.setIfInBounds_toArray, List.set]))
      (refine hyes 4 ?_); (try simp only [Act.put, List.setIfInBounds_toArray, List.set])
      refine wpAnyH_done (by kernel_rfl) ?_ _
      clear hHeld ML MR'
      obtain ⟨cg, fg, zg⟩ := HG.out.blk
      go_upto_if 56 with fail
      clear cg fg zg
      go_cut [6] (fun s6 wx => ∃ (V : World) (Z : List FV), V = wx ∧ Hid (OneAt w #[.int .i64 (c0 : Nat), .int .i64 (c1 : Nat), .int .i64 (c2 : Nat), .int .i64 (c3 : Nat), .int .i64 (c4 : Nat)] V) ∧ Hid (CAt V G #[.string y1, .string y2, .slice g1 lo.length g3, .slice g4 hi.length g6, .bool op, .int .i64 k] 81) ∧ Hid (V.ownsRow (w.heap.size + 1) 77 6 (.slice a' (j + 1) cap') (j + 1) ((R.take (j + 1)).flatMap MV.cells)) ∧ Hid (V.ownsRow (w.heap.size + 1) 45 6 s6 Z.length (Z.flatMap FV.cells)) ∧ Hid (∀ x ∈ Z, SlA w 1 x.wv x.s.us.length (strs x.s.us)) ∧ Hid (Z.map FV.s = U.map FV.s ++ (if lo.length = 0 then [] else [(⟨1, ⟨y1, y2⟩, lo.take (min lo.length 12)⟩ : FQ)])) ∧ Z.length ≤ U.length + 1)
      case first =>
        obtain ⟨cg, fg, zg⟩ := HG.out.blk
        by_cases h0 : 0 < lo.length
        · have hlo : ¬ lo.length = 0 := by omega
          clear cg fg zg
          go_wp2_with fail
          have hd := below_drew (Below.refl w13.heap.size w13)
          refine wp_region_held_drew (S := (fun W => ∀ o, W.cell? ⟨G, o, none⟩ = (#[.string y1, .string y2, .slice g1 lo.length g3, .slice g4 hi.length g6, .bool op, .int .i64 k] : Array Value)[o]?)) (by kernel_rfl) (HG.out.below hd).blk.1 (fun hHeld => ?_)
          have HT := Lib.hid (HT.out.later hd)
          have HG := Lib.hid (HG.out.below hd)
          have HO := Lib.hid (own_below HO.out hd)
          have HW := Lib.hid (own_below HW.out hd)
          obtain ⟨wk, hwk⟩ : ∃ W, W = w13.drew := ⟨_, rfl⟩
          rw [← hwk] at HT HG HO HW hHeld ⊢
          clear hwk hd
          obtain ⟨n, hn12⟩ : ∃ n, n = min lo.length 12 := ⟨_, rfl⟩
          have hmin : min (lo.length : Int) 12 = (n : Int) := by omega
          have hnl : n ≤ lo.length ∧ n ≤ 12 := by omega
          have HN12 := Lib.hid hn12
          clear hn12
          have hcap : n ≤ g3 := by
            obtain ⟨_, _, c9, e9, h9, _⟩ := HLO.out.pos (by omega)
            simp only [Value.slice.injEq, true_and] at e9
            omega
          (refine hyes 0 ?_); (refine hyes 1 ?_); (refine hyes 2 ?_); (refine hyes 3 ?_); (refine hyes 4 ?_); (refine hyes 5 ?_); (refine hyes 6 ?_); (refine hyes 7 ?_); (refine hyes 8 ?_); (refine hyes 9 ?_); (refine hyes 10 ?_); (try simp only [Act.put, List.setIfInBounds_toArray, List.set])
          (refine held_call 11 rfl (by kernel_rfl) (fun K hK => ?_); go_simp)
          obtain ⟨wn, hwn⟩ : ∃ V, V = wk.alloc (.cells #[.int .i64 1, .string y1, .string y2, .string emp, .string emp, .slice g1 n g3] 45) := ⟨_, rfl⟩
          obtain ⟨bn, hbn⟩ : ∃ b, b = wk.heap.size := ⟨_, rfl⟩
          rw [← hwn, ← hbn]
          have hbq : Below wk.heap.size wk wn := by rw [hwn]; exact (Below.refl _ _).alloc (Nat.le_refl _) _
          have HN2 := Lib.hid (show Sl wn 6 (.slice (some ⟨bn, 0, none⟩) 1 1) 1 [.int .i64 1, .string y1, .string y2, .string emp, .string emp, .slice g1 n g3] by rw [hwn]; exact Sl.new wk [.int .i64 1, .string y1, .string y2, .string emp, .string emp, .slice g1 n g3] 45 6 1 bn hbn rfl (by decide))
          have HT := Lib.hid (HT.out.later hbq)
          have HG := Lib.hid (HG.out.below hbq)
          have HO := Lib.hid (own_below HO.out hbq)
          have HW := Lib.hid (own_below HW.out hbq)
          clear hbq hwn hbn
          (refine hK.out _ _ (HG.out.blk.1) (fun hHeld => ?_); clear hK K; (try simp only [Act.put, List.setIfInBounds_toArray, List.set]))
          refine held_call 12 rfl (by kernel_rfl) (fun K hK => ?_)
          have hbase : w.heap.size + 1 ≤ wn.heap.size := HT.out.a.2.2
          refine step_row rfl _ _ 24 rfl (w.heap.size + 1) 45 qinf _ 6 96 Tryz.underlying24 HQI.out qs0 qs1 qs2 (by decide) rfl (by decide) _ U.length _ rfl HW.out _ 1 _ rfl HN2.out.a (by intro u hu; simp only [List.mem_cons, List.not_mem_nil, or_false] at hu; rcases hu with rfl | rfl | rfl | rfl | rfl | rfl <;> rfl) (by omega) hbase ?_
          intro a5 c5 wc hown5 hg5
          have hlt2 := fun k e => HW.out.lt k e
          have HT := Lib.hid (show OneAt w #[.int .i64 (c0 : Nat), .int .i64 (c1 : Nat), .int .i64 (c2 : Nat), .int .i64 (c3 : Nat), .int .i64 (c4 : Nat)] wc from ⟨(HT.out.a).grown hg5 (fun e => by have := (HW.out.lt _ e.symm).1; omega), below_own (HT.out.low) (HW.out) hg5 (HT.out.low.size) (by omega)⟩)
          clear hlt2
          have HG := Lib.hid ((HG.out).grown (HW.out) hg5 (by decide))
          have HO := Lib.hid (own_far (HO.out) (HW.out) hg5 (by decide))
          obtain ⟨T1, hT2⟩ : ∃ t, t = U ++ [(⟨⟨1, ⟨y1, y2⟩, lo.take n⟩, .slice g1 n g3⟩ : FV)] := ⟨_, rfl⟩
          have HW := Lib.hid (show wc.ownsRow (w.heap.size + 1) 45 6 (.slice a5 (U.length + 1) c5) T1.length (T1.flatMap FV.cells) by rw [hT2, List.length_append, List.flatMap_append]; exact hown5)
          have hTl : T1.length = U.length + 1 := by rw [hT2, List.length_append]; rfl
          have HM := Lib.hid (show T1.map FV.s = U.map FV.s ++ [⟨1, ⟨y1, y2⟩, lo.take n⟩] by rw [hT2, List.map_append]; rfl)
          rw [← hTl] at HW ⊢
          have hTb : T1.length ≤ U.length + 1 := by omega
          have HSU := Lib.hid (show ∀ x ∈ T1, SlA w 1 x.wv x.s.us.length (strs x.s.us) from fun x hx => by
            rw [hT2] at hx
            rcases List.mem_append.1 hx with hx | hx
            · exact HSU.out x hx
            · rw [List.mem_singleton.1 hx]
              show SlA w 1 (.slice g1 n g3) (lo.take n).length (strs (lo.take n))
              rw [show (lo.take n).length = n by rw [List.length_take]; omega]
              exact HLO.out.front (by omega))
          clear hT2 hTl hg5 hown5 HN2 hbase
          (refine hK.out _ _ (HG.out.blk.1) (fun hHeld => ?_); clear hK K; (try simp only [Act.put, List.setIfInBounds_toArray, List.set]))
          (refine hyes 13 ?_); (try simp only [Act.put, List.setIfInBounds_toArray, List.set])
          refine wpAnyH_done (by kernel_rfl) ?_ _
          clear hHeld
          have HM1 := HM
          obtain ⟨w13, hw13⟩ : ∃ W, W = wc := ⟨_, rfl⟩
          rw [← hw13] at HT HG HO HW ⊢
          clear hw13
          go_wp2_with fail
          go_meet
          exact ⟨_, T1, rfl, HT, HG, HO, HW, HSU, Lib.hid (by rw [if_neg hlo, HM1.out, ← HN12.out]), by omega⟩
        · have hlo : lo.length = 0 := by omega
          go_wp2_with fail
          go_meet
          exact ⟨_, U, rfl, HT, HG, HO, HW, HSU, Lib.hid (by rw [if_pos hlo, List.append_nil]), by omega⟩
      case rest =>
      clear HT HG HO HW HSU
      obtain ⟨w13, T1, rfl, HT, HG, HO, HW, HSU, HM1, hT1⟩ := hcut
      obtain ⟨uo1, uc1, rfl⟩ := own_form HW.out
      obtain ⟨bk, hbk⟩ : ∃ b, b = decide (k ≠ 3 ∧ hi.length ≤ 12) := ⟨_, rfl⟩
      have HBK := Lib.hid hbk
      clear hbk
      obtain ⟨cg, fg, zg⟩ := HG.out.blk
      go_upto_region 16 with fail
      clear cg fg zg
      go_cut [78] (fun s78 wx => s78 = .bool bk ∧ wx = w13)
      case first =>
        obtain ⟨cg, fg, zg⟩ := HG.out.blk
        by_cases hk3 : k = 3
        · have HB2 := Lib.hid (show Value.bool false = .bool bk by rw [HBK.out, decide_eq_false (fun h => h.1 hk3)])
          go_wp2_with fail
          go_meet
          exact ⟨HB2.out, rfl⟩
        · have d3 : (k != 3) = true := by simp [hk3]
          by_cases h12 : hi.length ≤ 12
          · have d12 : decide ((hi.length : Int) ≤ 12) = true := by rw [decide_eq_true_iff]; omega
            have HB2 := Lib.hid (show Value.bool true = .bool bk by rw [HBK.out, decide_eq_true ⟨hk3, h12⟩])
            go_wp2_with fail
            go_meet
            exact ⟨by first | exact HB2.out | (rw [d3, d12]; exact HB2.out), rfl⟩
          · have d12 : decide ((hi.length : Int) ≤ 12) = false := by rw [decide_eq_false_iff_not]; omega
            have HB2 := Lib.hid (show Value.bool false = .bool bk by rw [HBK.out, decide_eq_false (fun h => h12 h.2)])
            go_wp2_with fail
            go_meet
            exact ⟨by first | exact HB2.out | (rw [d3, d12]; exact HB2.out), rfl⟩
      case rest =>
      obtain ⟨rfl, rfl⟩ := hcut
      go_upto_if 78 with fail
      go_cut [6] (fun s6 wx => ∃ (V : World) (Z : List FV), V = wx ∧ Hid (OneAt w #[.int .i64 (c0 : Nat), .int .i64 (c1 : Nat), .int .i64 (c2 : Nat), .int .i64 (c3 : Nat), .int .i64 (c4 : Nat)] V) ∧ Hid (CAt V G #[.string y1, .string y2, .slice g1 lo.length g3, .slice g4 hi.length g6, .bool op, .int .i64 k] 81) ∧ Hid (V.ownsRow (w.heap.size + 1) 77 6 (.slice a' (j + 1) cap') (j + 1) ((R.take (j + 1)).flatMap MV.cells)) ∧ Hid (V.ownsRow (w.heap.size + 1) 45 6 s6 Z.length (Z.flatMap FV.cells)) ∧ Hid (∀ x ∈ Z, SlA w 1 x.wv x.s.us.length (strs x.s.us)) ∧ Hid (Z.map FV.s = T1.map FV.s ++ (if k ≠ 3 ∧ hi.length ≤ 12 then [(⟨3, ⟨y1, y2⟩, hi⟩ : FQ)] else [])) ∧ Z.length ≤ T1.length + 1)
      case first =>
        obtain ⟨cg, fg, zg⟩ := HG.out.blk
        cases bk with
        | false =>
          have HNE := Lib.hid (show ¬ (k ≠ 3 ∧ hi.length ≤ 12) from fun h => by have := HBK.out; rw [decide_eq_true h] at this; cases this)
          go_wp2_with fail
          go_meet
          exact ⟨_, T1, rfl, HT, HG, HO, HW, HSU, Lib.hid (by rw [if_neg HNE.out, List.append_nil]), by omega⟩
        | true =>
          have HYE := Lib.hid (of_decide_eq_true HBK.out.symm)
          have hbase := HT.out.a.2.2
          go_wp2_with (at_builtin; refine halt_ ?_)
          unfold Halt_
          refine app_own Tryz.underlying24 qy_info rfl (by decide) (by decide) rfl _ _ rfl (w.heap.size + 1) rfl (HW.out.alloc _) [.int .i64 3, .string y1, .string y2, .string emp, .string emp, .slice g4 hi.length g6] rfl (heap_new1 _ _) rfl (by intro u hu; simp only [List.mem_cons, List.not_mem_nil, or_false] at hu; rcases hu with rfl | rfl | rfl | rfl | rfl | rfl <;> rfl) ?_ ?_ ?_
          · omega
          · simp; omega
          intro a5 c5 w14 hown5 hg5
          have hlt2 := fun k e => HW.out.lt k e
          have HT := Lib.hid (show OneAt w #[.int .i64 (c0 : Nat), .int .i64 (c1 : Nat), .int .i64 (c2 : Nat), .int .i64 (c3 : Nat), .int .i64 (c4 : Nat)] w14 from ⟨(HT.out.a.alloc _).grown hg5 (fun e => by have := (HW.out.lt _ e.symm).1; omega), below_own (HT.out.low.alloc HT.out.low.size _) (HW.out.alloc _) hg5 (by have := HT.out.low.size; simp; omega) (by omega)⟩)
          clear hlt2
          have HG := Lib.hid ((HG.out.alloc _).grown (HW.out.alloc _) hg5 (by decide))
          have HO := Lib.hid (own_far (HO.out.alloc _) (HW.out.alloc _) hg5 (by decide))
          obtain ⟨T9, hT2⟩ : ∃ t, t = T1 ++ [(⟨⟨3, ⟨y1, y2⟩, hi⟩, .slice g4 hi.length g6⟩ : FV)] := ⟨_, rfl⟩
          have HW := Lib.hid (show w14.ownsRow (w.heap.size + 1) 45 6 (.slice a5 (T1.length + 1) c5) T9.length (T9.flatMap FV.cells) by rw [hT2, List.length_append, List.flatMap_append]; exact hown5)
          have hTl : T9.length = T1.length + 1 := by rw [hT2, List.length_append]; rfl
          have HM := Lib.hid (show T9.map FV.s = T1.map FV.s ++ [⟨3, ⟨y1, y2⟩, hi⟩] by rw [hT2, List.map_append]; rfl)
          rw [← hTl] at HW ⊢
          have hTb : T9.length ≤ T1.length + 1 := by omega
          have HSU := Lib.hid (show ∀ x ∈ T9, SlA w 1 x.wv x.s.us.length (strs x.s.us) from fun x hx => by
            rw [hT2] at hx
            rcases List.mem_append.1 hx with hx | hx
            · exact HSU.out x hx
            · rw [List.mem_singleton.1 hx]; exact HHI.out)
          clear hT2 hTl hg5 hown5 hbase cg fg zg
          go_wp2_with fail
          go_meet
          exact ⟨_, T9, rfl, HT, HG, HO, HW, HSU, Lib.hid (by rw [if_pos HYE.out, HM.out]), by omega⟩
      case rest =>
      clear HT HG HO HW HSU
      obtain ⟨w13, T9, rfl, HT, HG, HO, HW, HSU, HM9, hT9⟩ := hcut
      obtain ⟨uo9, uc9, rfl⟩ := own_form HW.out
      have HFE := Lib.hid (show T9.map FV.s = U.map FV.s ++ factsOf ⟨⟨y1, y2⟩, lo, hi, op, k⟩ by rw [HM9.out, HM1.out, List.append_assoc]; rfl)
      clear HM1 HM9
      by_cases h1 : k = 1
      · subst h1
        have HC := Lib.hid (show clsM 1 = 1 from rfl)
        have Q := Lib.hid (show ∀ i : Int, cntM ((R.map MV.s).take (j + 1)) i = cntM ((R.map MV.s).take j) i + if (1 : Int) = i then 1 else 0 from fun i => by rw [HS.out i, HC.out])
        clear HS HC
        skip
        obtain ⟨cg, fg, zg⟩ := HG.out.blk
        obtain ⟨ca, fa, za⟩ := HT.out.a
        go_wp2_with fail
        have HTy := Lib.hid (show OneAt w #[.int .i64 (c0 : Nat), .int .i64 ((c1 + 1) : Nat), .int .i64 (c2 : Nat), .int .i64 (c3 : Nat), .int .i64 (c4 : Nat)] (w13.setCell ⟨w.heap.size, 1, none⟩ (.int .i64 (c1 + 1 : Nat))) from ⟨HT.out.a.put (o := 1) (v := .int .i64 (c1 + 1 : Nat)) (by simp), below_put HT.out.low (Nat.le_refl _)⟩)
        have HOy := Lib.hid (own_grown HO.out (gb_setCell (g := w.heap.size) (o := 1) (World.grownBy.refl _ _) (.int .i64 (c1 + 1 : Nat))) (fun q hq e => by have := (HO.out.lt _ hq.symm).1; have := Option.some.inj e; omega))
        have HWy := Lib.hid (own_grown HW.out (gb_setCell (g := w.heap.size) (o := 1) (World.grownBy.refl _ _) (.int .i64 (c1 + 1 : Nat))) (fun q hq e => by have := (HW.out.lt _ hq.symm).1; have := Option.some.inj e; omega))
        rw [show ((c1 + 1 : Nat) : Int) = (c1 : Int) + 1 from rfl] at HTy HOy HWy
        exact ⟨⟨j + 1, c0, (c1 + 1), c2, c3, c4, T9, by omega, by go_num, Lib.hid (by
          refine ⟨?_, ?_, ?_, ?_, ?_⟩
          · rw [Q.out, ← HN.out.1]; rfl
          · rw [Q.out, ← HN.out.2.1]; rfl
          · rw [Q.out, ← HN.out.2.2.1]; rfl
          · rw [Q.out, ← HN.out.2.2.2.1]; rfl
          · rw [Q.out, ← HN.out.2.2.2.2]; rfl), HTy, HOy, HWy, Lib.hid (by rw [HFE.out, FS.out, HTE.out]), HSU, HLN⟩, by simp [intOf]; omega⟩
      by_cases h2 : k = 2
      · subst h2
        have HC := Lib.hid (show clsM 2 = 2 from rfl)
        have Q := Lib.hid (show ∀ i : Int, cntM ((R.map MV.s).take (j + 1)) i = cntM ((R.map MV.s).take j) i + if (2 : Int) = i then 1 else 0 from fun i => by rw [HS.out i, HC.out])
        clear HS HC
        skip
        obtain ⟨cg, fg, zg⟩ := HG.out.blk
        obtain ⟨ca, fa, za⟩ := HT.out.a
        go_wp2_with fail
        have HTy := Lib.hid (show OneAt w #[.int .i64 (c0 : Nat), .int .i64 (c1 : Nat), .int .i64 ((c2 + 1) : Nat), .int .i64 (c3 : Nat), .int .i64 (c4 : Nat)] (w13.setCell ⟨w.heap.size, 2, none⟩ (.int .i64 (c2 + 1 : Nat))) from ⟨HT.out.a.put (o := 2) (v := .int .i64 (c2 + 1 : Nat)) (by simp), below_put HT.out.low (Nat.le_refl _)⟩)
        have HOy := Lib.hid (own_grown HO.out (gb_setCell (g := w.heap.size) (o := 2) (World.grownBy.refl _ _) (.int .i64 (c2 + 1 : Nat))) (fun q hq e => by have := (HO.out.lt _ hq.symm).1; have := Option.some.inj e; omega))
        have HWy := Lib.hid (own_grown HW.out (gb_setCell (g := w.heap.size) (o := 2) (World.grownBy.refl _ _) (.int .i64 (c2 + 1 : Nat))) (fun q hq e => by have := (HW.out.lt _ hq.symm).1; have := Option.some.inj e; omega))
        rw [show ((c2 + 1 : Nat) : Int) = (c2 : Int) + 1 from rfl] at HTy HOy HWy
        exact ⟨⟨j + 1, c0, c1, (c2 + 1), c3, c4, T9, by omega, by go_num, Lib.hid (by
          refine ⟨?_, ?_, ?_, ?_, ?_⟩
          · rw [Q.out, ← HN.out.1]; rfl
          · rw [Q.out, ← HN.out.2.1]; rfl
          · rw [Q.out, ← HN.out.2.2.1]; rfl
          · rw [Q.out, ← HN.out.2.2.2.1]; rfl
          · rw [Q.out, ← HN.out.2.2.2.2]; rfl), HTy, HOy, HWy, Lib.hid (by rw [HFE.out, FS.out, HTE.out]), HSU, HLN⟩, by simp [intOf]; omega⟩
      by_cases h3 : k = 3
      · subst h3
        have HC := Lib.hid (show clsM 3 = 3 from rfl)
        have Q := Lib.hid (show ∀ i : Int, cntM ((R.map MV.s).take (j + 1)) i = cntM ((R.map MV.s).take j) i + if (3 : Int) = i then 1 else 0 from fun i => by rw [HS.out i, HC.out])
        clear HS HC
        skip
        obtain ⟨cg, fg, zg⟩ := HG.out.blk
        obtain ⟨ca, fa, za⟩ := HT.out.a
        go_wp2_with fail
        have HTy := Lib.hid (show OneAt w #[.int .i64 (c0 : Nat), .int .i64 (c1 : Nat), .int .i64 (c2 : Nat), .int .i64 ((c3 + 1) : Nat), .int .i64 (c4 : Nat)] (w13.setCell ⟨w.heap.size, 3, none⟩ (.int .i64 (c3 + 1 : Nat))) from ⟨HT.out.a.put (o := 3) (v := .int .i64 (c3 + 1 : Nat)) (by simp), below_put HT.out.low (Nat.le_refl _)⟩)
        have HOy := Lib.hid (own_grown HO.out (gb_setCell (g := w.heap.size) (o := 3) (World.grownBy.refl _ _) (.int .i64 (c3 + 1 : Nat))) (fun q hq e => by have := (HO.out.lt _ hq.symm).1; have := Option.some.inj e; omega))
        have HWy := Lib.hid (own_grown HW.out (gb_setCell (g := w.heap.size) (o := 3) (World.grownBy.refl _ _) (.int .i64 (c3 + 1 : Nat))) (fun q hq e => by have := (HW.out.lt _ hq.symm).1; have := Option.some.inj e; omega))
        rw [show ((c3 + 1 : Nat) : Int) = (c3 : Int) + 1 from rfl] at HTy HOy HWy
        exact ⟨⟨j + 1, c0, c1, c2, (c3 + 1), c4, T9, by omega, by go_num, Lib.hid (by
          refine ⟨?_, ?_, ?_, ?_, ?_⟩
          · rw [Q.out, ← HN.out.1]; rfl
          · rw [Q.out, ← HN.out.2.1]; rfl
          · rw [Q.out, ← HN.out.2.2.1]; rfl
          · rw [Q.out, ← HN.out.2.2.2.1]; rfl
          · rw [Q.out, ← HN.out.2.2.2.2]; rfl), HTy, HOy, HWy, Lib.hid (by rw [HFE.out, FS.out, HTE.out]), HSU, HLN⟩, by simp [intOf]; omega⟩
      by_cases h4 : k = 4
      · subst h4
        have HC := Lib.hid (show clsM 4 = 4 from rfl)
        have Q := Lib.hid (show ∀ i : Int, cntM ((R.map MV.s).take (j + 1)) i = cntM ((R.map MV.s).take j) i + if (4 : Int) = i then 1 else 0 from fun i => by rw [HS.out i, HC.out])
        clear HS HC
        skip
        obtain ⟨cg, fg, zg⟩ := HG.out.blk
        obtain ⟨ca, fa, za⟩ := HT.out.a
        go_wp2_with fail
        have HTy := Lib.hid (show OneAt w #[.int .i64 (c0 : Nat), .int .i64 (c1 : Nat), .int .i64 (c2 : Nat), .int .i64 (c3 : Nat), .int .i64 ((c4 + 1) : Nat)] (w13.setCell ⟨w.heap.size, 4, none⟩ (.int .i64 (c4 + 1 : Nat))) from ⟨HT.out.a.put (o := 4) (v := .int .i64 (c4 + 1 : Nat)) (by simp), below_put HT.out.low (Nat.le_refl _)⟩)
        have HOy := Lib.hid (own_grown HO.out (gb_setCell (g := w.heap.size) (o := 4) (World.grownBy.refl _ _) (.int .i64 (c4 + 1 : Nat))) (fun q hq e => by have := (HO.out.lt _ hq.symm).1; have := Option.some.inj e; omega))
        have HWy := Lib.hid (own_grown HW.out (gb_setCell (g := w.heap.size) (o := 4) (World.grownBy.refl _ _) (.int .i64 (c4 + 1 : Nat))) (fun q hq e => by have := (HW.out.lt _ hq.symm).1; have := Option.some.inj e; omega))
        rw [show ((c4 + 1 : Nat) : Int) = (c4 : Int) + 1 from rfl] at HTy HOy HWy
        exact ⟨⟨j + 1, c0, c1, c2, c3, (c4 + 1), T9, by omega, by go_num, Lib.hid (by
          refine ⟨?_, ?_, ?_, ?_, ?_⟩
          · rw [Q.out, ← HN.out.1]; rfl
          · rw [Q.out, ← HN.out.2.1]; rfl
          · rw [Q.out, ← HN.out.2.2.1]; rfl
          · rw [Q.out, ← HN.out.2.2.2.1]; rfl
          · rw [Q.out, ← HN.out.2.2.2.2]; rfl), HTy, HOy, HWy, Lib.hid (by rw [HFE.out, FS.out, HTE.out]), HSU, HLN⟩, by simp [intOf]; omega⟩
      have HC := Lib.hid (show clsM k = 0 by unfold clsM; exact if_neg (by omega))
      have Q := Lib.hid (show ∀ i : Int, cntM ((R.map MV.s).take (j + 1)) i = cntM ((R.map MV.s).take j) i + if (0 : Int) = i then 1 else 0 from fun i => by rw [HS.out i, HC.out])
      clear HS HC
      have hk0 : 1 ≤ k → ¬ k ≤ 4 := by omega
      obtain ⟨cg, fg, zg⟩ := HG.out.blk
      obtain ⟨ca, fa, za⟩ := HT.out.a
      by_cases hk1 : 1 ≤ k
      · have hk2 := hk0 hk1
        clear hk0
        go_wp2_with fail
        have HTy := Lib.hid (show OneAt w #[.int .i64 ((c0 + 1) : Nat), .int .i64 (c1 : Nat), .int .i64 (c2 : Nat), .int .i64 (c3 : Nat), .int .i64 (c4 : Nat)] (w13.setCell ⟨w.heap.size, 0, none⟩ (.int .i64 (c0 + 1 : Nat))) from ⟨HT.out.a.put (o := 0) (v := .int .i64 (c0 + 1 : Nat)) (by simp), below_put HT.out.low (Nat.le_refl _)⟩)
        have HOy := Lib.hid (own_grown HO.out (gb_setCell (g := w.heap.size) (o := 0) (World.grownBy.refl _ _) (.int .i64 (c0 + 1 : Nat))) (fun q hq e => by have := (HO.out.lt _ hq.symm).1; have := Option.some.inj e; omega))
        have HWy := Lib.hid (own_grown HW.out (gb_setCell (g := w.heap.size) (o := 0) (World.grownBy.refl _ _) (.int .i64 (c0 + 1 : Nat))) (fun q hq e => by have := (HW.out.lt _ hq.symm).1; have := Option.some.inj e; omega))
        rw [show ((c0 + 1 : Nat) : Int) = (c0 : Int) + 1 from rfl] at HTy HOy HWy
        exact ⟨⟨j + 1, (c0 + 1), c1, c2, c3, c4, T9, by omega, by go_num, Lib.hid (by
          refine ⟨?_, ?_, ?_, ?_, ?_⟩
          · rw [Q.out, ← HN.out.1]; rfl
          · rw [Q.out, ← HN.out.2.1]; rfl
          · rw [Q.out, ← HN.out.2.2.1]; rfl
          · rw [Q.out, ← HN.out.2.2.2.1]; rfl
          · rw [Q.out, ← HN.out.2.2.2.2]; rfl), HTy, HOy, HWy, Lib.hid (by rw [HFE.out, FS.out, HTE.out]), HSU, HLN⟩, by simp [intOf]; omega⟩
      · clear hk0
        go_wp2_with fail
        have HTy := Lib.hid (show OneAt w #[.int .i64 ((c0 + 1) : Nat), .int .i64 (c1 : Nat), .int .i64 (c2 : Nat), .int .i64 (c3 : Nat), .int .i64 (c4 : Nat)] (w13.setCell ⟨w.heap.size, 0, none⟩ (.int .i64 (c0 + 1 : Nat))) from ⟨HT.out.a.put (o := 0) (v := .int .i64 (c0 + 1 : Nat)) (by simp), below_put HT.out.low (Nat.le_refl _)⟩)
        have HOy := Lib.hid (own_grown HO.out (gb_setCell (g := w.heap.size) (o := 0) (World.grownBy.refl _ _) (.int .i64 (c0 + 1 : Nat))) (fun q hq e => by have := (HO.out.lt _ hq.symm).1; have := Option.some.inj e; omega))
        have HWy := Lib.hid (own_grown HW.out (gb_setCell (g := w.heap.size) (o := 0) (World.grownBy.refl _ _) (.int .i64 (c0 + 1 : Nat))) (fun q hq e => by have := (HW.out.lt _ hq.symm).1; have := Option.some.inj e; omega))
        rw [show ((c0 + 1 : Nat) : Int) = (c0 : Int) + 1 from rfl] at HTy HOy HWy
        exact ⟨⟨j + 1, (c0 + 1), c1, c2, c3, c4, T9, by omega, by go_num, Lib.hid (by
          refine ⟨?_, ?_, ?_, ?_, ?_⟩
          · rw [Q.out, ← HN.out.1]; rfl
          · rw [Q.out, ← HN.out.2.1]; rfl
          · rw [Q.out, ← HN.out.2.2.1]; rfl
          · rw [Q.out, ← HN.out.2.2.2.1]; rfl
          · rw [Q.out, ← HN.out.2.2.2.2]; rfl), HTy, HOy, HWy, Lib.hid (by rw [HFE.out, FS.out, HTE.out]), HSU, HLN⟩, by simp [intOf]; omega⟩
    · have HCV := Lib.hid (show cntV (R.map MV.s) = .agg #[.int .i64 (c0 : Nat), .int .i64 (c1 : Nat), .int .i64 (c2 : Nat), .int .i64 (c3 : Nat), .int .i64 (c4 : Nat)] by
        have e : (R.map MV.s).take j = R.map MV.s := List.take_of_length_le (by rw [List.length_map]; omega)
        have h := HN.out
        rw [e] at h
        unfold cntV
        rw [h.1, h.2.1, h.2.2.1, h.2.2.2.1, h.2.2.2.2])
      have HES := Lib.hid (show U.map FV.s = factsM (R.map MV.s) by rw [HTE.out, List.take_of_length_le (by rw [List.length_map]; omega)])
      have FL := Lib.hid (show ∀ x ∈ R, x.s.lo.length ≤ 10000 ∧ x.s.hi.length ≤ 10000 by have h := HLN.out; rwa [List.take_of_length_le (by omega)] at h)
      have hjl : j = R.length := by omega
      have HO := Lib.hid (show SlA wr 6 (.slice ro R.length rc) R.length (R.flatMap MV.cells) by have h := (Sl.of_own HO.out).a; rwa [List.take_of_length_le (show R.length ≤ j by omega), hjl] at h)
      have HOK := Lib.hid (fun W (hb : Below w.heap.size w W) x hx => ((HK.out x hx).1.1 : MV.ok w x).below hb)
      have HFO := Lib.hid (show ∀ x ∈ R, x.form from fun x hx => by
        obtain ⟨a, c, e⟩ := (HK.out x hx).1.1.1.form
        obtain ⟨a', c', e'⟩ := (HK.out x hx).1.1.2.form
        exact ⟨⟨_, _, _, e⟩, ⟨_, _, _, e'⟩⟩)
      have hU40 : U.length ≤ 40 := by
        have h1 := congrArg List.length HES.out
        have h2 := factsM_len (R.map MV.s)
        rw [List.length_map] at h1 h2
        omega
      have HKEY := Lib.hid (show ∀ (N : Nat) (T : List FV), N = min U.length (max 0 (min most 1000)).toNat → T.map FV.s = (factsM (R.map MV.s)).take (max 0 (min most 1000)).toNat → T.map FV.s = (U.take N).map FV.s from fun N T hN hT => by
        rw [List.map_take, HES.out, hT]
        exact (take_min (by rw [← HES.out, List.length_map]; exact hN)).symm)
      have HUA := Lib.hid (show ∀ (N : Nat), ∀ x ∈ U.take N, SlA w 1 x.wv x.s.us.length (strs x.s.us) from fun N x hx => HSU.out x (List.mem_of_mem_take hx))
      obtain ⟨_, _, he9, ho9⟩ := own_form2 HW.out
      simp only [Value.slice.injEq, true_and] at he9
      obtain ⟨rfl, rfl⟩ := he9
      have HSL := Lib.hid (Sl.of_own HW.out)
      clear HN HTE HES HSU HLN hcs hU0 HR
      have HAD := Lib.hid (show ∀ x : Addr, x.add 0 = x from fun x => by cases x; simp [Addr.add])
      have hz : uc = 0 ∨ ∃ b o, uo = some ⟨b, o, none⟩ := by
        rcases HSL.out.2.2 with ⟨e, _⟩ | ⟨b, o, c, e, _⟩
        · simp only [Value.slice.injEq] at e; exact .inl e.2.2
        · simp only [Value.slice.injEq] at e; exact .inr ⟨b, o, e.1⟩
      rcases hz with rfl | ⟨b0, o0, rfl⟩
      · obtain rfl := List.eq_nil_of_length_eq_zero (show U.length = 0 by omega)
        clear HSL
        have hNN : max 0 (min most 0) = (0 : Int) := by omega
        have HKN := Lib.hid (fun T h => HKEY.out (0) T (by omega) h)
        have HUN := Lib.hid (HUA.out (0))
        have hul : (([] : List FV).take (0)).length = 0 := by rw [List.length_take]; omega
        have HQ := Lib.hid (show SlA wr 6 (.slice uo (0) 0) (([] : List FV).take (0)).length ((([] : List FV).take (0)).flatMap FV.cells) by rw [hul, fv_take]; exact ((Sl.of_own HW.out).front (by omega)).a)
        clear hul HKEY HUA HW
        go_wp2_with fail
        have hd := below_drew (Below.refl wr.heap.size wr)
        refine wp_region_held_drew (S := (fun W => ∀ o, W.cell? ⟨w.heap.size, o, none⟩ = (#[.int .i64 (c0 : Nat), .int .i64 (c1 : Nat), .int .i64 (c2 : Nat), .int .i64 (c3 : Nat), .int .i64 (c4 : Nat)] : Array Value)[o]?)) (by kernel_rfl) (HT.out.later hd).a.1 (fun hHeld => ?_)
        have HT := Lib.hid (HT.out.later hd)
        have HO := Lib.hid (HO.out.below hd)
        have HQ := Lib.hid (HQ.out.below hd)
        obtain ⟨wk, hwk⟩ : ∃ W, W = wr.drew := ⟨_, rfl⟩
        rw [← hwk] at HT HO HQ hHeld ⊢
        clear hwk hd
        (refine hyes 0 ?_); (refine hyes 1 ?_); (refine hyes 3 ?_); (refine hyes 4 ?_); (refine hyes 5 ?_); (refine hyes 6 ?_); (refine hyes 7 ?_); (refine hyes 8 ?_); (refine hyes 9 ?_); (try simp only [Act.put, List.setIfInBounds_toArray, List.set])
        (refine held_call 2 rfl (by kernel_rfl) (fun K hK => ?_); go_simp)
        go_at_call 58; refine (mat_Facts _ R most _ hm HO.out (HOK.out _ HT.out.low) FL.out (by omega)).mono ?_; rintro e wz2 ⟨v10, T, rfl, hs10, hfi, hmap, hbq⟩
        have HT := Lib.hid (HT.out.later hbq)
        have HO := Lib.hid (HO.out.below hbq)
        have HQ := Lib.hid (HQ.out.below hbq)
        have HF := Lib.hid hs10.a
        have HFI := Lib.hid (fun x hx => (Sl.of_own (hfi x hx)).a)
        have HKT := Lib.hid (HKN.out T hmap)
        obtain ⟨fa, fc, rfl⟩ := hs10.form
        clear hbq hs10 hfi hmap HKN
        (refine hK.out _ _ (HT.out.a.1) (fun hHeld => ?_); clear hK K; (try simp only [Act.put, List.setIfInBounds_toArray, List.set]))
        (refine held_call 10 rfl (by kernel_rfl) (fun K hK => ?_); go_simp)
        go_at_call 60; refine (ref4_SameAllX _ _ T (([] : List FV).take (0)) _ HF.out HQ.out HKT.out HFI.out (fun x hx => (HUN.out x hx).below HT.out.low)).mono ?_; rintro e wz10 ⟨rfl, hbq⟩
        have HT := Lib.hid (HT.out.later hbq)
        have HO := Lib.hid (HO.out.below hbq)
        have HQ := Lib.hid (HQ.out.below hbq)
        clear hbq HF HFI HKT HUN
        (refine hK.out _ _ (HT.out.a.1) (fun hHeld => ?_); clear hK K; (try simp only [Act.put, List.setIfInBounds_toArray, List.set]))
        (refine hyes 11 ?_); (refine hyes 12 ?_); (refine hyes 14 ?_); (try simp only [Act.put, List.setIfInBounds_toArray, List.set])
        (refine held_call 13 rfl (by kernel_rfl) (fun K hK => ?_); go_simp)
        go_at_call 56; refine (mat_Counts _ R _ HO.out HFO.out (by omega)).mono ?_; rintro e wz13 ⟨rfl, hbq⟩
        rw [HCV.out]
        have HT := Lib.hid (HT.out.later hbq)
        have HO := Lib.hid (HO.out.below hbq)
        have HQ := Lib.hid (HQ.out.below hbq)
        clear hbq
        (refine hK.out _ _ (HT.out.a.1) (fun hHeld => ?_); clear hK K; (try simp only [Act.put, List.setIfInBounds_toArray, List.set]))
        have A5 := arr5_eql c0 c1 c2 c3 c4
        (refine hyes 15 ?_); (refine hyes 16 ?_); (refine hyes 17 ?_); (try simp only [Act.put, List.setIfInBounds_toArray, List.set])
        (refine held_call 18 rfl (by kernel_rfl) (fun K hK => ?_); go_simp)
        go_at_call 48; refine (HL.out _ HT.out.low).mono ?_; rintro e wz18 ⟨rfl, hbq⟩
        have HT := Lib.hid (HT.out.later hbq)
        have HO := Lib.hid (HO.out.below hbq)
        have HQ := Lib.hid (HQ.out.below hbq)
        clear hbq
        (refine hK.out _ _ (HT.out.a.1) (fun hHeld => ?_); clear hK K; (try simp only [Act.put, List.setIfInBounds_toArray, List.set]))
        (refine hyes 19 ?_); (refine hyes 20 ?_); (try simp only [Act.put, List.setIfInBounds_toArray, List.set])
        refine wpAnyH_done (by kernel_rfl) ?_ _
        have HZ := Lib.hid HT.out.low
        clear HT A5
        go_wp2_with fail
        go_ret
        exact ⟨rfl, HZ.out⟩
      · clear HSL
        obtain ⟨N, hNN⟩ : ∃ N : Nat, max 0 (min most (U.length : Int)) = (N : Int) := ⟨(max 0 (min most (U.length : Int))).toNat, by omega⟩
        have hN1 : N ≤ uc := by omega
        have hN2 : N ≤ U.length := by omega
        have HKN := Lib.hid (fun T h => HKEY.out (N) T (by omega) h)
        have HUN := Lib.hid (HUA.out (N))
        have hul : (U.take (N)).length = N := by rw [List.length_take]; omega
        have HQ := Lib.hid (show SlA wr 6 (.slice (some ⟨b0, o0, none⟩) (N) uc) (U.take (N)).length ((U.take (N)).flatMap FV.cells) by rw [hul, fv_take]; exact ((Sl.of_own HW.out).front (by omega)).a)
        clear hul HKEY HUA HW
        go_wp2_with fail
        have hd := below_drew (Below.refl wr.heap.size wr)
        refine wp_region_held_drew (S := (fun W => ∀ o, W.cell? ⟨w.heap.size, o, none⟩ = (#[.int .i64 (c0 : Nat), .int .i64 (c1 : Nat), .int .i64 (c2 : Nat), .int .i64 (c3 : Nat), .int .i64 (c4 : Nat)] : Array Value)[o]?)) (by kernel_rfl) (HT.out.later hd).a.1 (fun hHeld => ?_)
        have HT := Lib.hid (HT.out.later hd)
        have HO := Lib.hid (HO.out.below hd)
        have HQ := Lib.hid (HQ.out.below hd)
        obtain ⟨wk, hwk⟩ : ∃ W, W = wr.drew := ⟨_, rfl⟩
        rw [← hwk] at HT HO HQ hHeld ⊢
        clear hwk hd
        (refine hyes 0 ?_); (refine hyes 1 ?_); (refine hyes 3 ?_); (refine hyes 4 ?_); (refine hyes 5 ?_); (refine hyes 6 ?_); (refine hyes 7 ?_); (refine hyes 8 ?_); (refine hyes 9 ?_); (try simp only [Act.put, List.setIfInBounds_toArray, List.set])
        (refine held_call 2 rfl (by kernel_rfl) (fun K hK => ?_); go_simp)
        go_at_call 58; refine (mat_Facts _ R most _ hm HO.out (HOK.out _ HT.out.low) FL.out (by omega)).mono ?_; rintro e wz2 ⟨v10, T, rfl, hs10, hfi, hmap, hbq⟩
        have HT := Lib.hid (HT.out.later hbq)
        have HO := Lib.hid (HO.out.below hbq)
        have HQ := Lib.hid (HQ.out.below hbq)
        have HF := Lib.hid hs10.a
        have HFI := Lib.hid (fun x hx => (Sl.of_own (hfi x hx)).a)
        have HKT := Lib.hid (HKN.out T hmap)
        obtain ⟨fa, fc, rfl⟩ := hs10.form
        clear hbq hs10 hfi hmap HKN
        (refine hK.out _ _ (HT.out.a.1) (fun hHeld => ?_); clear hK K; (try simp only [Act.put, List.setIfInBounds_toArray, List.set]))
        (refine held_call 10 rfl (by kernel_rfl) (fun K hK => ?_); go_simp)
        go_at_call 60; refine (ref4_SameAllX _ _ T (U.take (N)) _ HF.out HQ.out HKT.out HFI.out (fun x hx => (HUN.out x hx).below HT.out.low)).mono ?_; rintro e wz10 ⟨rfl, hbq⟩
        have HT := Lib.hid (HT.out.later hbq)
        have HO := Lib.hid (HO.out.below hbq)
        have HQ := Lib.hid (HQ.out.below hbq)
        clear hbq HF HFI HKT HUN
        (refine hK.out _ _ (HT.out.a.1) (fun hHeld => ?_); clear hK K; (try simp only [Act.put, List.setIfInBounds_toArray, List.set]))
        (refine hyes 11 ?_); (refine hyes 12 ?_); (refine hyes 14 ?_); (try simp only [Act.put, List.setIfInBounds_toArray, List.set])
        (refine held_call 13 rfl (by kernel_rfl) (fun K hK => ?_); go_simp)
        go_at_call 56; refine (mat_Counts _ R _ HO.out HFO.out (by omega)).mono ?_; rintro e wz13 ⟨rfl, hbq⟩
        rw [HCV.out]
        have HT := Lib.hid (HT.out.later hbq)
        have HO := Lib.hid (HO.out.below hbq)
        have HQ := Lib.hid (HQ.out.below hbq)
        clear hbq
        (refine hK.out _ _ (HT.out.a.1) (fun hHeld => ?_); clear hK K; (try simp only [Act.put, List.setIfInBounds_toArray, List.set]))
        have A5 := arr5_eql c0 c1 c2 c3 c4
        (refine hyes 15 ?_); (refine hyes 16 ?_); (refine hyes 17 ?_); (try simp only [Act.put, List.setIfInBounds_toArray, List.set])
        (refine held_call 18 rfl (by kernel_rfl) (fun K hK => ?_); go_simp)
        go_at_call 48; refine (HL.out _ HT.out.low).mono ?_; rintro e wz18 ⟨rfl, hbq⟩
        have HT := Lib.hid (HT.out.later hbq)
        have HO := Lib.hid (HO.out.below hbq)
        have HQ := Lib.hid (HQ.out.below hbq)
        clear hbq
        (refine hK.out _ _ (HT.out.a.1) (fun hHeld => ?_); clear hK K; (try simp only [Act.put, List.setIfInBounds_toArray, List.set]))
        (refine hyes 19 ?_); (refine hyes 20 ?_); (try simp only [Act.put, List.setIfInBounds_toArray, List.set])
        refine wpAnyH_done (by kernel_rfl) ?_ _
        have HZ := Lib.hid HT.out.low
        clear HT A5
        go_wp2_with fail
        go_ret
        exact ⟨rfl, HZ.out⟩
end Go.Proofs.YtcmdhfccdkjenaaGreatDoor
namespace Go.Proofs.YtcmdhfccdkjenaaGreatDoor
open Go.ChangeShapes Go.WideShapes Go.ChangeAt Go.RowKit

def bruijnL : List (String × DataW Unit) := [("math/bits.deBruijn64tab", Rows.laid_math_bits_deBruijn64tab)]
theorem bruijn_tab : (Rows.laid_math_bits_deBruijn64tab : DataW Unit) = Lib.tabData .u8 (Lib.deBruijn64tab.map fun (n : Nat) => (n : Int)) := by rfl
noncomputable def laidWorld (os : Os) : World := World.laidAll Tryz.prog os bruijnL
theorem laid_met (os : Os) (args : Array Value) : laidMet Tryz.prog bruijnL ((laidWorld os).forCall (fun _ _ => 0) ⟨#[], args, []⟩).memory := laidMet_laidAll args (by kernel_rfl) (by kernel_rfl)
theorem tb_of_laid {W : World} (h : laidMet Tryz.prog bruijnL W) : TB W := by
  unfold bruijnL at h
  rw [bruijn_tab] at h
  have ht := Lib.tabIs_of_head (t := 231) (e := 5) (n := 64) (g := 0) (by kernel_rfl) (by kernel_rfl) Tryz.underlying231 Tryz.underlying5 (by kernel_rfl) (by kernel_rfl) h
  intro j hj
  have := ht.cell (g := 0) (by kernel_rfl) j (by rw [List.length_map]; exact hj)
  rw [this, List.getD_eq_getElem?_getD, List.getElem?_map, List.getD_eq_getElem?_getD, List.getElem?_eq_getElem hj]
  rfl
theorem ownK : ownKnob Tryz.prog.godebug = none := by kernel_rfl
section
variable {H : Type} {enc : TypeId × Value → H} {w : World} {base b0 : Nat} {held : Bool} {r : Reach} {v : Value} {d : DataW H} {ps : List MemPlace}
end
end Go.Proofs.YtcmdhfccdkjenaaGreatDoor
